/- The helpers of layer 9's laws, walked: great, own, Solid. No condition. -/
import Derived.Test.YtnnbcflpbpafeaaIs
namespace Go.Proofs.Ytnnbcflpbpafeaa
open Go.RowKit

theorem great_any (N : Int) (A : Option Addr) (n c : Nat) (w : World) : Calls Try.prog 12 #[.agg #[.int .i64 N, .slice A n c]] w fun e w' => e = .returned (.bool (decide (40 < n) || decide (40 < N))) ∧ Below w.heap.size w w' := by
  by_cases h : 40 < n
  · have h' : (40 : Int) < (n : Int) := by omega
    go_enter Try.func12, Try.ntmps12
    go_wp2_with fail
    go_ret
    exact ⟨by simp [h], (Below.refl _ _).alloc (Nat.le_refl _) _⟩
  · have h' : ¬ (40 : Int) < (n : Int) := by omega
    go_enter Try.func12, Try.ntmps12
    go_wp2_with fail
    go_ret
    refine ⟨?_, (Below.refl _ _).alloc (Nat.le_refl _) _⟩
    first | rfl | simp [h]
/-- A list of triangles in memory of its own. -/
def OwnPost (w : World) (N : Int) (T : List Tri) (e : Ending) (w' : World) : Prop := ∃ A c, e = .returned (.agg #[.int .i64 N, .slice A T.length c]) ∧ w'.ownsRow w.heap.size 30 3 (.slice A T.length c) T.length (T.flatMap Tri.cells) ∧ Below w.heap.size w w'
theorem tri_info : (Try.prog.info? 30).map (fun i => (i.zero, i.size, i.bytes)) = some (some (.agg #[.int .i64 0, .int .i64 0, .int .i64 0]), 3, 24) := by kernel_rfl
set_option maxRecDepth 100000 in
set_option maxHeartbeats 2000000 in
theorem solid_any (w : World) : Calls Try.prog 22 #[] w (OwnPost w 4 solid) := by
  go_enter Try.func22, Try.ntmps22
  go_wp2_with fail
  refine bodyPost_ret (v := .agg #[.int .i64 4, .slice (some ⟨w.heap.size + 1, 0, none⟩) 4 4]) ?_ rfl ⟨_, _, rfl, ?_, ((Below.refl _ _).alloc (Nat.le_refl _) _).alloc (by simp) _⟩
  · simp [results, Try.results22, go_sem]
  · exact ⟨rfl, .inr ⟨w.heap.size + 1, 4, _, rfl, by omega, Blk.new_ (by simp) _ _, Nat.le_refl _, by decide, rfl, rfl⟩⟩
theorem own_empty {w : World} {base g : Nat} {t : TypeId} {size : Nat} (hg : w.heap.size = g) (hb : base ≤ g) : (w.alloc (.cells #[] t)).ownsRow base t size (.slice (some ⟨g, 0, none⟩) 0 0) 0 [] := by
  subst hg
  exact ⟨by simp, .inr ⟨w.heap.size, 0, #[], rfl, hb, heap_alloc_new _ _, Nat.le_refl _, Nat.zero_le _, by simp, by simp⟩⟩
theorem tris_one (T : List Tri) : ∀ u ∈ T.flatMap Tri.cells, u.oneCell' = true := by
  intro u hu
  obtain ⟨t, _, h⟩ := List.mem_flatMap.1 hu
  simp [Tri.cells] at h
  rcases h with rfl | rfl | rfl <;> rfl
set_option maxRecDepth 100000 in
set_option maxHeartbeats 2000000 in
theorem own_any (N : Int) (A : Option Addr) (n c : Nat) (T : List Tri) (w : World) (hn : n ≤ 1000) (ht : TrisAt w w.heap.size A n T) :
    Calls Try.prog 13 #[.agg #[.int .i64 N, .slice A n c]] w (OwnPost w N T) := by
  obtain rfl := ht.len
  obtain ⟨i0, hi0, hz0, hz1, hz2⟩ := info_parts tri_info
  have HT := Lib.hid ht
  clear ht
  go_enter Try.func13, Try.ntmps13
  obtain ⟨V, hV⟩ : ∃ V, V = (w.alloc (.cells #[.int .i64 N, .slice A T.length c] 24)).alloc (.cells #[.int .i64 0, .slice none 0 0] 24) := ⟨_, rfl⟩
  have HB : Hid (Below w.heap.size w V) := by subst hV; exact Lib.hid (((Below.refl _ _).alloc (Nat.le_refl _) _).alloc (by simp) _)
  have HR := Lib.hid ((HT.out.row.below HB.out).alloc HB.out.size (.cells #[] 30))
  have HBX : Hid (Blk V w.heap.size 24 #[.int .i64 N, .slice A T.length c]) := by subst hV; exact Lib.hid ((Blk.new _ _ _).alloc _)
  have HBR : Hid (Blk V (w.heap.size + 1) 24 #[.int .i64 0, .slice none 0 0]) := by subst hV; exact Lib.hid (Blk.new_ (by simp) _ _)
  have hVs : V.heap.size = w.heap.size + 2 := by subst hV; simp
  subst hV
  go_wp2_with (at_builtin; go_must (refine wpList_append_sl _ rfl (.tmp 3) (.tmp 5) _ rfl w.heap.size 30 i0 _ 3 24 Try.underlying22 hi0 hz0 hz1 hz2 rfl (by omega) (.slice (some ⟨w.heap.size + 1 + 1, 0, none⟩) 0 0) 0 [] rfl (own_empty (by simp) (by omega)) w.heap.size A T.length c (T.flatMap Tri.cells) rfl HR.out (tris_one T) (by simp only [maxLen]; omega) (by omega) (by simp; omega) ?_); intro A1 c1 w1 hown1 hg1 hat1; have hx := (HBX.out.alloc (.cells #[] 30)).grown hg1 (by simp [Value.ownBlock]; omega); have hr := (HBR.out.alloc (.cells #[] 30)).grown hg1 (by simp [Value.ownBlock]); have x0 := hx.cell 0; have x1 := hx.cell 1; have xf := hx.frozen 1; have r0 := hr.cell 0; have r1 := hr.cell 1; have rf0 := hr.frozen 0; have rf1 := hr.frozen 1; simp at x0 x1 r0 r1; have HX := Lib.hid hx; have HRR := Lib.hid hr; have HOWN := Lib.hid (And.intro hown1 (And.intro hg1 hat1)); clear hx hr hown1 hg1 hat1)
  obtain ⟨hown1, hg1, hat1⟩ := HOWN.out
  refine bodyPost_ret (v := .agg #[.int .i64 N, .slice A1 T.length c1]) ?_ rfl ⟨A1, c1, rfl, ?_, ?_⟩
  · simp [results, Try.results13, go_sem, r0, r1]
  · have ho : w1.ownsRow w.heap.size 30 3 (.slice A1 T.length c1) T.length (T.flatMap Tri.cells) := by simpa using hown1
    refine own_same ho fun i hi => ?_
    obtain ⟨cs, hb⟩ := own_blk ho hi
    rw [Below.heap_setCell _ _ _ _ (hb.ne_ HRR.out (by decide)), Below.heap_setCell _ _ _ _ (hb.ne_ HRR.out (by decide)), Below.heap_setCell _ _ _ _ (hb.ne_ HX.out (by decide))]
  · have hb1 : Below w.heap.size w w1 := (HB.out.alloc HB.out.size _).grown hg1 (by simp; omega) (fun k hk => by simp [Value.ownBlock] at hk; omega)
    exact ((hb1.setCell (p := ⟨w.heap.size, 1, none⟩) (Nat.le_refl _) _).setCell (p := ⟨w.heap.size + 1, 0, none⟩) (by simp) _).setCell (p := ⟨w.heap.size + 1, 1, none⟩) (by simp) _
end Go.Proofs.Ytnnbcflpbpafeaa
