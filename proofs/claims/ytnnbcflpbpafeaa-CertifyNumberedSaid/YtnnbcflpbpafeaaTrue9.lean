/- certify.True, slices.Contains and slices.Index at certify.Witness, walked. No condition. -/
import Derived.Test.YtnnbcflpbpafeaaTellsW
namespace Go.Proofs.Ytnnbcflpbpafeaa
open Go.RowKit

theorem firstL_one : ∀ l : List (List (Int × Int × Int)), firstL l = [] ∨ firstL l ∈ l
  | [] => .inl rfl
  | [] :: l => by
    rcases firstL_one l with h | h
    · exact .inl h
    · exact .inr (List.mem_cons_of_mem _ h)
  | (a :: x) :: l => .inr (List.mem_cons_self ..)
theorem kinds_same {N : Int} {T : List Tri} {x y : Int × Int × Int} (hx : x ∈ refAll N T) (hy : y ∈ refAll N T) : x.1 = y.1 := by
  unfold refAll at hx hy
  rcases firstL_one [indexL N T.length T, picks 2 (loopB T) T.length, refW 3 twiceB T T.length, refW 4 mirrB T T.length, picks 5 (fun v => !usedTo T T.length v) N.toNat, picks 6 (fun v => pinchedB T T.length v) N.toNat] with h | h
  · rw [h] at hx; cases hx
  · generalize firstL _ = L at *
    simp only [List.mem_cons, List.not_mem_nil, or_false] at h
    rcases h with rfl | rfl | rfl | rfl | rfl | rfl
    · unfold indexL at hx hy
      split at hx
      · rename_i hs
        rw [if_pos hs] at hy
        rw [List.mem_singleton.1 hx, List.mem_singleton.1 hy]
      · rename_i hs
        rw [if_neg hs] at hy
        rw [picks_kind hx, picks_kind hy]
    · rw [picks_kind hx, picks_kind hy]
    · rw [refW_kind hx, refW_kind hy]
    · rw [refW_kind hx, refW_kind hy]
    · rw [picks_kind hx, picks_kind hy]
    · rw [picks_kind hx, picks_kind hy]
theorem check_kind {N : Int} {T : List Tri} {x : Int × Int × Int} (hx : x ∈ refAll N T) : x.1 = (checkR N T).1 := by
  refine kinds_same hx ?_
  unfold checkR
  cases h : refAll N T with
  | nil => rw [h] at hx; cases hx
  | cons y l => exact List.mem_cons_self ..

set_option maxRecDepth 100000 in
set_option maxHeartbeats 4000000 in
theorem slIndex_any (L : List (Int × Int × Int)) (A : Option Addr) (n c : Nat) (x : Int × Int × Int) (w : World) (hn : n ≤ maxLen) (h1 : TrisAt w w.heap.size A n (L.map fun x => ⟨x.1, x.2.1, x.2.2⟩)) :
    Calls Try.prog 49 #[.slice A n c, wv x] w fun e w' => ∃ i : Int, e = .returned (.int .i64 i) ∧ (0 ≤ i ↔ x ∈ L) ∧ Below w.heap.size w w' := by
  have hn2 : n ≤ 9223372036854775807 := hn
  have H1 := Lib.hid h1
  clear h1
  obtain ⟨xa, xb, xc⟩ := x
  unfold wv
  simp only
  go_enter Try.func49, Try.ntmps49
  go_wp2_with fail
  obtain ⟨W, hW⟩ : ∃ W, W = w.alloc (.cells #[.int .i64 xa, .int .i64 xb, .int .i64 xc] 34) := ⟨_, rfl⟩
  have HX : Hid (Blk W w.heap.size 34 #[.int .i64 xa, .int .i64 xb, .int .i64 xc]) := by subst hW; exact Lib.hid (Blk.new _ _ _)
  have HW : Hid (Below w.heap.size w W) := by subst hW; exact Lib.hid ((Below.refl _ _).alloc (Nat.le_refl _) _)
  rw [← hW]
  clear hW
  have x0 := HX.out.cell 0
  have x1 := HX.out.cell 1
  have x2 := HX.out.cell 2
  simp at x0 x1 x2
  have hln : L.length = n := by have := H1.out.len; simpa using this
  go_loopw [8] (fun iv wr => ∃ k q : Nat, k ≤ n ∧ iv = .int .i64 k ∧ wr = W.drewN q ∧ (xa, xb, xc) ∉ L.take k) (fun iv _ => n - (intOf iv).toNat)
  case atStart => exact ⟨0, 0, by omega, rfl, rfl, by simp⟩
  case round =>
    obtain ⟨k, q, hk, rfl, rfl, hno⟩ := hrel
    have HNO := Lib.hid hno
    clear hno
    by_cases hlt : k < n
    · obtain ⟨ad, t, rfl, htk, _, hadb, hc3⟩ := (H1.out.below HW.out).at_ hlt
      obtain ⟨d0, d1, d2, d3, d4, d5⟩ := hc3
      obtain ⟨ta, tb, tc⟩ := t
      have hLk : L[k]? = some (ta, tb, tc) := by
        rw [List.getElem?_map] at htk
        cases h : L[k]? with
        | none => rw [h] at htk; cases htk
        | some y =>
          obtain ⟨y1, y2, y3⟩ := y
          rw [h] at htk
          simp at htk
          obtain ⟨rfl, rfl, rfl⟩ := htk
          rfl
      have HT := Lib.hid (take_snoc_ L k hLk)
      have HMEM : Hid ((ta, tb, tc) ∈ L) := Lib.hid (List.mem_of_getElem? hLk)
      have hk0 : (0 : Int) ≤ (k : Int) := by omega
      have hk1 : (k : Int) < (n : Int) := by omega
      simp only at d0 d1 d2 d3 d4 d5
      clear htk hLk
      have hrun := fun w => run_eq_wit (xa, xb, xc) (ta, tb, tc) w
      simp only [wv] at hrun
      by_cases he : ((xa, xb, xc) : Int × Int × Int) = (ta, tb, tc)
      · rw [decide_eq_true he] at hrun
        have HE := Lib.hid he
        clear he
        go_wp2_with fail
        go_quiet (fail)
        go_wp2_with fail
        go_ret
        refine ⟨(k : Int), rfl, ⟨fun _ => by rw [HE.out]; exact HMEM.out, fun _ => by omega⟩, below_drewN (below_drewN HW.out _) _⟩
      · rw [decide_eq_false he] at hrun
        have HE := Lib.hid he
        clear he
        go_wp2_with fail
        go_quiet (fail)
        go_wp2_with fail
        refine ⟨⟨k + 1, _, by omega, by go_num, rfl, ?_⟩, by simp [intOf]; omega⟩
        rw [HT.out, List.mem_append, List.mem_singleton]
        exact fun h => h.elim HNO.out HE.out
    · obtain rfl : k = n := by omega
      go_wp2_with fail
      go_ret
      refine ⟨-1, rfl, ⟨fun h => absurd h (by decide), fun h => ?_⟩, below_drewN HW.out _⟩
      have := HNO.out
      rw [← hln, List.take_length] at this
      exact absurd h this
set_option maxRecDepth 100000 in
set_option maxHeartbeats 4000000 in
theorem slContains_any (L : List (Int × Int × Int)) (A : Option Addr) (n c : Nat) (x : Int × Int × Int) (w : World) (hn : n ≤ maxLen) (h1 : TrisAt w w.heap.size A n (L.map fun x => ⟨x.1, x.2.1, x.2.2⟩)) :
    Calls Try.prog 39 #[.slice A n c, wv x] w (BoolPost w (decide (x ∈ L))) := by
  have HI := Lib.hid fun w h => slIndex_any L A n c x w hn h
  have H1 := Lib.hid h1
  clear h1
  obtain ⟨xa, xb, xc⟩ := x
  simp only [wv] at HI ⊢
  generalize hb : decide ((xa, xb, xc) ∈ L) = b
  have HBD := Lib.hid hb
  clear hb
  go_enter Try.func39, Try.ntmps39
  go_wp2_with fail
  have hbw : Below w.heap.size w (w.alloc (.cells #[.int .i64 xa, .int .i64 xb, .int .i64 xc] 34)) := (Below.refl _ _).alloc (Nat.le_refl _) _
  refine (HI.out _ ((H1.out.below hbw).more hbw.size)).mono ?_
  rintro e w1 ⟨i, rfl, hi, hb1⟩
  have HB := Lib.hid (hbw.trans (hb1.mono hbw.size))
  have HII := Lib.hid hi
  clear hbw hb1 hi
  go_wp2_with fail
  go_ret
  refine ⟨ret_bool ?_, HB.out⟩
  rw [← HBD.out]
  exact decide_eq_decide.2 HII.out
set_option maxRecDepth 100000 in
set_option maxHeartbeats 4000000 in
theorem true_any (N : Int) (A : Option Addr) (n c : Nat) (T : List Tri) (x : Int × Int × Int) (w : World) (hn : n ≤ 1000) (ht : TrisAt w w.heap.size A n T) :
    Calls Try.prog 21 #[.agg #[.int .i64 N, .slice A n c], wv x] w (BoolPost w (decide (x ∈ refAll N T))) := by
  have HALL := Lib.hid fun w h => all_any N A n c T w hn h
  have HCO := Lib.hid fun A c x w hn h => slContains_any (refAll N T) A (refAll N T).length c x w hn h
  rw [allL_ref] at HALL
  have H1 := Lib.hid ht
  clear ht
  obtain ⟨xa, xb, xc⟩ := x
  simp only [wv] at HCO ⊢
  generalize hb : decide ((xa, xb, xc) ∈ refAll N T) = b
  have HBD := Lib.hid hb
  clear hb
  go_enter Try.func21, Try.ntmps21
  go_wp2_with fail
  obtain ⟨W, hW⟩ : ∃ W, W = (w.alloc (.cells #[.int .i64 N, .slice A n c] 24)).alloc (.cells #[.int .i64 xa, .int .i64 xb, .int .i64 xc] 34) := ⟨_, rfl⟩
  have HX : Hid (Blk W w.heap.size 24 #[.int .i64 N, .slice A n c]) := by subst hW; exact Lib.hid ((Blk.new _ _ _).alloc _)
  have HY : Hid (Blk W (w.heap.size + 1) 34 #[.int .i64 xa, .int .i64 xb, .int .i64 xc]) := by subst hW; exact Lib.hid (Blk.new_ (by simp) _ _)
  have HW : Hid (Below w.heap.size w W) := by subst hW; exact Lib.hid (((Below.refl _ _).alloc (Nat.le_refl _) _).alloc (by simp) _)
  rw [← hW]
  clear hW
  have HTW := Lib.hid ((H1.out.below HW.out).more HW.out.size)
  have z0 := HX.out.cell 0
  have z1 := HX.out.cell 1
  have x0 := HY.out.cell 0
  have x1 := HY.out.cell 1
  have x2 := HY.out.cell 2
  simp at z0 z1 x0 x1 x2
  have HS := Lib.hid (HeldX.mk (g := w.heap.size) (q := ⟨w.heap.size + 1, 0, none⟩) z0 z1 ⟨x0, x1, x2, x0, x1, x2⟩)
  have HG := Lib.hid HX.out.lt
  have HQ := Lib.hid HY.out.lt
  have HB0 := Lib.hid (Below.refl W.heap.size W)
  have HE : Hid (∀ w' a b, a = b → Below W.heap.size W w' → BoolPost w b (.returned (.bool a)) w') := Lib.hid fun w' a b e h => ⟨ret_bool e, HW.out.trans (h.mono HW.out.size)⟩
  generalize w.heap.size = g0 at *
  go_region_held3 (fun w' => w'.cell? ⟨g0, 0, none⟩ = some (.int .i64 N) ∧ w'.cell? ⟨g0, 1, none⟩ = some (.slice A n c) ∧ w'.cell? ⟨g0 + 1, 0, none⟩ = some (.int .i64 xa) ∧ w'.cell? ⟨g0 + 1, 1, none⟩ = some (.int .i64 xb) ∧ w'.cell? ⟨g0 + 1, 2, none⟩ = some (.int .i64 xc) ∧ Below W.heap.size W w')
    (first | exact HS.out.on HG.out HQ.out (below_drew HB0.out) | exact HS.out.on HG.out HQ.out (below_then (by assumption) hb2) | exact HS.out.on HG.out HQ.out (below_then (by assumption) hb))
    (first | (go_at_call 14; refine (HALL.out _ (tris_then (by assumption) HTW.out)).mono ?_; rintro e w' ⟨A6, c6, rfl, hr6, hb⟩; have hl6 := wits_at hr6; have hml := row_len hr6) | (go_at_call 39; refine (HCO.out A6 c6 (xa, xb, xc) _ hml hl6).mono ?_; rintro e w'' ⟨rfl, hb2⟩))
  go_wp2_with fail
  go_ret
  exact HE.out _ _ _ HBD.out (of6 (by assumption))
end Go.Proofs.Ytnnbcflpbpafeaa
