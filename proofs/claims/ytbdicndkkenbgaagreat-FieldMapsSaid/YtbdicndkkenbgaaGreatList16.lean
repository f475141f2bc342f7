/- gypsumlaw16.list, walked. No condition but sizes. -/
import Derived.Test.YtbdicndkkenbgaaGreatF16A
namespace Go.Proofs.YtbdicndkkenbgaaGreat
open Go.RowKit

set_option linter.unusedSimpArgs false
set_option linter.unusedVariables false
theorem range_snoc (f : Nat → Int) (k : Nat) : ((List.range (k + 1)).map f).flatMap cellsI = ((List.range k).map f).flatMap cellsI ++ cellsI (f k) := by
  rw [List.range_succ, List.map_append, List.flatMap_append]
  rfl
theorem own_up {w w' : World} {base : Nat} {e : TypeId} {size n : Nat} {v : Value} {xs : List Value} (h : w.ownsRow base e size v n xs) (hb : Below w.heap.size w w') : w'.ownsRow base e size v n xs := own_same h fun k hk => hb.block k (h.lt k hk).2
attribute [local irreducible] Blk LRow World.alloc World.setCell World.cell? World.frozen? MapV
set_option maxRecDepth 100000 in
set_option maxHeartbeats 8000000 in
theorem list_any (N : Int) (A : Option Addr) (c : Nat) (T : List Tri) (Al : Option Addr) (cl : Nat) (l : List Int) (w : World) (hT : T.length ≤ 1000) (hl : Reads w w.heap.size 1 Al l.length (ZL l)) :
    Calls Tryz.prog 23 #[.agg #[.int .i64 N, .slice A T.length c], .slice Al l.length cl] w (ValPI ((List.range (3 * T.length)).map (valN l)) w) := by
  have HRL := Lib.hid hl
  clear hl
  obtain ⟨i0, hi0, hz0, hz1, hz2⟩ := info_parts int_infoC
  obtain ⟨V, hV⟩ : ∃ V, V = w.alloc (.cells #[.int .i64 N, .slice A T.length c] 24) := ⟨_, rfl⟩
  have GA0 : Hid (Blk V w.heap.size 24 #[.int .i64 N, .slice A T.length c]) := by subst hV; exact Lib.hid (Blk.new _ _ _)
  have HB0 : Hid (Below w.heap.size w V) := by subst hV; exact Lib.hid (bw_alloc (Below.refl _ _) _)
  go_enter Tryz.func23, Tryz.ntmps23
  go_upto_region 1 with (fail)
  rw [← hV]
  clear hV
  obtain ⟨ga, hga⟩ : ∃ g, g = w.heap.size := ⟨_, rfl⟩
  rw [← hga] at GA0
  simp only [← hga]
  clear hga
  have hm3 : IntKind.i64.wrap (3 * (T.length : Int)) = 3 * (T.length : Int) := IntWalk.i64_in _ (by omega)
  go_wp2_with fail
  go_loopw [5, 6] (fun ov iv wr => ∃ (k : Nat) (A' : Option Addr) (c' : Nat), k ≤ 3 * T.length ∧ ov = .slice A' k c' ∧ iv = .int .i64 (k : Int) ∧ Hid (wr.ownsRow w.heap.size 3 1 (.slice A' k c') k (((List.range k).map (valN l)).flatMap cellsI)) ∧ Hid (Blk wr ga 24 #[.int .i64 N, .slice A T.length c]) ∧ Hid (Below w.heap.size w wr)) (fun _ iv _ => 3 * T.length - (intOf iv).toNat)
  case atStart => exact ⟨0, none, 0, by omega, rfl, rfl, Lib.hid (World.ownsRow_nil _ _ _ _), GA0, HB0⟩
  case round =>
    obtain ⟨k, A', c', hk, rfl, rfl, HOk, GAk, HBk⟩ := hrel
    obtain ⟨wB, hwB⟩ : ∃ wB : World, wB = wr := ⟨_, rfl⟩
    rw [← hwB] at HOk GAk HBk ⊢
    clear hwB GA0 HB0
    obtain ⟨s0, s1, _, _, _⟩ := soup_facts GAk.out
    by_cases hlt : k < 3 * T.length
    rotate_left
    · obtain rfl : k = 3 * T.length := by omega
      have hki : ¬ ((3 * T.length : Nat) : Int) < 3 * (T.length : Int) := by omega
      have hln : ((List.range (3 * T.length)).map (valN l)).length = 3 * T.length := by simp
      go_wp2_with fail
      go_ret
      refine ⟨A', c', ?_, ?_, HBk.out⟩
      · rw [hln]; rfl
      · rw [hln]; exact HOk.out
    have hki : (k : Int) < 3 * (T.length : Int) := by omega
    go_wp2_with fail
    refine (value_any Al cl l k wB w.heap.size (by omega) (HRL.out.below HBk.out)).mono ?_
    rintro e w' ⟨rfl, hw⟩
    replace hw := hw.symm
    subst hw
    obtain ⟨x, hx⟩ : ∃ x, valN l k = x := ⟨_, rfl⟩
    have HX := Lib.hid hx
    rw [hx]
    clear hx
    have HBE : Hid (Below w.heap.size w (wB.alloc (.cells #[.int .i64 x] 3))) := Lib.hid (bw_alloc HBk.out _)
    have HOE : Hid ((wB.alloc (.cells #[.int .i64 x] 3)).ownsRow w.heap.size 3 1 (.slice A' k c') k (((List.range k).map (valN l)).flatMap cellsI)) := Lib.hid (own_up HOk.out (bw_alloc (Below.refl _ _) _))
    have GAE : Hid (Blk (wB.alloc (.cells #[.int .i64 x] 3)) ga 24 #[.int .i64 N, .slice A T.length c]) := Lib.hid (GAk.out.alloc _)
    go_upto_region 4 with (at_builtin; go_must (refine wpList_append_sl _ rfl (.tmp 15) (.tmp 19) _ rfl w.heap.size 3 i0 _ 1 8 Tryz.underlying46 hi0 hz0 hz1 hz2 rfl (by omega) (.slice A' k c') k (((List.range k).map (valN l)).flatMap cellsI) rfl HOE.out (wB.heap.size + 1) (some ⟨wB.heap.size, 0, none⟩) 1 1 [.int .i64 x] rfl (reads_new wB #[.int .i64 x] 3 1 1 rfl) (by intro u hu; simp at hu; subst hu; rfl) (by simp only [maxLen]; omega) (by omega) (bw_size HBE.out) ?_); intro A5 c5 w5 hown5 hg5 hat5)
    have HON : Hid (w5.ownsRow w.heap.size 3 1 (.slice A5 (k + 1) c5) (k + 1) (((List.range (k + 1)).map (valN l)).flatMap cellsI)) := Lib.hid (by rw [range_snoc, HX.out]; exact hown5)
    have HBN : Hid (Below w.heap.size w w5) := Lib.hid (bw_grow HBE.out hg5 fun q hq => (HOE.out.lt q hq).1)
    have GAN : Hid (Blk w5 ga 24 #[.int .i64 N, .slice A T.length c]) := Lib.hid (GAE.out.grown hg5 fun e => own_blk_ne HOE.out GAE.out (by decide) e.symm)
    clear hown5 hg5 hat5 HOE HBE GAE HOk HBk GAk s0 s1
    go_wp2_with fail
    exact ⟨⟨k + 1, A5, c5, by omega, rfl, by go_num, HON, GAN, HBN⟩, by simp [intOf]; omega⟩
end Go.Proofs.YtbdicndkkenbgaaGreat
