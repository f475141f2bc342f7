/- FieldNone, walked. -/
import Derived.Test.YtbdicndkkenbgaaWake16
import Derived.Test.YtbdicndkkenbgaaAll16
namespace Go.Proofs.Ytbdicndkkenbgaa
open Go.RowKit

set_option linter.unusedSimpArgs false
set_option linter.unusedVariables false
theorem run_nilf_yes (w : World) : (binOp .eql 33 Value.nilFunc Value.nilFunc).run Try.prog w = .ok (.bool true) w := by kernel_rfl
attribute [local irreducible] Blk LRow World.alloc World.setCell World.cell? World.frozen? MapV
set_option maxHeartbeats 2000000 in
theorem newI_nilT (f : Value) (w : World) : Calls Try.prog 9 #[.pointer none, f] w (IsPost w (.pointer none)) := by
  go_enter Try.func9, Try.ntmps9
  go_wp2_with fail
  go_ret
  exact ⟨rfl, rfl⟩
set_option maxHeartbeats 2000000 in
theorem newI_nilF (g : Nat) (w : World) : Calls Try.prog 9 #[.pointer (some ⟨g, 0, none⟩), Value.nilFunc] w (IsPost w (.pointer none)) := by
  have h := run_nilf_yes
  go_enter Try.func9, Try.ntmps9
  go_wp2_with fail
  go_ret
  exact ⟨rfl, rfl⟩
set_option maxHeartbeats 2000000 in
theorem mapII_nilT (f : Value) (w : World) : Calls Try.prog 24 #[.pointer none, f] w (IsPost w (.pointer none)) := by
  go_enter Try.func24, Try.ntmps24
  go_wp2_with fail
  go_ret
  exact ⟨rfl, rfl⟩
set_option maxHeartbeats 2000000 in
theorem mapII_nilF (g : Nat) (w : World) : Calls Try.prog 24 #[.pointer (some ⟨g, 0, none⟩), Value.nilFunc] w (IsPost w (.pointer none)) := by
  have h := run_nilf_yes
  go_enter Try.func24, Try.ntmps24
  go_wp2_with fail
  go_ret
  exact ⟨rfl, rfl⟩
def one16 : List Tri := [⟨0, 1, 2⟩]
theorem one16_is : checkR 3 one16 = (0, 0, 0) := by decide +kernel
set_option maxHeartbeats 2000000 in
theorem none3_any (b : Nat) (a c : Int) (w : World) (h : w.cell? ⟨b, 0, none⟩ = some (.int .i64 a)) : Calls Try.prog 26 #[.int .i64 c, .pointer (some ⟨b, 0, none⟩)] w (IntPost w a) := by
  go_enter Try.func26, Try.ntmps26
  go_wp2_with fail
  go_ret
  exact ⟨rfl, Below.refl _ _⟩
set_option maxRecDepth 100000 in
set_option maxHeartbeats 8000000 in
theorem noneLaw_any (c a : Int) (w : World) : Calls Try.prog 5 #[.int .i64 c, .int .i64 a] w (BoolPost w true) := by
  obtain ⟨V, hV⟩ : ∃ V, V = w.alloc (.cells #[.int .i64 a] 3) := ⟨_, rfl⟩
  have HX0 : Hid (Blk V w.heap.size 3 #[.int .i64 a]) := by subst hV; exact Lib.hid (Blk.new _ _ _)
  have HB0 : Hid (Below w.heap.size w V) := by subst hV; exact Lib.hid (bw_alloc (Below.refl _ _) _)
  go_enter Try.func5, Try.ntmps5
  go_upto_region 1 with (fail)
  rw [← hV]
  clear hV
  obtain ⟨ga, hga⟩ : ∃ g, g = w.heap.size := ⟨_, rfl⟩
  rw [← hga] at HX0
  simp only [← hga]
  clear hga
  go_wp2_with fail
  refine (awake_any V).mono ?_
  rintro e w1 ⟨rfl, hb⟩
  have HX1 := Lib.hid (blk_call HX0.out hb)
  have HB1 := Lib.hid (bw_call HB0.out hb)
  clear hb HX0 HB0
  go_wp2_with fail
  refine (atI_nil c w1).mono ?_
  rintro e w' ⟨rfl, hw⟩
  replace hw := hw.symm
  subst hw
  go_wp2_with fail
  refine (newI_nilT _ w1).mono ?_
  rintro e w' ⟨rfl, hw⟩
  replace hw := hw.symm
  subst hw
  go_wp2_with fail
  refine (mapII_nilT _ w1).mono ?_
  rintro e w' ⟨rfl, hw⟩
  replace hw := hw.symm
  subst hw
  obtain ⟨w2, hw2⟩ : ∃ w2, w2 = w1.alloc (.cells #[.int .i64 0, .int .i64 1, .int .i64 2] 49) := ⟨_, rfl⟩
  have HT2 : Hid (TrisAt w2 w2.heap.size (some ⟨w1.heap.size, 0, none⟩) one16.length one16) := by
    subst hw2
    refine Lib.hid (TrisAt.mk_ ?_)
    simpa [one16, Tri.cells] using reads_new w1 #[.int .i64 0, .int .i64 1, .int .i64 2] 49 1 3 rfl
  have HX2 : Hid (Blk w2 ga 3 #[.int .i64 a]) := by subst hw2; exact Lib.hid (HX1.out.alloc _)
  have HB2 : Hid (Below w.heap.size w w2) := by subst hw2; exact Lib.hid (bw_alloc HB1.out _)
  go_wp2_with fail
  rw [← hw2]
  clear hw2 HX1 HB1
  refine (table12_any 3 (some ⟨w1.heap.size, 0, none⟩) 1 one16 w2 HT2.out).mono ?_
  rintro e w3 (⟨_, _, hx⟩ | ⟨g, m, hm, _, _, rfl, ht, hb⟩)
  · exact absurd hx (by rintro (h | h); exact absurd h (by decide); exact h one16_is)
  obtain rfl : m = 3 := by omega
  have HT3 := Lib.hid ht
  have HX3 := Lib.hid (blk_call HX2.out hb)
  have HB3 := Lib.hid (bw_call HB2.out hb)
  clear ht hb hm HT2 HX2 HB2
  go_wp2_with fail
  refine (newI_pure 26 #[.pointer (some ⟨ga, 0, none⟩)] (enters_of Try.func26 (by kernel_rfl) rfl) g 3 one16 (fun _ => a) w3 (by decide) HT3.out (fun c W hc hW => none3_any ga a c W ((hW.cell (p := ⟨ga, 0, none⟩) HX3.out.lt).trans (HX3.out.cell 0)))).mono ?_
  rintro e w4 ⟨gf, A, c4, rfl, hf, hb⟩
  have HB4 := Lib.hid (bw_call HB3.out hb)
  have HX4 := Lib.hid (blk_call HX3.out hb)
  clear hf hb HB3 HT3 HX3
  go_wp2_with fail
  refine (newI_nilF g w4).mono ?_
  rintro e w' ⟨rfl, hw⟩
  replace hw := hw.symm
  subst hw
  go_wp2_with fail
  refine (mapII_nilF gf w4).mono ?_
  rintro e w' ⟨rfl, hw⟩
  replace hw := hw.symm
  subst hw
  have ha := HX4.out.cell 0
  simp at ha
  go_wp2_with fail
  refine (setI_nil c a w4).mono ?_
  rintro e w' ⟨rfl, hw⟩
  replace hw := hw.symm
  subst hw
  go_wp2_with fail
  refine (smoothI_nil c w4).mono ?_
  rintro e w5 ⟨rfl, hb⟩
  have HB5 := Lib.hid (bw_call HB4.out hb)
  clear hb HB4
  go_wp2_with fail
  refine (valuesI_nil c w5).mono ?_
  rintro e w6 ⟨rfl, hb⟩
  have HB6 := Lib.hid (bw_call HB5.out hb)
  clear hb HB5
  go_wp2_with fail
  refine (allF_nil w6).mono ?_
  rintro e w7 ⟨A7, c7, rfl, _, hb⟩
  have HB7 := Lib.hid (bw_call HB6.out hb)
  clear hb HB6
  go_wp2_with fail
  go_ret
  exact ⟨rfl, HB7.out⟩
end Go.Proofs.Ytbdicndkkenbgaa
