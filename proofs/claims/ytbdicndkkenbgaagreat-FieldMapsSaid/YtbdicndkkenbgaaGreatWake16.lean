/- The example of layer 16: awake answers true. No condition. -/
import Derived.Test.YtbdicndkkenbgaaGreatF16A
import Derived.Test.YtbdicndkkenbgaaGreatInts16
namespace Go.Proofs.YtbdicndkkenbgaaGreat
open Go.RowKit

set_option linter.unusedSimpArgs false
set_option linter.unusedVariables false
def ex16 : List Tri := [⟨0, 1, 2⟩, ⟨2, 1, 3⟩]
theorem ex16_is : checkR 4 ex16 = (0, 0, 0) := by decide +kernel
theorem ring_val {T : List Tri} {m : Nat} {v : Nat} {L M0 L0 : List Nat} {s0 b0 : Nat} (h : RingL m T (v : Int) L) (hv : v < m) (hc : cornerF T (v : Int) = some s0) (hM : Run (befF T) s0 M0 s0)
    (hb : b0 = if befF T (lastN M0 s0) = none then lastN M0 s0 else s0) (hL : Run (aftF T) b0 L0 b0) : L = L0 := by
  rcases h with ⟨h0, _⟩ | ⟨k, hk, _, s, b, bo, M, hr⟩
  · exact absurd (by omega) h0
  · obtain rfl : s = s0 := by
      have := hr.cs
      rw [hc] at this
      injection this with this
      exact this.symm
    have hMM := hr.back.one hM
    subst hMM
    obtain rfl : b = b0 := by rw [hr.be, hb]
    exact hr.on.one hL
theorem ex16_r1 {L : List Nat} (h : RingL 4 ex16 (1 : Int) L) : L = [4, 1] :=
  ring_val (v := 1) (M0 := [1, 4]) (s0 := 1) (b0 := 4) h (by omega) (by decide +kernel) ⟨rfl, by decide +kernel, by omega, rfl, .inl (by decide +kernel)⟩ (by decide +kernel) ⟨rfl, by decide +kernel, by omega, rfl, .inl (by decide +kernel)⟩
theorem ex16_r0 {L : List Nat} (h : RingL 4 ex16 (0 : Int) L) : L = [0] :=
  ring_val (v := 0) (M0 := [0]) (s0 := 0) (b0 := 0) h (by omega) (by decide +kernel) ⟨rfl, .inl (by decide +kernel)⟩ (by decide +kernel) ⟨rfl, .inl (by decide +kernel)⟩
def V16 (c : Nat) : Int := 8 + ((c / 3 : Nat) : Int)
theorem cellsI_zl (M : List Int) : M.flatMap cellsI = ZL M := flat1 _ _
theorem tdiv_nat (k n : Nat) : Int.tdiv (k : Int) (n : Int) = ((k / n : Nat) : Int) := rfl
attribute [local irreducible] Blk LRow World.alloc World.setCell World.cell? World.frozen? MapV
set_option maxHeartbeats 2000000 in
theorem wakeF_any (c : Nat) (w : World) (hc : c < 1000000) : Calls Tryz.prog 42 #[.int .i64 (c : Int)] w (IntPost w (V16 c)) := by
  unfold V16
  obtain ⟨q, hq⟩ : ∃ q, c / 3 = q := ⟨_, rfl⟩
  have hd : Int.tdiv (c : Int) 3 = (q : Int) := by rw [← hq]; exact tdiv_nat c 3
  have hw : IntKind.i64.wrap (q : Int) = (q : Int) := IntWalk.i64_in _ (by omega)
  have hw2 : IntKind.i64.wrap (8 + (q : Int)) = 8 + (q : Int) := IntWalk.i64_in _ (by omega)
  rw [hq]
  clear hq
  go_enter Tryz.func42, Tryz.ntmps42
  go_wp2_with fail
  go_ret
  exact ⟨rfl, Below.refl _ _⟩
set_option maxRecDepth 100000 in
set_option maxHeartbeats 8000000 in
theorem awake_any (w : World) : Calls Tryz.prog 7 #[] w (BoolPost w true) := by
  obtain ⟨V, hV⟩ : ∃ V, V = w.alloc (.cells #[.int .i64 0, .int .i64 1, .int .i64 2, .int .i64 2, .int .i64 1, .int .i64 3] 71) := ⟨_, rfl⟩
  have HT : Hid (TrisAt V V.heap.size (some ⟨w.heap.size, 0, none⟩) ex16.length ex16) := by
    subst hV
    refine Lib.hid (TrisAt.mk_ ?_)
    simpa [ex16, Tri.cells] using reads_new w #[.int .i64 0, .int .i64 1, .int .i64 2, .int .i64 2, .int .i64 1, .int .i64 3] 71 2 3 rfl
  have HB0 : Hid (Below w.heap.size w V) := by subst hV; exact Lib.hid (bw_alloc (Below.refl _ _) _)
  go_enter Tryz.func7, Tryz.ntmps7
  go_wp2_with fail
  rw [← hV]
  clear hV
  refine (table12_any 4 (some ⟨w.heap.size, 0, none⟩) 2 ex16 V HT.out).mono ?_
  rintro e w1 (⟨_, _, hx⟩ | ⟨g, m, hm, _, _, rfl, ht, hb⟩)
  · exact absurd hx (by rintro (h | h); exact absurd h (by decide); exact h ex16_is)
  obtain rfl : m = 4 := by omega
  have HT1 := Lib.hid ht
  have HB1 := Lib.hid (bw_call HB0.out hb)
  clear ht hb hm HT HB0
  go_wp2_with fail
  refine (newI_pure 42 #[] (enters_of Tryz.func42 (by kernel_rfl) rfl) g 4 ex16 V16 w1 (by decide) HT1.out (fun c W hc hW => by simpa using wakeF_any c W (by have : c < 6 := hc; omega))).mono ?_
  rintro e w2 ⟨gf, A, c, rfl, hf, hb⟩
  have HF2 : Hid (FAt w2 91 3 1 w1.heap.size gf g A c 6 ((List.range 6).flatMap fun i => cellsI (V16 i))) := Lib.hid hf
  have HT2 := Lib.hid (HT1.out.below hb)
  have HB2 := Lib.hid (bw_call HB1.out hb)
  clear hf hb HT1 HB1
  have HAT := Lib.hid (atI_any gf g 6 _ A c V16 4 w2 (by omega) HF2.out)
  rw [if_pos (by omega)] at HAT
  have e4 : V16 (4 : Int).toNat = 9 := by decide
  rw [e4] at HAT
  go_wp2_with fail
  refine HAT.out.mono ?_
  rintro e w' ⟨rfl, hw⟩
  replace hw := hw.symm
  subst hw
  clear HAT
  obtain ⟨L1, hL1⟩ := ringL_ex HT2.out.s 1
  obtain ⟨L0, hL0⟩ := ringL_ex HT2.out.s 0
  have HR1 := Lib.hid hL1
  have HR0 := Lib.hid hL0
  have E1 := ex16_r1 hL1
  have E0 := ex16_r0 hL0
  have v1 : valsL V16 L1 = [9, 8] := by rw [E1]; decide
  have v0 : (valsL V16 L0).length = 1 := by rw [E0]; decide
  have HV := Lib.hid (valuesI_any gf g 4 _ ex16 A c V16 1 L1 w2 (by decide) HF2.out HT2.out hL1)
  rw [v1] at HV
  clear hL1 hL0 E1 E0
  go_wp2_with fail
  refine HV.out.mono ?_
  rintro e w3 ⟨A3, c3, rfl, hr, hb⟩
  have HT3 := Lib.hid (HT2.out.below hb)
  have HF3 := Lib.hid (HF2.out.below hb)
  have HB3 := Lib.hid (bw_call HB2.out hb)
  have HRW : Hid (Reads w3 w3.heap.size 1 A3 2 (ZL [9, 8])) := Lib.hid (cellsI_zl [9, 8] ▸ Reads.of_own hr)
  clear hr hb HV HT2 HB2
  obtain ⟨w4, hw4⟩ : ∃ w4, w4 = w3.alloc (.cells #[.int .i64 9, .int .i64 8] 3) := ⟨_, rfl⟩
  have HT4 : Hid (TabN w4 g 4 ex16) := by subst hw4; exact Lib.hid (HT3.out.alloc _)
  have HF4 : Hid (FAt w4 91 3 1 w1.heap.size gf g A c 6 ((List.range 6).flatMap fun i => cellsI (V16 i))) := by subst hw4; exact Lib.hid (HF3.out.alloc _)
  have HB4 : Hid (Below w.heap.size w w4) := by subst hw4; exact Lib.hid (bw_alloc HB3.out _)
  have HI4 : Hid (Calls Tryz.prog 24 #[.slice A3 2 c3, .slice (some ⟨w3.heap.size, 0, none⟩) 2 2] w4 (BoolPost w4 true)) := by
    subst hw4
    exact Lib.hid (refInts_any [9, 8] A3 _ 2 c3 2 _ (by omega) ((HRW.out.below (bw_alloc (Below.refl _ _) _)).more (by simp)) ((reads_new w3 #[.int .i64 9, .int .i64 8] 3 2 1 rfl).more (by simp)))
  clear HT3 HF3 HB3 HRW
  go_wp2_with fail
  rw [← hw4]
  clear hw4
  refine HI4.out.mono ?_
  rintro e w5 ⟨rfl, hb⟩
  have HT5 := Lib.hid (HT4.out.below hb)
  have HF5 := Lib.hid (HF4.out.below hb)
  have HB5 := Lib.hid (bw_call HB4.out hb)
  clear hb HT4 HF4 HB4 HI4
  have HS1 := Lib.hid (smoothI_any gf g 4 _ ex16 A c V16 1 L1 w5 (by decide) HF5.out HT5.out HR1.out)
  rw [v1, decide_eq_false (by decide)] at HS1
  go_wp2_with fail
  refine HS1.out.mono ?_
  rintro e w6 ⟨rfl, hb⟩
  have HT6 := Lib.hid (HT5.out.below hb)
  have HF6 := Lib.hid (HF5.out.below hb)
  have HB6 := Lib.hid (bw_call HB5.out hb)
  clear hb HT5 HF5 HB5 HS1
  have HS0 := Lib.hid (smoothI_any gf g 4 _ ex16 A c V16 0 L0 w6 (by decide) HF6.out HT6.out HR0.out)
  rw [decide_eq_true v0] at HS0
  go_wp2_with fail
  refine HS0.out.mono ?_
  rintro e w7 ⟨rfl, hb⟩
  have HB7 := Lib.hid (bw_call HB6.out hb)
  clear hb HS0
  go_wp2_with fail
  go_ret
  exact ⟨rfl, HB7.out⟩
end Go.Proofs.YtbdicndkkenbgaaGreat
