/- SeamEnds, walked. -/
import Derived.Test.YtcahbcminonfbaaEndR
import Derived.Test.YtcahbcminonfbaaEndB
import Derived.Test.YtcahbcminonfbaaOpenL
namespace Go.Proofs.Ytcahbcminonfbaa
open Go.RowKit

set_option linter.unusedSimpArgs false
set_option linter.unusedVariables false
attribute [local irreducible] Blk LRow World.alloc World.setCell World.cell? World.frozen? MapV ERow
set_option maxRecDepth 100000 in
set_option maxHeartbeats 4000000 in
theorem ints31_any (X : List Int) (A A' : Option Addr) (B B' c c' : Nat) (w : World) (hn : X.length ≤ 1000000) (h1 : IR w B A c X) (h2 : IR w B' A' c' X) :
    Calls Try.prog 21 #[.slice A X.length c, .slice A' X.length c'] w (BoolPost w true) := by
  have H1 := Lib.hid h1
  have H2 := Lib.hid h2
  clear h1 h2
  go_enter Try.func21, Try.ntmps21
  have hb0 : ((X.length : Int) != (X.length : Int)) = false := by simp
  go_wp2_with fail
  go_loopw [5] (fun iv wr => ∃ k q : Nat, k ≤ X.length ∧ iv = .int .i64 k ∧ wr = w.drewN q) (fun iv _ => X.length - (intOf iv).toNat)
  case atStart => exact ⟨0, 0, by omega, rfl, rfl⟩
  case round =>
    obtain ⟨k, q, hk, rfl, rfl⟩ := hrel
    by_cases hlt : k < X.length
    · have hki : (k : Int) < (X.length : Int) := by omega
      have hkx := List.getElem?_eq_getElem hlt
      obtain ⟨ad, hA, cq⟩ := H1.out.cellQ hkx
      obtain ⟨ad2, hA2, cq2⟩ := H2.out.cellQ hkx
      subst hA
      subst hA2
      have a0 := cq.c
      have b0 := cq2.c
      clear cq cq2 hkx
      generalize X[k] = x at *
      have hne : (x != x) = false := by simp
      go_wp2_with fail
      go_quiet (fail)
      go_wp2_with fail
      exact ⟨⟨k + 1, _, by omega, by go_num, rfl⟩, by simp [intOf]; omega⟩
    · obtain rfl : k = X.length := by omega
      go_wp2_with fail
      go_ret
      exact ⟨rfl, below_drewN (Below.refl _ _) _⟩
set_option maxRecDepth 100000 in
set_option maxHeartbeats 8000000 in
theorem endsLaw_any (A : Option Addr) (c : Nat) (l : List (Int × Int)) (w : World) (hl0 : l.length ≤ 9223372036854775807) (hwf : ∀ e ∈ l, (Lit.int .i64 e.1).wf = true ∧ (Lit.int .i64 e.2).wf = true) (he : ES w A l) :
    Calls Try.prog 6 #[.slice A l.length c] w (BoolPost w true) := by
  have HE := Lib.hid he
  have HWF := Lib.hid hwf
  clear he hwf
  go_enter Try.func6, Try.ntmps6
  go_wp2_with fail
  refine (awake_any _).mono ?_
  rintro e w1 ⟨rfl, hb⟩
  have HB1 := Lib.hid hb
  have HE1 := Lib.hid (HE.out.below hb)
  clear hb HE
  by_cases hl40 : 40 < l.length
  · have hki : (40 : Int) < (l.length : Int) := by omega
    go_wp2_with fail
    go_ret
    exact ⟨rfl, HB1.out⟩
  have hki : ¬ (40 : Int) < (l.length : Int) := by omega
  have hl2 : l.length ≤ 40 := by omega
  clear hl0 hl40
  obtain ⟨L, hL⟩ : ∃ L, Hid (refT (flatE l) (flatE l).length = L) := ⟨_, Lib.hid rfl⟩
  have HLP : Hid (L.Pairwise (· < ·)) := Lib.hid (by rw [← hL.out]; exact refT_sorted _ _ (Nat.le_refl _))
  have HLM : Hid (∀ x, x ∈ L ↔ (flatE l).count x = 1) := Lib.hid fun x => by rw [← hL.out]; exact refT_end x
  have HLL : Hid (L.length ≤ 80) := Lib.hid (by rw [← hL.out]; have h1 := refT_len (flatE l) (flatE l).length; have h2 := flatE_length l; omega)
  have HC1 := Lib.hid (ends_any A c l L w1 (by omega) HWF.out HE1.out HLP.out HLM.out)
  have HC2 : Hid (∀ W, ES W A l → Calls Try.prog 22 #[.slice A l.length c] W (fun e w' => ∃ A' c', e = .returned (.slice A' L.length c') ∧ IR w' W.heap.size A' c' L ∧ Below W.heap.size W w')) := Lib.hid fun W hW => by
    have h1 := refEnds_any A c l W (by omega) hW
    rw [hL.out] at h1
    exact h1
  clear hL
  go_wp2_with fail
  refine HC1.out.mono ?_
  rintro e w2 ⟨Am, cm, rfl, hir, hb⟩
  have HB2 := Lib.hid (bw_call HB1.out hb)
  have HE2 := Lib.hid (HE1.out.below hb)
  have HI2 := Lib.hid (ir_base hir (Nat.zero_le _))
  clear hir hb HC1 HE1 HB1
  have hLl := HLL.out
  go_wp2_with fail
  go_loopw [4] (fun iv wr => ∃ i : Nat, i ≤ L.length ∧ iv = .int .i64 i ∧ Hid (Below w2.heap.size w2 wr)) (fun iv _ => L.length - (intOf iv).toNat)
  case atStart => exact ⟨0, by omega, rfl, Lib.hid (Below.refl _ _)⟩
  case round =>
    obtain ⟨i, hi, rfl, HCi⟩ := hrel
    obtain ⟨wI, hwI⟩ : ∃ wI : World, wI = wr := ⟨_, rfl⟩
    rw [← hwI] at HCi ⊢
    clear hwI
    have HII := Lib.hid (HI2.out.below HCi.out)
    have HEI := Lib.hid (HE2.out.below HCi.out)
    have HBI := Lib.hid (bw_call HB2.out HCi.out)
    by_cases hlt : i < L.length
    rotate_left
    · obtain rfl : i = L.length := by omega
      go_wp2_with fail
      refine (HC2.out _ HEI.out).mono ?_
      rintro e w4 ⟨A4, c4, rfl, hir, hb⟩
      have HB4 := Lib.hid (bw_call HBI.out hb)
      have HI4 := Lib.hid (HII.out.below hb)
      have HJ4 := Lib.hid hir
      clear hir hb
      go_wp2_with fail
      refine (ints31_any L Am A4 _ _ cm c4 w4 (by omega) HI4.out HJ4.out).mono ?_
      rintro e w5 ⟨rfl, hb⟩
      have HB5 := Lib.hid (bw_call HB4.out hb)
      clear hb
      go_wp2_with fail
      go_ret
      exact ⟨rfl, HB5.out⟩
    have hii : (i : Int) < (L.length : Int) := by omega
    have hix := List.getElem?_eq_getElem hlt
    obtain ⟨v, hv⟩ : ∃ v, L[i] = v := ⟨_, rfl⟩
    rw [hv] at hix
    have HV := Lib.hid hix
    have HCV : Hid ((flatE l).count v = 1) := Lib.hid ((HLM.out v).1 (List.mem_of_getElem? hix))
    obtain ⟨adm, hAm, _⟩ := HII.out.cellQ hix
    subst hAm
    clear hix hv
    go_wp2_with fail
    go_loopw [5, 6] (fun nv jv wr => ∃ j : Nat, j ≤ l.length ∧ nv = .int .i64 ((flatE (l.take j)).count v : Int) ∧ jv = .int .i64 j ∧ Hid (Below w2.heap.size w2 wr)) (fun _ jv _ => l.length - (intOf jv).toNat)
    case atStart => exact ⟨0, by omega, by simp [flatE], rfl, HCi⟩
    case round =>
      obtain ⟨j, hj, rfl, rfl, HCj⟩ := hrel
      obtain ⟨wJ, hwJ⟩ : ∃ wJ : World, wJ = wr := ⟨_, rfl⟩
      rw [← hwJ] at HCj ⊢
      clear hwJ HCi HII HEI HBI
      have HIJ := Lib.hid (HI2.out.below HCj.out)
      have HEJ := Lib.hid (HE2.out.below HCj.out)
      obtain ⟨_, hAm, cq⟩ := HIJ.out.cellQ HV.out
      injection hAm with hAm
      subst hAm
      have e0 := cq.c
      clear cq
      by_cases hltj : j < l.length
      rotate_left
      · obtain rfl : j = l.length := by omega
        rw [List.take_length, HCV.out]
        rcases Nat.eq_zero_or_pos i with hi0 | hi0
        · have hgt : ¬ (0 : Int) < (i : Int) := by omega
          have hgtN : ¬ 0 < i := by omega
          clear hi0
          go_wp2_with fail
          go_quiet (fail)
          go_wp2_with fail
          exact ⟨⟨i + 1, by omega, by go_num, Lib.hid (below_drewN HCj.out _)⟩, by simp [intOf]; omega⟩
        · obtain ⟨i', hi'⟩ : ∃ i', i = i' + 1 := ⟨i - 1, by omega⟩
          have hpx := List.getElem?_eq_getElem (show i' < L.length by omega)
          obtain ⟨u, hu⟩ : ∃ u, L[i'] = u := ⟨_, rfl⟩
          rw [hu] at hpx
          obtain ⟨_, hAm, cq⟩ := HIJ.out.cellQ hpx
          injection hAm with hAm
          subst hAm
          have e1 := cq.c
          have huv : u < v := by
            have h1 := HV.out
            have h2 := List.pairwise_iff_getElem.1 HLP.out i' i (by omega) hlt (by omega)
            rw [List.getElem?_eq_getElem hlt] at h1
            injection h1 with h1
            rw [hu, h1] at h2
            exact h2
          have hle : ¬ v ≤ u := by omega
          have hgt : (0 : Int) < (i : Int) := by omega
          have hgtN : 0 < i := hi0
          have hsub : IntKind.i64.wrap ((i : Int) - 1) = (i' : Int) := by rw [IntWalk.i64_in _ (by omega)]; omega
          have hpi : (i' : Int) < (L.length : Int) := by omega
          clear hu hpx cq huv hi' hi0
          go_wp2_with fail
          go_quiet (fail)
          go_wp2_with fail
          exact ⟨⟨i + 1, by omega, by go_num, Lib.hid (below_drewN HCj.out _)⟩, by simp [intOf]; omega⟩
      have hjj : (j : Int) < (l.length : Int) := by omega
      have hje := List.getElem?_eq_getElem hltj
      obtain ⟨ad, hAd, hadb, heq⟩ := HEJ.out.at_ hje
      subst hAd
      obtain ⟨d0, d1, d2, d3⟩ := heq
      have HFS := Lib.hid (flatE_step hje)
      have hcl : (flatE (l.take j)).count v ≤ 2000 := Nat.le_trans List.count_le_length (flatE_len l j (by omega))
      clear hje
      generalize l[j] = e at *
      obtain ⟨x, y⟩ := e
      simp only at d0 d1 d2 d3 HFS
      have HCS : Hid ((flatE (l.take (j + 1))).count v = (flatE (l.take j)).count v + (if x = v then 1 else 0) + (if y = v then 1 else 0)) := Lib.hid (by
        rw [HFS.out, List.count_append, List.count_append, List.count_singleton, List.count_singleton]
        simp)
      obtain ⟨c9, HC9⟩ : ∃ c9, Hid ((flatE (l.take (j + 1))).count v = c9) := ⟨_, Lib.hid rfl⟩
      rw [HC9.out] at HCS
      clear HFS
      generalize (flatE (l.take j)).count v = c0 at *
      have hw1 : IntKind.i64.wrap ((c0 : Int) + 1) = (c0 : Int) + 1 := IntWalk.i64_in _ (by omega)
      have hw2 : IntKind.i64.wrap ((c0 : Int) + 1 + 1) = (c0 : Int) + 1 + 1 := IntWalk.i64_in _ (by omega)
      by_cases hx : x = v
      · by_cases hy : y = v
        · skip
          have hxb : (x == v) = true := by simpa using hx
          have hyb : (y == v) = true := by simpa using hy
          have hc9 : c9 = c0 + 2 := by have := HCS.out; simp [hx, hy] at this; omega
          clear HCS hx hy
          go_wp2_with fail
          go_quiet (fail)
          go_wp2_with fail
          go_quiet (fail)
          go_wp2_with fail
          exact ⟨⟨j + 1, by omega, by rw [HC9.out, hc9]; go_num, by go_num, Lib.hid (below_drewN HCj.out _)⟩, by simp [intOf]; omega⟩
        · skip
          have hxb : (x == v) = true := by simpa using hx
          have hyb : (y == v) = false := by simpa using hy
          have hc9 : c9 = c0 + 1 := by have := HCS.out; simp [hx, hy] at this; omega
          clear HCS hx hy
          go_wp2_with fail
          go_quiet (fail)
          go_wp2_with fail
          go_quiet (fail)
          go_wp2_with fail
          exact ⟨⟨j + 1, by omega, by rw [HC9.out, hc9]; go_num, by go_num, Lib.hid (below_drewN HCj.out _)⟩, by simp [intOf]; omega⟩
      · by_cases hy : y = v
        · skip
          have hxb : (x == v) = false := by simpa using hx
          have hyb : (y == v) = true := by simpa using hy
          have hc9 : c9 = c0 + 1 := by have := HCS.out; simp [hx, hy] at this; omega
          clear HCS hx hy
          go_wp2_with fail
          go_quiet (fail)
          go_wp2_with fail
          go_quiet (fail)
          go_wp2_with fail
          exact ⟨⟨j + 1, by omega, by rw [HC9.out, hc9]; go_num, by go_num, Lib.hid (below_drewN HCj.out _)⟩, by simp [intOf]; omega⟩
        · skip
          have hxb : (x == v) = false := by simpa using hx
          have hyb : (y == v) = false := by simpa using hy
          have hc9 : c9 = c0 + 0 := by have := HCS.out; simp [hx, hy] at this; omega
          clear HCS hx hy
          go_wp2_with fail
          go_quiet (fail)
          go_wp2_with fail
          go_quiet (fail)
          go_wp2_with fail
          exact ⟨⟨j + 1, by omega, by rw [HC9.out, hc9]; go_num, by go_num, Lib.hid (below_drewN HCj.out _)⟩, by simp [intOf]; omega⟩
end Go.Proofs.Ytcahbcminonfbaa
