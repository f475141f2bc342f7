/- SeamNumbers: for all soups and lists of numbers the law answers true, and its arguments read as they did. Conditions: none. -/
import Derived.Test.YtcahbcminonfbaaRows
import Derived.Test.YtcahbcminonfbaaChecked
import Derived.Test.YtcahbcminonfbaaNum31W
import Derived.Test.YtcahbcminonfbaaOpenE
namespace Go.Proofs.Ytcahbcminonfbaa
open Go.ChangeShapes Go.WideShapes Go.ChangeAt Go.RowKit
theorem seamNumbers_own : ownKnob Try.prog.godebug = none := by kernel_rfl
theorem seamNumbers_laid : laidOutB Try.prog = true := by kernel_rfl

set_option maxRecDepth 100000 in
theorem seamNumbers_lifted (os : Os) (started : os.Started) (H : Type) (enc : TypeId × Value → H) :
    ReturnsInHanded {} Try.checked os 5 .any (Rows.seamNumbersSpec.pre6 enc Try.prog Try.f5 Rows.seamNumbersRow.domain false) (Rows.seamNumbersSpec.post enc Try.prog Try.f5 false true false false) := by
  refine returnsInHanded_of_change (C := Try.checked) seamNumbers_own started (by kernel_rfl) Try.func5
    (ChangeSpec.witness6 (enc := enc) (C := Try.checked) false ⟨#[], #[.agg #[.int .i64 0, .slice none 0 0], .slice none 0 0, .slice none 0 0], []⟩ 8 (by kernel_rfl) (by kernel_rfl) (by kernel_rfl) (by kernel_rfl)) ?_
  intro W base args ds gs before hval0 hW hcnd _
  have hval : ∀ (j : Nat) t v, Try.f5.params[j]? = some t → args[j]? = some v → Value.okWide Try.prog W .any base t v := hval0
  have hW' := hW
  obtain ⟨p, q, hA0, hV, rfl, hfz, hnd⟩ := hW
  have hA : DataW.TrodAll enc Try.prog W 0 (fun _ => true) true Try.f5.params.toList args.toList ds p := hA0
  rw [Try.params5] at hA hval
  obtain ⟨v0, vs0, d0, ds0, p0, q0, hargs, rfl, rfl, h0, r0⟩ := trodAll_cons hA
  obtain ⟨v1, vs1, d1, ds1, p1, q1, rfl, rfl, rfl, h1, r1⟩ := trodAll_cons r0
  obtain ⟨v2, vs2, d2, ds2, p2, q2, rfl, rfl, rfl, h2, r2⟩ := trodAll_cons r1
  obtain ⟨rfl, rfl, rfl⟩ := trodAll_nil r2
  obtain rfl : args = #[v0, v1, v2] := by cases args; simp_all
  obtain ⟨rfl, rfl⟩ := trodVars_none hV
  have k0 := h0
  have lt0 : ∀ x ∈ p0, x.block < W.heap.size := by obtain ⟨m, hm⟩ := k0; exact DataW.trod_lt m _ _ _ hm
  have o0 := hval 0 24 v0 rfl rfl
  have k1 := h1
  have lt1 : ∀ x ∈ p1, x.block < W.heap.size := by obtain ⟨m, hm⟩ := k1; exact DataW.trod_lt m _ _ _ hm
  have o1 := hval 1 25 v1 rfl rfl
  have k2 := h2
  have lt2 : ∀ x ∈ p2, x.block < W.heap.size := by obtain ⟨m, hm⟩ := k2; exact DataW.trod_lt m _ _ _ hm
  have o2 := hval 2 25 v2 rfl rfl
  obtain ⟨N, A, n, c, T, rfl, hN, hn, hcm, hT, hwf⟩ := open_soup o0 h0
  obtain ⟨Al, nl, cl, rfl⟩ := okWide_slice Try.underlying25 o1
  obtain ⟨fuel1, hf1⟩ := h1
  obtain ⟨l, hl, hncl, hcml, hrl, hwfl⟩ := open_rowS Try.underlying25 Try.underlying3 (by kernel_rfl) hf1
  obtain ⟨Aq, nq, cq, rfl⟩ := okWide_slice Try.underlying25 o2
  obtain ⟨fuel2, hf2⟩ := h2
  obtain ⟨q, hq, hncq, hcmq, hrq, hwfq⟩ := open_rowS Try.underlying25 Try.underlying3 (by kernel_rfl) hf2
  clear hA0 hval0
  refine (numLaw_any N A n c T Al nl cl l Aq nq cq q W hl (by unfold maxLen at hcml; omega) hq (by unfold maxLen at hcmq; omega) hT hrl hrq).mono fun e W' ⟨he, bel⟩ => ?_
  subst he
  exact ⟨_, rfl, _, _, _, [], _, [], hW', trodAll_mk1 (shut_bool Try.underlying4 _), (trodAll_cons_mk (Below.trod seamNumbers_laid (by kernel_rfl) (of_decide_eq_true (by kernel_rfl)) k0 bel lt0) (trodAll_cons_mk (Below.trod seamNumbers_laid (by kernel_rfl) (of_decide_eq_true (by kernel_rfl)) k1 bel lt1) (trodAll_cons_mk (Below.trod seamNumbers_laid (by kernel_rfl) (of_decide_eq_true (by kernel_rfl)) k2 bel lt2) trodAll_mk0))), rfl, bel.frame _, fun h => by cases h⟩

theorem seamNumbers_proved : Rows.SeamNumbersSaid :=
  OpenClaim.holds_of_wide 5 Try.f5 rfl rfl rfl rfl rfl rfl rfl ⟨rfl, rfl, rfl, rfl, rfl⟩ rfl rfl rfl rfl rfl (by kernel_rfl) Try.func5 (by kernel_rfl)
    (of_decide_eq_true (by kernel_rfl)) (by unfold Func.isWrapper; first | (rw [if_pos (by decide +kernel)]; kernel_rfl) | (rw [if_neg (by decide +kernel)]; exact ⟨rfl, rfl⟩))
    (fun os started H enc _ => seamNumbers_lifted os started H enc)
end Go.Proofs.Ytcahbcminonfbaa
