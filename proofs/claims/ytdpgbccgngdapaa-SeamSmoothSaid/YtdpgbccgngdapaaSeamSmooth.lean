/- SeamSmooth: for all soups and lists of values the law answers true, and its arguments read as they did. Conditions: none. -/
import Derived.Test.YtdpgbccgngdapaaRows
import Derived.Test.YtdpgbccgngdapaaChecked
import Derived.Test.YtdpgbccgngdapaaSmo31
import Derived.Test.YtdpgbccgngdapaaOpenE
namespace Go.Proofs.Ytdpgbccgngdapaa
open Go.ChangeShapes Go.WideShapes Go.ChangeAt Go.RowKit
theorem seamSmooth_own : ownKnob Try.prog.godebug = none := by kernel_rfl
theorem seamSmooth_laid : laidOutB Try.prog = true := by kernel_rfl

set_option maxRecDepth 100000 in
theorem seamSmooth_lifted (os : Os) (started : os.Started) (H : Type) (enc : TypeId × Value → H) :
    ReturnsInHanded {} Try.checked os 4 .any (Rows.seamSmoothSpec.pre6 enc Try.prog Try.f4 Rows.seamSmoothRow.domain false) (Rows.seamSmoothSpec.post enc Try.prog Try.f4 false true false false) := by
  refine returnsInHanded_of_change (C := Try.checked) seamSmooth_own started (by kernel_rfl) Try.func4
    (ChangeSpec.witness6 (enc := enc) (C := Try.checked) false ⟨#[], #[.agg #[.int .i64 0, .slice none 0 0], .slice none 0 0], []⟩ 8 (by kernel_rfl) (by kernel_rfl) (by kernel_rfl) (by kernel_rfl)) ?_
  intro W base args ds gs before hval0 hW hcnd _
  have hval : ∀ (j : Nat) t v, Try.f4.params[j]? = some t → args[j]? = some v → Value.okWide Try.prog W .any base t v := hval0
  have hW' := hW
  obtain ⟨p, q, hA0, hV, rfl, hfz, hnd⟩ := hW
  have hA : DataW.TrodAll enc Try.prog W 0 (fun _ => true) true Try.f4.params.toList args.toList ds p := hA0
  rw [Try.params4] at hA hval
  obtain ⟨v0, vs0, d0, ds0, p0, q0, hargs, rfl, rfl, h0, r0⟩ := trodAll_cons hA
  obtain ⟨v1, vs1, d1, ds1, p1, q1, rfl, rfl, rfl, h1, r1⟩ := trodAll_cons r0
  obtain ⟨rfl, rfl, rfl⟩ := trodAll_nil r1
  obtain rfl : args = #[v0, v1] := by cases args; simp_all
  obtain ⟨rfl, rfl⟩ := trodVars_none hV
  have k0 := h0
  have lt0 : ∀ x ∈ p0, x.block < W.heap.size := by obtain ⟨m, hm⟩ := k0; exact DataW.trod_lt m _ _ _ hm
  have o0 := hval 0 24 v0 rfl rfl
  have k1 := h1
  have lt1 : ∀ x ∈ p1, x.block < W.heap.size := by obtain ⟨m, hm⟩ := k1; exact DataW.trod_lt m _ _ _ hm
  have o1 := hval 1 41 v1 rfl rfl
  obtain ⟨N, A, n, c, T, rfl, hN, hn, hcm, hT, hwf⟩ := open_soup o0 h0
  obtain ⟨Ay, ny, cy, rfl⟩ := okWide_slice Try.underlying41 o1
  obtain ⟨fuel1, hf1⟩ := h1
  obtain ⟨y, hy, hncy, hcmy, hry, hwfy⟩ := open_rowS Try.underlying41 Try.underlying42 (by kernel_rfl) hf1
  have hYV : ∀ z ∈ y, 0 ≤ z ∧ z ≤ 65535 := fun z hz => by
    have h := hwfy z hz
    simp [Lit.wf, IntKind.min, IntKind.max, IntKind.bits, IntKind.signed] at h
    omega
  clear hA0 hval0
  refine (smo31_any N A n c T Ay ny cy y W hy (by unfold maxLen at hcmy; omega) hYV hT hry).mono fun e W' ⟨he, bel⟩ => ?_
  subst he
  exact ⟨_, rfl, _, _, _, [], _, [], hW', trodAll_mk1 (shut_bool Try.underlying4 _), (trodAll_cons_mk (Below.trod seamSmooth_laid (by kernel_rfl) (of_decide_eq_true (by kernel_rfl)) k0 bel lt0) (trodAll_cons_mk (Below.trod seamSmooth_laid (by kernel_rfl) (of_decide_eq_true (by kernel_rfl)) k1 bel lt1) trodAll_mk0)), rfl, bel.frame _, fun h => by cases h⟩

theorem seamSmooth_proved : Rows.SeamSmoothSaid :=
  OpenClaim.holds_of_wide 4 Try.f4 rfl rfl rfl rfl rfl rfl rfl ⟨rfl, rfl, rfl, rfl, rfl⟩ rfl rfl rfl rfl rfl (by kernel_rfl) Try.func4 (by kernel_rfl)
    (of_decide_eq_true (by kernel_rfl)) (by unfold Func.isWrapper; first | (rw [if_pos (by decide +kernel)]; kernel_rfl) | (rw [if_neg (by decide +kernel)]; exact ⟨rfl, rfl⟩))
    (fun os started H enc _ => seamSmooth_lifted os started H enc)
end Go.Proofs.Ytdpgbccgngdapaa
