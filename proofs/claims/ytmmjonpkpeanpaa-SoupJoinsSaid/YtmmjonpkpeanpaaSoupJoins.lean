/- SoupJoins: for all rows of soups the law answers true, and its argument reads as it did. Conditions: none. -/
import Derived.Test.YtmmjonpkpeanpaaRows
import Derived.Test.YtmmjonpkpeanpaaChecked
import Derived.Test.YtmmjonpkpeanpaaJoinsW
import Derived.Test.YtmmjonpkpeanpaaOpenS
namespace Go.Proofs.Ytmmjonpkpeanpaa
open Go.ChangeShapes Go.WideShapes Go.ChangeAt Go.RowKit
theorem soupJoins_own : ownKnob Try.prog.godebug = none := by kernel_rfl
theorem soupJoins_laid : laidOutB Try.prog = true := by kernel_rfl

set_option maxRecDepth 100000 in
theorem soupJoins_lifted (os : Os) (started : os.Started) (H : Type) (enc : TypeId × Value → H) :
    ReturnsInHanded {} Try.checked os 5 .any (Rows.soupJoinsSpec.pre6 enc Try.prog Try.f5 Rows.soupJoinsRow.domain false) (Rows.soupJoinsSpec.post enc Try.prog Try.f5 false true false false) := by
  refine returnsInHanded_of_change (C := Try.checked) soupJoins_own started (by kernel_rfl) Try.func5
    (ChangeSpec.witness6 (enc := enc) (C := Try.checked) false ⟨#[], #[.slice none 0 0], []⟩ 8 (by kernel_rfl) (by kernel_rfl) (by kernel_rfl) (by kernel_rfl)) ?_
  intro W base args ds gs before hval0 hW hcnd _
  have hval : ∀ (j : Nat) t v, Try.f5.params[j]? = some t → args[j]? = some v → Value.okWide Try.prog W .any base t v := hval0
  have hW' := hW
  obtain ⟨p, q, hA0, hV, rfl, hfz, hnd⟩ := hW
  have hA : DataW.TrodAll enc Try.prog W 0 (fun _ => true) true Try.f5.params.toList args.toList ds p := hA0
  rw [Try.params5] at hA hval
  obtain ⟨v0, vs0, d0, ds0, p0, q0, hargs, rfl, rfl, h0, r0⟩ := trodAll_cons hA
  obtain ⟨rfl, rfl, rfl⟩ := trodAll_nil r0
  obtain rfl : args = #[v0] := by cases args; simp_all
  obtain ⟨rfl, rfl⟩ := trodVars_none hV
  have k0 := h0
  have lt0 : ∀ x ∈ p0, x.block < W.heap.size := by obtain ⟨m, hm⟩ := k0; exact DataW.trod_lt m _ _ _ hm
  have o0 := hval 0 43 v0 rfl rfl
  obtain ⟨As, ns, cs, rfl⟩ := okWide_slice Try.underlying43 o0
  obtain ⟨fuel0, hf0⟩ := h0
  obtain ⟨A, n, c, l, hve, hnc, hcm, hT⟩ := open_soups hf0
  injection hve with e1 e2 e3
  subst e1 e2 e3
  clear hA0 hval0
  refine (joinsLaw_any As ns cs l W hT).mono fun e W' ⟨he, bel⟩ => ?_
  subst he
  exact ⟨_, rfl, _, _, _, [], _, [], hW', trodAll_mk1 (shut_bool Try.underlying4 _), (trodAll_cons_mk (Below.trod soupJoins_laid (by kernel_rfl) (of_decide_eq_true (by kernel_rfl)) k0 bel lt0) trodAll_mk0), rfl, bel.frame _, fun h => by cases h⟩

theorem soupJoins_proved : Rows.SoupJoinsSaid :=
  OpenClaim.holds_of_wide 5 Try.f5 rfl rfl rfl rfl rfl rfl rfl ⟨rfl, rfl, rfl, rfl, rfl⟩ rfl rfl rfl rfl rfl (by kernel_rfl) Try.func5 (by kernel_rfl)
    (of_decide_eq_true (by kernel_rfl)) (by unfold Func.isWrapper; first | (rw [if_pos (by decide +kernel)]; kernel_rfl) | (rw [if_neg (by decide +kernel)]; exact ⟨rfl, rfl⟩))
    (fun os started H enc _ => soupJoins_lifted os started H enc)
end Go.Proofs.Ytmmjonpkpeanpaa
