/- LineTells: for all plans, rows of bytes and numbers the law answers true, and its arguments read as they did. Conditions: none. -/
import Derived.Test.YtieoeednfgpoiaaRows
import Derived.Test.YtieoeednfgpoiaaTells53
namespace Go.Proofs.Ytieoeednfgpoiaa
open Go.ChangeShapes Go.WideShapes Go.ChangeAt Go.RowKit
theorem lineTells_own : ownKnob Try.prog.godebug = none := by kernel_rfl
theorem lineTells_laid : laidOutB Try.prog = true := by kernel_rfl

set_option maxRecDepth 100000 in
theorem lineTells_lifted (os : Os) (started : os.Started) (H : Type) (enc : TypeId × Value → H) :
    ReturnsInHanded {} Try.checked os 3 .any (Rows.lineTellsSpec.pre6 enc Try.prog Try.f3 Rows.lineTellsRow.domain false) (Rows.lineTellsSpec.post enc Try.prog Try.f3 false true false false) := by
  refine returnsInHanded_of_change (C := Try.checked) lineTells_own started (by kernel_rfl) Try.func3
    (ChangeSpec.witness6 (enc := enc) (C := Try.checked) false ⟨#[], #[.agg #[.int .i64 0, .int .i64 0, .slice none 0 0], .slice none 0 0, .int .u8 0], []⟩ 8 (by kernel_rfl) (by kernel_rfl) (by kernel_rfl) (by kernel_rfl)) ?_
  intro W base args ds gs before hval0 hW hcnd _
  have hval : ∀ (j : Nat) t v, Try.f3.params[j]? = some t → args[j]? = some v → Value.okWide Try.prog W .any base t v := hval0
  have hW' := hW
  obtain ⟨p, q, hA0, hV, rfl, hfz, hnd⟩ := hW
  have hA : DataW.TrodAll enc Try.prog W 0 (fun _ => true) true Try.f3.params.toList args.toList ds p := hA0
  rw [Try.params3] at hA hval
  obtain ⟨v0, vs0, d0, ds0, p0, q0, hargs, rfl, rfl, h0, r0⟩ := trodAll_cons hA
  obtain ⟨v1, vs1, d1, ds1, p1, q1, rfl, rfl, rfl, h1, r1⟩ := trodAll_cons r0
  obtain ⟨v2, vs2, d2, ds2, p2, q2, rfl, rfl, rfl, h2, r2⟩ := trodAll_cons r1
  obtain ⟨rfl, rfl, rfl⟩ := trodAll_nil r2
  obtain rfl : args = #[v0, v1, v2] := by cases args; simp_all
  obtain ⟨rfl, rfl⟩ := trodVars_none hV
  have k0 := h0
  have lt0 : ∀ x ∈ p0, x.block < W.heap.size := by obtain ⟨m, hm⟩ := k0; exact DataW.trod_lt m _ _ _ hm
  have o0 := hval 0 24 v0 rfl rfl
  have k1 := h1
  have lt1 : ∀ x ∈ p1, x.block < W.heap.size := by obtain ⟨m, hm⟩ := k1; exact DataW.trod_lt m _ _ _ hm
  have o1 := hval 1 25 v1 rfl rfl
  have k2 := h2
  have lt2 : ∀ x ∈ p2, x.block < W.heap.size := by obtain ⟨m, hm⟩ := k2; exact DataW.trod_lt m _ _ _ hm
  have o2 := hval 2 5 v2 rfl rfl
  obtain ⟨rate, delay, A, n, c, lost, rfl, hpl, hnm⟩ := open_plan o0 h0
  obtain ⟨A2, n2, c2, rfl⟩ := okWide_slice Try.underlying25 o1
  obtain ⟨fuel, hf⟩ := h1
  obtain ⟨bs, hm2, hrows, hbl⟩ := open_rows Try.underlying25 (by kernel_rfl) Try.underlying35 Try.underlying5 (by kernel_rfl) hf
  obtain ⟨x, rfl, _, _, wx⟩ := open_int Try.underlying5 o2 h2
  have hx := bounds_u8 wx
  obtain ⟨u, hu⟩ : ∃ u : Nat, x = u := ⟨x.toNat, by omega⟩
  subst hu
  have hmx : (maxLen : Nat) ≤ 9223372036854775807 := by unfold maxLen; omega
  clear hA0 hval0
  refine (tells_any rate delay A A2 n c n2 c2 u lost bs W hpl hrows (by omega) (by omega) (fun b hb => by have := hbl b hb; omega) (by omega)).mono fun e W' ⟨he, bel⟩ => ?_
  subst he
  exact ⟨_, rfl, _, _, _, [], _, [], hW', trodAll_mk1 (shut_bool Try.underlying4 _), (trodAll_cons_mk (Below.trod lineTells_laid (by kernel_rfl) (of_decide_eq_true (by kernel_rfl)) k0 bel lt0) (trodAll_cons_mk (Below.trod lineTells_laid (by kernel_rfl) (of_decide_eq_true (by kernel_rfl)) k1 bel lt1) (trodAll_cons_mk (Below.trod lineTells_laid (by kernel_rfl) (of_decide_eq_true (by kernel_rfl)) k2 bel lt2) trodAll_mk0))), rfl, bel.frame _, fun h => by cases h⟩

theorem lineTells_proved : Rows.LineTellsSaid :=
  OpenClaim.holds_of_wide 3 Try.f3 rfl rfl rfl rfl rfl rfl rfl ⟨rfl, rfl, rfl, rfl, rfl⟩ rfl rfl rfl rfl rfl (by kernel_rfl) Try.func3 (by kernel_rfl)
    (of_decide_eq_true (by kernel_rfl)) (by unfold Func.isWrapper; first | (rw [if_pos (by decide +kernel)]; kernel_rfl) | (rw [if_neg (by decide +kernel)]; exact ⟨rfl, rfl⟩))
    (fun os started H enc _ => lineTells_lifted os started H enc)
end Go.Proofs.Ytieoeednfgpoiaa
