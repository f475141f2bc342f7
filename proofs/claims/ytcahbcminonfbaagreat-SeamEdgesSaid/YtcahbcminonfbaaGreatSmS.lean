/- The document's bits are the program's: plain law. No condition. -/
import Derived.Test.YtcahbcminonfbaaGreatSmB
namespace Go.Proofs.YtcahbcminonfbaaGreat
open Go.RowKit

set_option linter.unusedSimpArgs false
set_option linter.unusedVariables false
section
variable {m : Nat} {T : List Tri} {K : List Int}
theorem inn_R (e : Int × Int) : innE T e = innR T e.1 e.2 := by
  unfold innE innR
  rw [show (e.1, e.2) = e from rfl]
  cases hf : facingF T e with
  | none => rfl
  | some c =>
    simp only [Option.isSome_some, Bool.true_and]
    rw [is_opp (a := e.1) (b := e.2) hf]
theorem bit_R (e : Int × Int) : bitE T K e = isR T K e.1 e.2 := rfl
theorem bits_ref (hs : SurfE m T) : bitsL T K (edgesL (m : Int) T) = refBits T K m := by
  unfold bitsL refBits
  have h1 : (edgesL (m : Int) T).filter (innE T) = (pairsP m m).filter fun e => innR T e.1 e.2 := by
    refine sortE_ext ((edgesL_surf hs).1.filter _) ((pairsP_sorted m m).filter _) fun e => ?_
    rw [List.mem_filter, List.mem_filter, inn_R]
    constructor
    · rintro ⟨h1, h2⟩
      have hb := edges_bound hs h1
      refine ⟨pairsP_mem.2 ⟨e.1.toNat, e.2.toNat, by omega, by omega, by omega, ?_⟩, h2⟩
      rw [show (e.1.toNat : Int) = e.1 by omega, show (e.2.toNat : Int) = e.2 by omega]
    · rintro ⟨h1, h2⟩
      refine ⟨?_, h2⟩
      obtain ⟨y, x, h3, h4, h5, rfl⟩ := pairsP_mem.1 h1
      unfold innR at h2
      rw [Bool.and_eq_true] at h2
      obtain ⟨c, hc⟩ := Option.isSome_iff_exists.1 h2.1
      obtain ⟨hcl, he⟩ := facing_some hc
      have hlt : (ce T c).1 < (ce T c).2 := by rw [he]; show (y : Int) < (x : Int); omega
      have := edges_ce hs hcl hlt
      rwa [he] at this
  rw [h1]
  rfl
theorem edges_ref (hs : SurfE m T) : sortE (seamsN T K (3 * T.length)) = refE T K m := sortE_is (seams_nodup hs) (refE_sorted m) (refE_mem hs)
/-- What With and At tell of two vertices. -/
theorem with_at (hs : SurfE m T) {a b : Int} : (withF T a b = none ∧ facingF T (a, b) = none) ∨ ∃ c : Nat, c < 3 * T.length ∧ facingF T (a, b) = some c ∧ withF T a b = some (c / 3) ∧ atI T (c / 3) a = (nxc c : Int) ∧ atI T (c / 3) b = (pvc c : Int) := by
  cases hf : facingF T (a, b) with
  | none => exact .inl ⟨with_none hf, rfl⟩
  | some c => exact .inr ⟨c, (facing_some hf).1, rfl, with_some hs hf, (at_a hs hf).1, (at_a hs hf).2⟩
end
end Go.Proofs.YtcahbcminonfbaaGreat
