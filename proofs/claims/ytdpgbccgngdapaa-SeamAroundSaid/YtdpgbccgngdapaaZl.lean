/- Lists of numbers as cells. No condition. -/
import Derived.Test.YtdpgbccgngdapaaRow8
namespace Go.Proofs.Ytdpgbccgngdapaa
open Go.RowKit

def ZL (l : List Int) : List Value := l.map (Value.int .i64)
theorem ZL_len (l : List Int) : (ZL l).length = l.length := by simp [ZL]
theorem zl_read {w : World} {B n : Nat} {A : Option Addr} {l : List Int} (h : Reads w B 1 A n (ZL l)) {k : Nat} (hk : k < n) : ∃ ad x, A = some ad ∧ ad.block < B ∧ l[k]? = some x ∧ w.cell? (ad.add k) = some (.int .i64 x) := by
  obtain ⟨ad, u, e, hb, hu, hc⟩ := h.at_ hk
  unfold ZL at hu
  rw [List.getElem?_map] at hu
  cases hx : l[k]? with
  | none => rw [hx] at hu; cases hu
  | some x =>
    rw [hx] at hu
    injection hu with hu
    subst hu
    exact ⟨ad, x, e, hb, rfl, hc⟩
end Go.Proofs.Ytdpgbccgngdapaa
