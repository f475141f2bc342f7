/- soup.Rename, and the document's Perm, walked. No condition. -/
import Derived.Test.YtcahbcminonfbaaRefMir8
import Derived.Test.YtcahbcminonfbaaCert1
import Derived.Laws.MakeOwn
namespace Go.Proofs.Ytcahbcminonfbaa
open Go.RowKit

set_option linter.unusedSimpArgs false
set_option linter.unusedVariables false
/-- Is a list the numbers from 0 to N - 1, each once? -/
def permP (N : Int) (l : List Int) : Prop := (l.length : Int) = N ∧ l.Nodup ∧ ∀ x ∈ l, 0 ≤ x ∧ x < N
instance (N : Int) (l : List Int) : Decidable (permP N l) := by unfold permP; exact inferInstance
def upto (n : Nat) : List Int := (List.range n).map fun i : Nat => (i : Int)
theorem mem_upto {n : Nat} {x : Int} : x ∈ upto n ↔ 0 ≤ x ∧ x < n := by
  unfold upto
  rw [List.mem_map]
  constructor
  · rintro ⟨i, hi, rfl⟩
    have := List.mem_range.1 hi
    omega
  · rintro ⟨h1, h2⟩
    exact ⟨x.toNat, List.mem_range.2 (by omega), by omega⟩
theorem upto_nodup (n : Nat) : (upto n).Nodup := by
  unfold upto
  refine List.Pairwise.map _ ?_ (List.nodup_range (n := n))
  intro a b h e
  exact h (by omega)
theorem upto_len (n : Nat) : (upto n).length = n := by simp [upto]
theorem sub_len : ∀ (R l : List Int), R.Nodup → (∀ x ∈ R, x ∈ l) → R.length ≤ l.length
  | [], l, _, _ => Nat.zero_le _
  | a :: R, l, hn, hs => by
    have ha := hs a (List.mem_cons_self ..)
    have h1 := sub_len R (l.erase a) (List.nodup_cons.1 hn).2 (fun x hx => by
      have hne : x ≠ a := fun e => (List.nodup_cons.1 hn).1 (e ▸ hx)
      exact (List.mem_erase_of_ne hne).2 (hs x (List.mem_cons_of_mem _ hx)))
    have h2 := List.length_erase_of_mem ha
    have h3 : 0 < l.length := List.length_pos_of_mem ha
    rw [List.length_cons]
    omega
theorem perm_mem {n : Nat} {l : List Int} (h : permP n l) {x : Int} (h0 : 0 ≤ x) (h1 : x < n) : x ∈ l := by
  by_cases hx : x ∈ l
  · exact hx
  · have h2 := sub_len l ((upto n).erase x) h.2.1 (fun y hy => (List.mem_erase_of_ne (fun e : y = x => hx (e ▸ hy))).2 (mem_upto.2 (h.2.2 y hy)))
    have hm : x ∈ upto n := mem_upto.2 ⟨h0, h1⟩
    have h3 := List.length_erase_of_mem hm
    have h4 := upto_len n
    have h5 : 0 < (upto n).length := List.length_pos_of_mem hm
    have h6 := h.1
    omega
theorem perm_count {n : Nat} {l : List Int} (h : permP n l) {v : Nat} (hv : v < n) : l.count (v : Int) = 1 := by
  have h1 := List.nodup_iff_count.1 h.2.1 (v : Int)
  have h2 := List.one_le_count_iff.2 (perm_mem h (x := v) (by omega) (by omega))
  omega
theorem perm_of_count {n : Nat} {l : List Int} (hl : l.length = n) (h : ∀ v : Nat, v < n → l.count (v : Int) = 1) : permP n l := by
  have hin : ∀ x ∈ l, 0 ≤ x ∧ x < (n : Int) := fun x hx => by
    by_cases hx0 : 0 ≤ x ∧ x < (n : Int)
    · exact hx0
    · have h2 := sub_len (upto n) (l.erase x) (upto_nodup n) (fun y hy => by
        have hy2 := mem_upto.1 hy
        obtain ⟨yn, rfl⟩ := Int.eq_ofNat_of_zero_le hy2.1
        refine (List.mem_erase_of_ne (fun e : (yn : Int) = x => hx0 (e ▸ hy2))).2 ?_
        exact List.one_le_count_iff.1 (by rw [h yn (by omega)]; exact Nat.le_refl _))
      have h3 := List.length_erase_of_mem hx
      have h4 := upto_len n
      have h5 : 0 < l.length := List.length_pos_of_mem hx
      omega
  refine ⟨by omega, List.nodup_iff_count.2 fun x => ?_, hin⟩
  by_cases hx : x ∈ l
  · obtain ⟨h0, h1⟩ := hin x hx
    obtain ⟨xn, rfl⟩ := Int.eq_ofNat_of_zero_le h0
    rw [h xn (by omega)]
    exact Nat.le_refl _
  · rw [List.count_eq_zero_of_not_mem hx]
    exact Nat.zero_le _
theorem take_snoc_I (l : List Int) (k : Nat) {x : Int} (h : l[k]? = some x) : l.take (k + 1) = l.take k ++ [x] := by
  rw [List.take_add_one, h]
  rfl
end Go.Proofs.Ytcahbcminonfbaa
