/- Triangles in another order, each from another corner on: plain laws. No condition. -/
import Derived.Test.YtdmibpcpocacpaaCorP3
import Derived.Test.YtdmibpcpocacpaaPick8
namespace Go.Proofs.Ytdmibpcpocacpaa
open Go.RowKit

def divs (l : List Int) (k : Nat) : List Nat := (l.take k).map fun x => x.toNat / 3
/-- The first so many are corners of unlike triangles. -/
structure Good (n : Nat) (l : List Int) (k : Nat) : Prop where
  lt : ∀ x ∈ l.take k, 0 ≤ x ∧ x < 3 * (n : Int)
  nd : (divs l k).Nodup
theorem divs_step {l : List Int} {k : Nat} {x : Int} (hx : l[k]? = some x) : divs l (k + 1) = divs l k ++ [x.toNat / 3] := by
  unfold divs
  rw [List.take_add_one, hx, List.map_append]
  rfl
theorem Good.zero (n : Nat) (l : List Int) : Good n l 0 := ⟨fun x hx => by simp at hx, by simp [divs]⟩
theorem Good.step {n : Nat} {l : List Int} {k : Nat} {x : Int} (h : Good n l k) (hx : l[k]? = some x) (h0 : 0 ≤ x) (h1 : x < 3 * (n : Int)) (h2 : ¬ x.toNat / 3 ∈ divs l k) : Good n l (k + 1) := by
  refine ⟨fun y hy => ?_, ?_⟩
  · rw [List.take_add_one, hx] at hy
    rcases List.mem_append.1 hy with hy | hy
    · exact h.lt y hy
    · simp at hy
      subst hy
      exact ⟨h0, h1⟩
  · rw [divs_step hx]
    refine List.nodup_append.2 ⟨h.nd, by simp, fun a ha b hb e => ?_⟩
    simp at hb
    subst hb
    subst e
    exact h2 ha
def seenP (l : List Int) (k v : Nat) : Bool := decide (v ∈ divs l k)
theorem seen_zero (l : List Int) : seenP l 0 = fun _ => false := by funext v; simp [seenP, divs]
theorem seen_step {l : List Int} {k : Nat} {x : Int} (hx : l[k]? = some x) : (fun u => seenP l k u || u == x.toNat / 3) = seenP l (k + 1) := by
  funext u
  unfold seenP
  rw [divs_step hx]
  by_cases h1 : u ∈ divs l k
  · simp [h1]
  · by_cases h2 : u = x.toNat / 3
    · simp [h2]
    · simp [h1, h2]
theorem Good.firsts {n : Nat} {l : List Int} (h : Good n l l.length) (hl : l.length = n) : Firsts n (l.map Int.toNat) := by
  have hlt := h.lt
  have hnd := h.nd
  unfold divs at hnd
  rw [List.take_length] at hlt hnd
  refine ⟨by rw [List.length_map, hl], fun x hx => ?_, ?_⟩
  · obtain ⟨y, hy, rfl⟩ := List.mem_map.1 hx
    have := hlt y hy
    omega
  · rw [List.map_map]
    exact hnd
theorem Good.pick {n : Nat} {l : List Int} {T : List Tri} {N : Int} (h : Good n l l.length) (hn : n = T.length) (hf : fitL N T = true) : pickL N T l = (N, pickN T (l.map Int.toNat), 0) := by
  have hlt := h.lt
  rw [List.take_length] at hlt
  unfold pickL
  rw [if_neg (by simp [hf]), if_neg]
  · unfold pickN
    rw [List.map_map]
    rfl
  · simp only [Bool.not_eq_true, List.any_eq_false]
    intro x hx
    have := hlt x hx
    unfold outOf
    simp
    omega
/-- The numbers that corners bear in what is picked, while they are entered. -/
structure ToInv (n : Nat) (l : List Int) (k : Nat) (L : List Int) : Prop where
  len : L.length = 3 * n
  at_ : ∀ d, d < 3 * k → L[wasC (l.map Int.toNat) d]? = some (d : Int)
theorem nat_getD {l : List Int} {k : Nat} {c : Nat} (hx : l[k]? = some (c : Int)) : (l.map Int.toNat).getD k 0 = c := by
  rw [List.getD_eq_getElem?_getD, List.getElem?_map, hx]
  rfl
theorem ToInv.step {n : Nat} {l L : List Int} {k c : Nat} (h : ToInv n l k L) (hx : l[k]? = some (c : Int)) (hc : c < 3 * n) (hd : ¬ c / 3 ∈ divs l k) (hk : k < l.length) :
    ToInv n l (k + 1) (((L.set c (3 * (k : Int))).set (nxc c) (3 * (k : Int) + 1)).set (pvc c) (3 * (k : Int) + 2)) := by
  refine ⟨by simp [h.len], fun d hd3 => ?_⟩
  have e1 : nxc c / 3 = c / 3 := by unfold nxc; omega
  have e2 : pvc c / 3 = c / 3 := by unfold pvc; omega
  have l1 := nxc_lt hc
  have l2 := pvc_lt hc
  have n1 : c ≠ nxc c := by unfold nxc; omega
  have n2 : c ≠ pvc c := by unfold pvc; omega
  have n3 : nxc c ≠ pvc c := by unfold nxc pvc; omega
  by_cases hdk : d < 3 * k
  · have hne : wasC (l.map Int.toNat) d / 3 ≠ c / 3 := by
      rw [was_div]
      intro e
      apply hd
      have hlt : d / 3 < l.length := by omega
      unfold divs
      refine List.mem_map.2 ⟨l[d / 3], ?_, ?_⟩
      · rw [List.mem_iff_getElem?]
        exact ⟨d / 3, by rw [List.getElem?_take_of_lt (by omega), List.getElem?_eq_getElem hlt]⟩
      · rw [← e, List.getD_eq_getElem?_getD, List.getElem?_map, List.getElem?_eq_getElem hlt]
        rfl
    have h0 := h.at_ d hdk
    rw [List.getElem?_set_ne (fun e => hne (by rw [← e, e2])), List.getElem?_set_ne (fun e => hne (by rw [← e, e1])), List.getElem?_set_ne (fun e => hne (by rw [← e]))]
    exact h0
  · have hdk' : d / 3 = k := by omega
    have hw : wasC (l.map Int.toNat) d = 3 * (c / 3) + (c + d % 3) % 3 := by
      unfold wasC
      rw [hdk', nat_getD hx]
    have hL : L.length = 3 * n := h.len
    rcases (by omega : d = 3 * k ∨ d = 3 * k + 1 ∨ d = 3 * k + 2) with rfl | rfl | rfl
    · have hw' : wasC (l.map Int.toNat) (3 * k) = c := by omega
      rw [hw', List.getElem?_set_ne (Ne.symm n2), List.getElem?_set_ne (Ne.symm n1), List.getElem?_set_self (by omega)]
      simp
    · have hw' : wasC (l.map Int.toNat) (3 * k + 1) = nxc c := by unfold nxc; omega
      rw [hw', List.getElem?_set_ne (Ne.symm n3), List.getElem?_set_self (by simp; omega)]
      simp
    · have hw' : wasC (l.map Int.toNat) (3 * k + 2) = pvc c := by unfold pvc; omega
      rw [hw', List.getElem?_set_self (by simp; omega)]
      simp
theorem ToInv.zero (n : Nat) (l : List Int) : ToInv n l 0 (List.replicate (3 * n) 0) := ⟨by simp, fun d h => by omega⟩
theorem Good.fresh {n : Nat} {l : List Int} {k : Nat} {x : Int} (h : Good n l l.length) (hx : l[k]? = some x) : (0 ≤ x ∧ x < 3 * (n : Int)) ∧ ¬ x.toNat / 3 ∈ divs l k := by
  have hk : k < l.length := (List.getElem?_eq_some_iff.1 hx).1
  refine ⟨h.lt x (by rw [List.take_length]; exact List.mem_of_getElem? hx), fun hm => ?_⟩
  have hnd := h.nd
  have hs : (divs l (k + 1)).Nodup := by
    unfold divs at hnd ⊢
    rw [List.take_length] at hnd
    exact List.Nodup.sublist ((List.take_sublist _ _).map _) hnd
  rw [divs_step hx] at hs
  exact (List.nodup_append.1 hs).2.2 _ hm _ (by simp) rfl
end Go.Proofs.Ytdmibpcpocacpaa
