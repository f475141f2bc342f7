/- All witnesses, by definition, triangle by triangle: the plain law. -/
import Derived.Test.YtdmibpcpocacpaaPassB
namespace Go.Proofs.Ytdmibpcpocacpaa
open Go.RowKit

/-- The first list of some that holds anything. -/
def firstL : List (List (Int × Int × Int)) → List (Int × Int × Int)
  | [] => []
  | [] :: l => firstL l
  | (x :: xs) :: _ => x :: xs
def refW (kind : Int) (test : Tri → Tri → Bool) (T : List Tri) (n : Nat) : List (Int × Int × Int) := (refD test T n).map (wit kind)
def pinchedB (T : List Tri) (n v : Nat) : Bool := !(atL T n (v : Int)).isEmpty && pinchB T (v : Int) (atL T n (v : Int))
/-- P9.1, as the document's answer goes. -/
def refAll (N : Int) (T : List Tri) : List (Int × Int × Int) :=
  firstL [indexL N T.length T, picks 2 (loopB T) T.length, refW 3 twiceB T T.length, refW 4 mirrB T T.length, picks 5 (fun v => !usedTo T T.length v) N.toNat, picks 6 (fun v => pinchedB T T.length v) N.toNat]
theorem firstL_no {x : List (Int × Int × Int)} {l : List (List (Int × Int × Int))} (h : x = []) : firstL (x :: l) = firstL l := by subst h; rfl
theorem firstL_yes {x : List (Int × Int × Int)} {l : List (List (Int × Int × Int))} (h : x ≠ []) : firstL (x :: l) = x := by
  cases x with
  | nil => exact absurd rfl h
  | cons a l => rfl
theorem first_step {k : Int} {D : List (Int × Int)} {x : List (Int × Int × Int)} {l : List (Int × List (Int × Int))} {l' : List (List (Int × Int × Int))} (h1 : (sortP D).map (wit k) = x) (h2 : D = [] → firstK l = firstL l') :
    firstK ((k, D) :: l) = firstL (x :: l') := by
  by_cases hD : D = []
  · rw [firstK_no hD, h2 hD, firstL_no]
    subst hD
    rw [← h1, show sortP [] = [] from List.eq_nil_of_length_eq_zero (sortP_len [])]
    rfl
  · rw [firstK_yes hD, h1, firstL_yes]
    intro e
    rw [e] at h1
    have : (sortP D).length = 0 := by have := congrArg List.length h1; simpa using this
    rw [sortP_len] at this
    exact hD (List.eq_nil_of_length_eq_zero this)
theorem picks_sorted (kind : Int) (p : Nat → Bool) (k : Nat) : (sortP (picksD p k)).map (wit kind) = picks kind p k := by rw [sortP_self (picksD_sorted p k), picks_wit]
theorem allL_ref (N : Int) (T : List Tri) : allL N T = refAll N T := by
  unfold allL refAll allK
  refine first_step (by rw [sortP_self (indexD_sorted _ _ _), indexL_wit]) fun h1 => ?_
  obtain ⟨hN0, hN1, hT1⟩ := indexD_nil rfl h1
  obtain ⟨m, rfl⟩ := Int.eq_ofNat_of_zero_le hN0
  rw [Int.toNat_natCast]
  refine first_step (picks_sorted _ _ _) fun h2 => ?_
  have hok : ∀ t ∈ T, TriOk m t := fun t ht => by
    obtain ⟨⟨a0, a1⟩, ⟨b0, b1⟩, c0, c1⟩ := hT1 t ht
    obtain ⟨q1, q2, q3⟩ := loopD_nil rfl h2 t ht
    exact ⟨a0, a1, b0, b1, c0, c1, q1, q2, q3⟩
  refine first_step (by unfold refW; rw [pairs_spec keys2 (fun _ => Nat.le_refl _) twiceB (fun t ht => keys2_nodup (hok t ht)) (fun t _ u _ => twiceB_iff t u)]) fun h3 => ?_
  refine first_step (by unfold refW; rw [pairs_spec keys3 (fun t => by simp [keys3]) mirrB (fun t _ => by simp [keys3]) (fun t ht u hu => mirrB_iff (hok t ht) (hok u hu))]) fun h4 => ?_
  refine first_step (picks_sorted _ _ _) fun h5 => ?_
  have huse := lonelyD_nil rfl h5
  have e : ∀ v, v ∈ List.range m → (!connB T (v : Int) (atL T T.length (v : Int))) = pinchedB T T.length v := fun v hv => by
    have hne := huse v (List.mem_range.1 hv)
    unfold pinchedB
    rw [pinchB_conn (atL_nodup _ _ _) hne]
    have : (atL T T.length (v : Int)).isEmpty = false := by
      cases h : atL T T.length (v : Int) with
      | nil => exact absurd h hne
      | cons a l => rfl
    rw [this]
    rfl
  have e2 : picks 6 (fun v => !connB T (v : Int) (atL T T.length (v : Int))) m = picks 6 (fun v => pinchedB T T.length v) m := by
    unfold picks
    rw [List.filter_congr e]
  refine first_step (by rw [picks_sorted, e2]) fun _ => rfl
/-- The first witness, or none. -/
def checkR (N : Int) (T : List Tri) : Int × Int × Int := (refAll N T).headD (0, 0, 0)

def solid : List Tri := [⟨0, 1, 2⟩, ⟨0, 3, 1⟩, ⟨1, 3, 2⟩, ⟨2, 3, 0⟩]
theorem solid_is : refAll 4 solid = [] := by decide +kernel
theorem turned_is : (checkR 4 [⟨0, 1, 2⟩, ⟨0, 3, 1⟩, ⟨1, 3, 2⟩, ⟨2, 0, 3⟩]).1 = 3 := by decide +kernel
theorem open_is : refAll 4 [⟨0, 1, 2⟩, ⟨0, 3, 1⟩, ⟨1, 3, 2⟩] = [] := by decide +kernel
theorem pinch_is : checkR 5 [⟨0, 1, 2⟩, ⟨2, 3, 4⟩] = (6, 2, 0) := by decide +kernel
end Go.Proofs.Ytdmibpcpocacpaa
