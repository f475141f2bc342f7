/- CertifyLonely, the plain law: a vertex more is the only witness. -/
import Derived.Test.YtdmibpcpocacpaaLawAll
namespace Go.Proofs.Ytdmibpcpocacpaa
open Go.RowKit

theorem firstL_nil : ∀ {l : List (List (Int × Int × Int))}, firstL l = [] → ∀ x ∈ l, x = []
  | [], _, x, hx => by cases hx
  | [] :: l, h, x, hx => by
    rcases List.mem_cons.1 hx with rfl | hx
    · rfl
    · exact firstL_nil (l := l) h x hx
  | (a :: xs) :: l, h, x, hx => by cases h
theorem picks_nil {kind : Int} {p : Nat → Bool} {k : Nat} (h : picks kind p k = []) : ∀ i, i < k → p i = false := by
  intro i hi
  cases hb : p i with
  | false => rfl
  | true =>
    have : (kind, (i : Int), (0 : Int)) ∈ picks kind p k := by
      unfold picks
      exact List.mem_map.2 ⟨i, List.mem_filter.2 ⟨List.mem_range.2 hi, hb⟩, rfl⟩
    rw [h] at this
    cases this
theorem picks_nil_of {kind : Int} {p : Nat → Bool} {k : Nat} (h : ∀ i, i < k → p i = false) : picks kind p k = [] := by
  unfold picks
  rw [List.filter_eq_nil_iff.2 (fun i hi => by rw [h i (List.mem_range.1 hi)]; decide)]
  rfl
/-- What a surface is. -/
structure Surf (N : Int) (T : List Tri) (m : Nat) : Prop where
  n : N = (m : Int)
  m1 : m ≤ 4096
  t1 : T.length ≤ 8192
  ok : ∀ t ∈ T, TriOk m t
  twice : refD twiceB T T.length = []
  mirr : refD mirrB T T.length = []
  used : ∀ v, v < m → usedTo T T.length v = true
  pinch : ∀ v, v < m → pinchedB T T.length v = false
theorem surf_of {N : Int} {T : List Tri} (h : refAll N T = []) : ∃ m, Surf N T m := by
  have hx := firstL_nil h
  have h1 := hx (indexL N T.length T) (by simp)
  have h2 := hx (picks 2 (loopB T) T.length) (by simp)
  have h3 := hx (refW 3 twiceB T T.length) (by simp)
  have h4 := hx (refW 4 mirrB T T.length) (by simp)
  have h5 := hx (picks 5 (fun v => !usedTo T T.length v) N.toNat) (by simp)
  have h6 := hx (picks 6 (fun v => pinchedB T T.length v) N.toNat) (by simp)
  rw [indexL_wit] at h1
  have h1 : indexD N T.length T = [] := List.map_eq_nil_iff.1 h1
  obtain ⟨q1, q2, q3⟩ := indexD_nil rfl h1
  obtain ⟨m, rfl⟩ := Int.eq_ofNat_of_zero_le q1
  rw [Int.toNat_natCast] at h5 h6
  have hl := picks_nil h2
  refine ⟨m, rfl, by omega, ?_, fun t ht => ?_, List.map_eq_nil_iff.1 h3, List.map_eq_nil_iff.1 h4, fun v hv => ?_, fun v hv => picks_nil h6 v hv⟩
  · unfold indexD at h1
    split at h1
    · cases h1
    · rename_i hs
      refine Nat.not_lt.1 fun h' => hs ?_
      unfold sizeB
      simp only [Bool.or_eq_true, decide_eq_true_eq]
      exact .inr h'
  · obtain ⟨⟨a0, a1⟩, ⟨b0, b1⟩, c0, c1⟩ := q3 t ht
    obtain ⟨i, hi, e⟩ := List.getElem_of_mem ht
    have hb := hl i hi
    unfold loopB at hb
    rw [List.getElem?_eq_getElem hi, e] at hb
    simp only [Bool.or_eq_false_iff, beq_eq_false_iff_ne] at hb
    exact ⟨a0, a1, b0, b1, c0, c1, hb.1.1, hb.1.2, hb.2⟩
  · have := picks_nil h5 v hv
    cases hu : usedTo T T.length v with
    | true => rfl
    | false => simp [hu] at this
theorem surf_first {m : Nat} {T : List Tri} (h1 : m ≤ 4096) (h2 : T.length ≤ 8192) (hok : ∀ t ∈ T, TriOk m t) (h3 : refD twiceB T T.length = []) (h4 : refD mirrB T T.length = []) :
    refAll (m : Int) T = firstL [picks 5 (fun v => !usedTo T T.length v) m, picks 6 (fun v => pinchedB T T.length v) m] := by
  unfold refAll
  rw [firstL_no, firstL_no, firstL_no, firstL_no, Int.toNat_natCast]
  · unfold refW; rw [h4]; rfl
  · unfold refW; rw [h3]; rfl
  · refine picks_nil_of fun i hi => ?_
    unfold loopB
    rw [List.getElem?_eq_getElem hi]
    obtain ⟨_, _, _, _, _, _, q1, q2, q3⟩ := hok _ (List.getElem_mem hi)
    simp [q1, q2, q3]
  · unfold indexL
    rw [if_neg]
    · refine picks_nil_of fun i hi => ?_
      unfold indexB
      rw [List.getElem?_eq_getElem hi]
      obtain ⟨a0, a1, b0, b1, c0, c1, _, _, _⟩ := hok _ (List.getElem_mem hi)
      unfold badV
      simp only [Bool.or_eq_false_iff, decide_eq_false_iff_not]
      refine ⟨⟨⟨?_, ?_⟩, ?_, ?_⟩, ?_, ?_⟩ <;> omega
    · unfold sizeB
      simp only [Bool.or_eq_true, decide_eq_true_eq]
      omega
theorem surf_all {N : Int} {T : List Tri} {m : Nat} (h : Surf N T m) : refAll N T = [] := by
  obtain ⟨rfl, h1, h2, hok, h3, h4, h5, h6⟩ := h
  rw [surf_first h1 h2 hok h3 h4, firstL_no, firstL_no]
  · rfl
  · exact picks_nil_of h6
  · exact picks_nil_of fun v hv => by simp [h5 v hv]
/-- A vertex more: it is the only witness. -/
theorem lonely_law {N : Int} {T : List Tri} {m : Nat} (h : Surf N T m) (hm : m < 4096) : refAll (N + 1) T = [(5, N, 0)] := by
  obtain ⟨rfl, h1, h2, hok, h3, h4, h5, h6⟩ := h
  have hok' : ∀ t ∈ T, TriOk (m + 1) t := fun t ht => by
    obtain ⟨a0, a1, b0, b1, c0, c1, q1, q2, q3⟩ := hok t ht
    exact ⟨a0, by omega, b0, by omega, c0, by omega, q1, q2, q3⟩
  have e : ((m : Int) + 1) = ((m + 1 : Nat) : Int) := by omega
  have hu : usedTo T T.length m = false := by
    cases hu : usedTo T T.length m with
    | false => rfl
    | true =>
      unfold usedTo at hu
      rw [List.take_length, List.any_eq_true] at hu
      obtain ⟨t, ht, hv⟩ := hu
      obtain ⟨a0, a1, b0, b1, c0, c1, _, _, _⟩ := hok t ht
      unfold hasV at hv
      simp only [Bool.or_eq_true, beq_iff_eq] at hv
      omega
  have h5' : picks 5 (fun v => !usedTo T T.length v) (m + 1) = [(5, (m : Int), 0)] := by
    rw [picks_succ, picks_nil_of (fun v hv => by simp [h5 v hv]), if_pos (by simp [hu])]
    rfl
  rw [e, surf_first (by omega) h2 hok' h3 h4, firstL_yes, h5']
  rw [h5']
  simp
theorem firstL_mem : ∀ {l : List (List (Int × Int × Int))} {x : Int × Int × Int}, x ∈ firstL l → ∃ y ∈ l, x ∈ y
  | [], x, h => by cases h
  | [] :: l, x, h => by
    obtain ⟨y, hy, hx⟩ := firstL_mem (l := l) h
    exact ⟨y, by simp [hy], hx⟩
  | (a :: xs) :: l, x, h => ⟨a :: xs, by simp, h⟩
theorem picks_kind {kind : Int} {p : Nat → Bool} {k : Nat} {x : Int × Int × Int} (h : x ∈ picks kind p k) : x.1 = kind := by
  unfold picks at h
  obtain ⟨_, _, rfl⟩ := List.mem_map.1 h
  rfl
theorem refW_kind {kind : Int} {test : Tri → Tri → Bool} {T : List Tri} {n : Nat} {x : Int × Int × Int} (h : x ∈ refW kind test T n) : x.1 = kind := by
  unfold refW at h
  obtain ⟨_, _, rfl⟩ := List.mem_map.1 h
  rfl
/-- The kinds of witnesses. -/
theorem ref_kind {N : Int} {T : List Tri} {x : Int × Int × Int} (h : x ∈ refAll N T) : 1 ≤ x.1 ∧ x.1 ≤ 6 := by
  obtain ⟨y, hy, hx⟩ := firstL_mem h
  simp only [List.mem_cons, List.not_mem_nil, or_false] at hy
  rcases hy with rfl | rfl | rfl | rfl | rfl | rfl
  · unfold indexL at hx
    split at hx
    · rw [List.mem_singleton.1 hx]; decide
    · rw [picks_kind hx]; decide
  · rw [picks_kind hx]; decide
  · rw [refW_kind hx]; decide
  · rw [refW_kind hx]; decide
  · rw [picks_kind hx]; decide
  · rw [picks_kind hx]; decide
theorem no_zero (N : Int) (T : List Tri) : ((0 : Int), (0 : Int), (0 : Int)) ∉ refAll N T := fun h => by
  have := (ref_kind h).1
  simp at this
theorem check_is (N : Int) (T : List Tri) : checkR N T = (0, 0, 0) ↔ refAll N T = [] := by
  unfold checkR
  constructor
  · intro h
    cases hr : refAll N T with
    | nil => rfl
    | cons x l =>
      rw [hr] at h
      have hx : x = (0, 0, 0) := h
      subst hx
      have hm : ((0 : Int), (0 : Int), (0 : Int)) ∈ refAll N T := by rw [hr]; simp
      exact absurd hm (no_zero N T)
  · intro h
    rw [h]
    rfl
end Go.Proofs.Ytdmibpcpocacpaa
