/- What certify.All tells is what the document defines, triangle by triangle: the plain law. -/
import Derived.Test.YtdmibpcpocacpaaAll
namespace Go.Proofs.Ytdmibpcpocacpaa
open Go.RowKit Go.Sort Go.Shelf

/-! ### Sorted lists -/
theorem ltW_trans {x y z : Int × Int} (h : ltW x y) (h' : ltW y z) : ltW x z := by unfold ltW at *; omega
theorem sortP_pairwise (d : List (Int × Int)) : (sortP d).Pairwise fun x y => (!(ltOf cfW) y x) = true := by
  refine List.pairwise_mergeSort (fun a b c h1 h2 => ?_) (fun a b => ?_) d
  · simp only [Bool.not_eq_true', ltOf_cfW_no] at *
    unfold ltW at *
    omega
  · rw [Bool.or_eq_true]
    simp only [Bool.not_eq_true', ltOf_cfW_no]
    unfold ltW
    omega
theorem ltW_nodup {d : List (Int × Int)} (h : d.Pairwise ltW) : d.Nodup := h.imp fun {a b} h e => by subst e; unfold ltW at h; omega
theorem sortP_eq {d d' : List (Int × Int)} (hd : d.Nodup) (hs : d'.Pairwise ltW) (hm : ∀ x, x ∈ d ↔ x ∈ d') : sortP d = d' := by
  have hp : (sortP d).Perm d' := (List.mergeSort_perm _ _).trans ((List.perm_ext_iff_of_nodup hd (ltW_nodup hs)).2 hm)
  refine List.Perm.eq_of_pairwise (le := fun x y => (!(ltOf cfW) y x) = true) (fun a b _ _ h1 h2 => ?_) (sortP_pairwise d) (hs.imp fun {a b} h => ?_) hp
  · simp only [Bool.not_eq_true'] at h1 h2
    exact totalW a b h2 h1
  · simp only [Bool.not_eq_true', ltOf_cfW_no]
    unfold ltW at *
    omega
theorem sortP_self {d : List (Int × Int)} (hs : d.Pairwise ltW) : sortP d = d := sortP_eq (ltW_nodup hs) hs fun _ => Iff.rfl
theorem picksD_sorted (p : Nat → Bool) (k : Nat) : (picksD p k).Pairwise ltW := by
  unfold picksD
  rw [List.pairwise_map]
  refine (List.pairwise_lt_range.filter _).imp fun {a b} h => Or.inr ⟨rfl, ?_⟩
  show (a : Int) < (b : Int)
  omega
theorem indexD_sorted (N : Int) (n : Nat) (T : List Tri) : (indexD N n T).Pairwise ltW := by
  unfold indexD
  split
  · simp
  · exact picksD_sorted _ _

/-! ### Pairs -/
theorem foldP_mem (i : Nat) (p : Nat × Nat) : ∀ (l : List Nat) (L : List (Nat × Nat)), p ∈ l.foldl (addP i) L ↔ p ∈ L ∨ (p.2 = i ∧ p.1 ∈ l)
  | [], L => by simp
  | a :: l, L => by
    rw [List.foldl_cons, foldP_mem i p l]
    have h1 : p ∈ addP i L a ↔ p ∈ L ∨ p = (a, i) := by
      unfold addP
      split
      · rename_i h
        exact ⟨.inl, fun h' => by rcases h' with h' | rfl; exact h'; exact h⟩
      · simp
    rw [h1, List.mem_cons]
    obtain ⟨x, y⟩ := p
    simp only [Prod.mk.injEq]
    constructor
    · rintro ((h | ⟨h1, h2⟩) | ⟨h1, h⟩)
      · exact .inl h
      · exact .inr ⟨h2, .inl h1⟩
      · exact .inr ⟨h1, .inr h⟩
    · rintro (h | ⟨h1, h2 | h⟩)
      · exact .inl (.inl h)
      · exact .inl (.inr ⟨h2, h1⟩)
      · exact .inr ⟨h1, h⟩
theorem keysP_mem (i : Nat) : ∀ (ks : List K3) (s : PS), ks.Nodup → (∀ x a, a ∈ (ks.foldl (PS.key i) s).had x ↔ a ∈ s.had x ∨ (a = i ∧ x ∈ ks)) ∧ ∀ p, p ∈ (ks.foldl (PS.key i) s).out ↔ p ∈ s.out ∨ (p.2 = i ∧ ∃ x ∈ ks, p.1 ∈ s.had x)
  | [], s, _ => ⟨fun x a => by simp, fun p => by simp⟩
  | k :: ks, s, hn => by
    obtain ⟨hk, hks⟩ := List.nodup_cons.1 hn
    obtain ⟨h1, h2⟩ := keysP_mem i ks (PS.key i s k) hks
    refine ⟨fun x a => ?_, fun p => ?_⟩
    · rw [List.foldl_cons, h1]
      simp only [PS.key, List.mem_cons]
      by_cases hx : x = k
      · subst hx
        simp only [if_true, List.mem_append, List.mem_singleton]
        constructor
        · rintro ((h | h) | ⟨h, _⟩)
          · exact .inl h
          · exact .inr ⟨h, .inl trivial⟩
          · exact .inr ⟨h, .inl trivial⟩
        · rintro (h | ⟨h, _⟩)
          · exact .inl (.inl h)
          · exact .inl (.inr h)
      · simp only [if_neg hx]
        simp [hx]
    · rw [List.foldl_cons, h2]
      simp only [PS.key]
      rw [foldP_mem]
      constructor
      · rintro ((h | ⟨h3, h4⟩) | ⟨h3, x, hx, h4⟩)
        · exact .inl h
        · exact .inr ⟨h3, k, by simp, h4⟩
        · rw [if_neg (fun e => hk (by rw [← e]; exact hx))] at h4
          exact .inr ⟨h3, x, by simp [hx], h4⟩
      · rintro (h | ⟨h3, x, hx, h4⟩)
        · exact .inl (.inl h)
        · rcases List.mem_cons.1 hx with rfl | hx
          · exact .inl (.inr ⟨h3, h4⟩)
          · exact .inr ⟨h3, x, hx, by rw [if_neg (fun e => hk (by rw [← e]; exact hx))]; exact h4⟩
theorem toP_mem (keys : Tri → List K3) {T : List Tri} (hn : ∀ t ∈ T, (keys t).Nodup) : ∀ k, k ≤ T.length →
    (∀ x a, a ∈ (PS.to keys T k).had x ↔ a < k ∧ x ∈ keys (tri T a)) ∧ ∀ p, p ∈ (PS.to keys T k).out ↔ p.1 < p.2 ∧ p.2 < k ∧ ∃ x ∈ keys (tri T p.2), x ∈ keys (tri T p.1)
  | 0, _ => ⟨fun x a => by simp [PS.to], fun p => by simp [PS.to]⟩
  | k + 1, hk => by
    obtain ⟨h1, h2⟩ := toP_mem keys hn k (by omega)
    have ht : T[k]? = some T[k] := List.getElem?_eq_getElem (by omega)
    obtain ⟨h3, h4⟩ := keysP_mem k (keys T[k]) (PS.to keys T k) (hn _ (List.getElem_mem _))
    have e := tri_of ht
    refine ⟨fun x a => ?_, fun p => ?_⟩
    · rw [to_succ keys ht, h3, h1]
      constructor
      · rintro (⟨h, h'⟩ | ⟨rfl, h⟩)
        · exact ⟨by omega, h'⟩
        · exact ⟨by omega, by rw [e]; exact h⟩
      · rintro ⟨h, h'⟩
        rcases (by omega : a < k ∨ a = k) with h5 | rfl
        · exact .inl ⟨h5, h'⟩
        · exact .inr ⟨rfl, by rw [e] at h'; exact h'⟩
    · rw [to_succ keys ht, h4, h2]
      constructor
      · rintro (⟨h, h', h''⟩ | ⟨h, x, hx, h'⟩)
        · exact ⟨h, by omega, h''⟩
        · rw [h1] at h'
          refine ⟨by omega, by omega, x, ?_, h'.2⟩
          rw [h, e]; exact hx
      · rintro ⟨h, h', x, hx, hx'⟩
        rcases (by omega : p.2 < k ∨ p.2 = k) with h5 | h5
        · exact .inl ⟨h, h5, x, hx, hx'⟩
        · rw [h5, e] at hx
          exact .inr ⟨h5, x, hx, by rw [h1]; exact ⟨by omega, hx'⟩⟩
/-- Of two triangles each, which pass a test. -/
def refD (test : Tri → Tri → Bool) (T : List Tri) (n : Nat) : List (Int × Int) := (List.range n).flatMap fun b => ((List.range b).filter fun a => test (tri T a) (tri T b)).map fun a : Nat => ((a : Int), (b : Int))
theorem refD_mem (test : Tri → Tri → Bool) (T : List Tri) (n : Nat) (x : Int × Int) : x ∈ refD test T n ↔ ∃ a b : Nat, x = ((a : Int), (b : Int)) ∧ a < b ∧ b < n ∧ test (tri T a) (tri T b) = true := by
  unfold refD
  simp only [List.mem_flatMap, List.mem_map, List.mem_filter, List.mem_range]
  constructor
  · rintro ⟨b, hb, a, ⟨ha, ht⟩, rfl⟩
    exact ⟨a, b, rfl, ha, hb, ht⟩
  · rintro ⟨a, b, rfl, ha, hb, ht⟩
    exact ⟨b, hb, a, ⟨ha, ht⟩, rfl⟩
theorem refD_sorted (test : Tri → Tri → Bool) (T : List Tri) (n : Nat) : (refD test T n).Pairwise ltW := by
  unfold refD
  rw [List.pairwise_flatMap]
  refine ⟨fun b _ => ?_, ?_⟩
  · rw [List.pairwise_map]
    refine (List.pairwise_lt_range.filter _).imp fun {a a'} h => Or.inr ⟨rfl, ?_⟩
    show (a : Int) < (a' : Int)
    omega
  · refine List.pairwise_lt_range.imp fun {b b'} h x hx y hy => ?_
    simp only [List.mem_map] at hx hy
    obtain ⟨_, _, rfl⟩ := hx
    obtain ⟨_, _, rfl⟩ := hy
    left
    show (b : Int) < (b' : Int)
    omega
theorem outD_nodup {L : List (Nat × Nat)} (h : L.Nodup) : (outD L).Nodup := by
  unfold outD
  unfold List.Nodup at *
  rw [List.pairwise_map]
  refine h.imp fun {p q} hne e => hne ?_
  simp only [Prod.mk.injEq] at e
  exact Prod.ext (by omega) (by omega)
theorem pairs_spec (keys : Tri → List K3) (hkl : ∀ t, (keys t).length ≤ 3) (test : Tri → Tri → Bool) {T : List Tri} (hn : ∀ t ∈ T, (keys t).Nodup) (ht : ∀ t ∈ T, ∀ u ∈ T, test t u = true ↔ ∃ x ∈ keys u, x ∈ keys t) :
    sortP (outD (PS.to keys T T.length).out) = refD test T T.length := by
  have hok := to_ok keys hkl T (n := T.length) T.length (Nat.le_refl _)
  refine sortP_eq (outD_nodup hok.nodup) (refD_sorted _ _ _) fun x => ?_
  rw [refD_mem]
  unfold outD
  rw [List.mem_map]
  have hmem := (toP_mem keys hn T.length (Nat.le_refl _)).2
  have hT : ∀ a, a < T.length → tri T a ∈ T := fun a ha => by
    rw [tri_of (List.getElem?_eq_getElem ha)]
    exact List.getElem_mem ha
  constructor
  · rintro ⟨p, hp, rfl⟩
    obtain ⟨h1, h2, h3⟩ := (hmem p).1 hp
    exact ⟨p.1, p.2, rfl, h1, h2, (ht _ (hT _ (by omega)) _ (hT _ h2)).2 h3⟩
  · rintro ⟨a, b, rfl, h1, h2, h3⟩
    exact ⟨(a, b), (hmem _).2 ⟨h1, h2, (ht _ (hT _ (by omega)) _ (hT _ h2)).1 h3⟩, rfl⟩

/-! ### The two tests -/
def edgeB (t : Tri) (a b : Int) : Bool := (t.a == a && t.b == b) || (t.b == a && t.c == b) || (t.c == a && t.a == b)
def twiceB (t u : Tri) : Bool := edgeB u t.a t.b || edgeB u t.b t.c || edgeB u t.c t.a
def hasB (t : Tri) (v : Int) : Bool := t.a == v || t.b == v || t.c == v
def mirrB (t u : Tri) : Bool := hasB u t.a && hasB u t.b && hasB u t.c
theorem edgeB_iff (t : Tri) (a b : Int) : edgeB t a b = true ↔ (a, b, (0 : Int)) ∈ keys2 t := by
  unfold edgeB keys2
  simp only [Bool.or_eq_true, Bool.and_eq_true, beq_iff_eq, List.mem_cons, List.not_mem_nil, or_false, Prod.mk.injEq, and_true]
  constructor
  · rintro ((⟨h, h'⟩ | ⟨h, h'⟩) | ⟨h, h'⟩)
    · exact .inl ⟨h.symm, h'.symm⟩
    · exact .inr (.inl ⟨h.symm, h'.symm⟩)
    · exact .inr (.inr ⟨h.symm, h'.symm⟩)
  · rintro (⟨h, h'⟩ | ⟨h, h'⟩ | ⟨h, h'⟩)
    · exact .inl (.inl ⟨h.symm, h'.symm⟩)
    · exact .inl (.inr ⟨h.symm, h'.symm⟩)
    · exact .inr ⟨h.symm, h'.symm⟩
theorem twiceB_iff (t u : Tri) : twiceB t u = true ↔ ∃ x ∈ keys2 u, x ∈ keys2 t := by
  unfold twiceB
  simp only [Bool.or_eq_true, edgeB_iff]
  constructor
  · rintro ((h | h) | h)
    · exact ⟨_, h, by simp [keys2]⟩
    · exact ⟨_, h, by simp [keys2]⟩
    · exact ⟨_, h, by simp [keys2]⟩
  · rintro ⟨x, hu, ht⟩
    simp only [keys2, List.mem_cons, List.not_mem_nil, or_false] at ht
    rcases ht with rfl | rfl | rfl
    · exact .inl (.inl hu)
    · exact .inl (.inr hu)
    · exact .inr hu
theorem keys2_nodup {m : Nat} {t : Tri} (h : TriOk m t) : (keys2 t).Nodup := by
  obtain ⟨_, _, _, _, _, _, h1, h2, h3⟩ := h
  unfold keys2
  simp only [List.nodup_cons, List.mem_cons, List.not_mem_nil, or_false, Prod.mk.injEq, not_or, not_false_eq_true, List.nodup_nil, and_true]
  refine ⟨⟨fun e => h1 e.1, fun e => h3 e.1.symm⟩, fun e => h2 e.1⟩
theorem hasB_iff (t : Tri) (v : Int) : hasB t v = true ↔ v ∈ verts t := by
  unfold hasB verts
  simp only [Bool.or_eq_true, beq_iff_eq, List.mem_cons, List.not_mem_nil, or_false]
  constructor
  · rintro ((h | h) | h)
    · exact .inl h.symm
    · exact .inr (.inl h.symm)
    · exact .inr (.inr h.symm)
  · rintro (h | h | h)
    · exact .inl (.inl h.symm)
    · exact .inl (.inr h.symm)
    · exact .inr h.symm
theorem verts_nodup {m : Nat} {t : Tri} (h : TriOk m t) : (verts t).Nodup := by
  obtain ⟨_, _, _, _, _, _, h1, h2, h3⟩ := h
  unfold verts
  simp only [List.nodup_cons, List.mem_cons, List.not_mem_nil, or_false, not_or, not_false_eq_true, List.nodup_nil, and_true]
  exact ⟨⟨h1, Ne.symm h3⟩, h2⟩
theorem sort3_eq {t u : Tri} : sort3 t = sort3 u ↔ (verts t).Perm (verts u) := by
  have ht : (sort3L t).Perm (verts t) := List.mergeSort_perm _ _
  have hu : (sort3L u).Perm (verts u) := List.mergeSort_perm _ _
  constructor
  · intro e
    have : sort3L t = sort3L u := by rw [sort3_list, sort3_list, e]
    rw [this] at ht
    exact ht.symm.trans hu
  · intro hp
    have hs : ∀ x : Tri, (sort3L x).Pairwise fun a b => decide (a ≤ b) = true := fun x => List.pairwise_mergeSort (fun a b c h1 h2 => by simp at *; omega) (fun a b => by simp; omega) _
    have : sort3L t = sort3L u := List.Perm.eq_of_pairwise (le := fun a b => decide (a ≤ b) = true) (fun a b _ _ h1 h2 => by simp at *; omega) (hs t) (hs u) (ht.trans (hp.trans hu.symm))
    have h1 := sort3_list t
    have h2 := sort3_list u
    rw [this, h2] at h1
    simp only [List.cons.injEq, and_true] at h1
    exact Prod.ext h1.1.symm (Prod.ext h1.2.1.symm h1.2.2.symm)
theorem mirrB_iff {m : Nat} {t u : Tri} (ht : TriOk m t) (hu : TriOk m u) : mirrB t u = true ↔ ∃ x ∈ keys3 u, x ∈ keys3 t := by
  have h1 : (∃ x ∈ keys3 u, x ∈ keys3 t) ↔ sort3 t = sort3 u := by
    unfold keys3
    simp only [List.mem_singleton]
    exact ⟨fun ⟨x, h, h'⟩ => h'.symm.trans h, fun h => ⟨_, rfl, h.symm⟩⟩
  rw [h1, sort3_eq]
  unfold mirrB
  simp only [Bool.and_eq_true, hasB_iff]
  constructor
  · rintro ⟨⟨h2, h3⟩, h4⟩
    refine (List.perm_ext_iff_of_nodup (verts_nodup ht) (verts_nodup hu)).2 fun x => ⟨fun hx => ?_, fun hx => ?_⟩
    · simp only [verts, List.mem_cons, List.not_mem_nil, or_false] at hx
      rcases hx with rfl | rfl | rfl <;> assumption
    · refine Classical.byContradiction fun hno => ?_
      have := nodup_le (x :: verts t) (verts u) (List.nodup_cons.2 ⟨hno, verts_nodup ht⟩) fun y hy => by
        rcases List.mem_cons.1 hy with rfl | hy
        · exact hx
        · simp only [verts, List.mem_cons, List.not_mem_nil, or_false] at hy
          rcases hy with rfl | rfl | rfl <;> assumption
      simp [verts] at this
  · intro hp
    have hx : ∀ x ∈ verts t, x ∈ verts u := fun x hx => hp.mem_iff.1 hx
    exact ⟨⟨hx _ (by simp [verts]), hx _ (by simp [verts])⟩, hx _ (by simp [verts])⟩
end Go.Proofs.Ytdmibpcpocacpaa
