/- Plain facts on what certify tells: triangles that look alike tell alike; twins are told. -/
import Derived.Test.YtdpgbccgngdapaaCert2
import Derived.Test.YtdpgbccgngdapaaSoup8
namespace Go.Proofs.Ytdpgbccgngdapaa
open Go.RowKit

theorem foldB_congr {sh sh' : Nat → Nat → Bool} {m : Nat} (h : ∀ i k, i < m → k < m → sh i k = sh' i k) : ∀ (l : List (Nat × Nat)) (p : Nat → Bool), (∀ x ∈ l, x.1 < m ∧ x.2 < m) → l.foldl (stepB sh) p = l.foldl (stepB sh') p
  | [], p, _ => rfl
  | x :: l, p, hl => by
    have hx := hl x (List.mem_cons_self ..)
    rw [List.foldl_cons, List.foldl_cons, foldB_congr h l _ fun y hy => hl y (List.mem_cons_of_mem _ hy)]
    congr 1
    unfold stepB
    rw [h x.1 x.2 hx.1 hx.2]
theorem passesB_congr {sh sh' : Nat → Nat → Bool} {m : Nat} (h : ∀ i k, i < m → k < m → sh i k = sh' i k) : ∀ c, passesB sh m c = passesB sh' m c
  | 0 => rfl
  | c + 1 => by
    unfold passesB passB
    rw [passesB_congr h c]
    exact foldB_congr h _ _ fun x hx => pairsB_mem.1 hx
theorem tri_mem {T : List Tri} {i : Nat} (h : i < T.length) : tri T i ∈ T := List.mem_of_getElem? (tri_at h)
theorem tri_idx {T : List Tri} {t : Tri} (h : t ∈ T) : ∃ i, i < T.length ∧ tri T i = t := by
  obtain ⟨i, hi, e⟩ := List.getElem_of_mem h
  exact ⟨i, hi, by rw [tri_of (List.getElem?_eq_getElem hi), e]⟩
theorem tri_left {T : List Tri} (U : List Tri) {i : Nat} (h : i < T.length) : tri (T ++ U) i = tri T i := tri_of (by rw [List.getElem?_append_left h]; exact tri_at h)
theorem tri_right (T : List Tri) {U : List Tri} {i : Nat} (h : i < U.length) : tri (T ++ U) (T.length + i) = tri U i := tri_of (by rw [List.getElem?_append_right (by omega), show T.length + i - T.length = i by omega]; exact tri_at h)
theorem verts_mem {t : Tri} {v : Int} : v ∈ verts t ↔ v = t.a ∨ v = t.b ∨ v = t.c := by simp [verts]

theorem indexB_tri {N : Int} {T : List Tri} {i : Nat} (h : i < T.length) : indexB N T i = true ↔ ∃ v ∈ verts (tri T i), badV N v = true := by
  unfold indexB
  rw [tri_at h]
  simp only [Bool.or_eq_true]
  constructor
  · rintro ((h | h) | h)
    · exact ⟨_, by simp [verts], h⟩
    · exact ⟨_, by simp [verts], h⟩
    · exact ⟨_, by simp [verts], h⟩
  · rintro ⟨v, hv, h⟩
    rcases verts_mem.1 hv with rfl | rfl | rfl
    · exact .inl (.inl h)
    · exact .inl (.inr h)
    · exact .inr h
/-- Has a triangle a vertex twice? -/
def loopT (t : Tri) : Bool := t.a == t.b || t.b == t.c || t.c == t.a
theorem loopB_tri {T : List Tri} {i : Nat} (h : i < T.length) : loopB T i = loopT (tri T i) := by
  unfold loopB loopT
  rw [tri_at h]
theorem hasV_iff {t : Tri} {v : Nat} : hasV t v = true ↔ (v : Int) ∈ verts t := by
  unfold hasV
  rw [verts_mem]
  simp only [Bool.or_eq_true, beq_iff_eq]
  constructor
  · rintro ((h | h) | h)
    · exact .inl h.symm
    · exact .inr (.inl h.symm)
    · exact .inr (.inr h.symm)
  · rintro (h | h | h)
    · exact .inl (.inl h.symm)
    · exact .inl (.inr h.symm)
    · exact .inr h.symm
theorem used_iff {T : List Tri} {v : Nat} : usedTo T T.length v = true ↔ ∃ i, i < T.length ∧ (v : Int) ∈ verts (tri T i) := by
  unfold usedTo
  rw [List.take_length, List.any_eq_true]
  constructor
  · rintro ⟨t, ht, h⟩
    obtain ⟨i, hi, rfl⟩ := tri_idx ht
    exact ⟨i, hi, hasV_iff.1 h⟩
  · rintro ⟨i, hi, h⟩
    exact ⟨_, tri_mem hi, hasV_iff.2 h⟩
theorem picks_congr {kind : Int} {p q : Nat → Bool} {k : Nat} (h : ∀ i, i < k → p i = q i) : picks kind p k = picks kind q k := by
  unfold picks
  rw [List.filter_congr fun i hi => h i (List.mem_range.1 hi)]
theorem refD_congr {test : Tri → Tri → Bool} {T U : List Tri} {n : Nat} (h : ∀ a b, a < b → b < n → test (tri T a) (tri T b) = test (tri U a) (tri U b)) : refD test T n = refD test U n := by
  unfold refD
  simp only [List.flatMap]
  congr 1
  refine List.map_congr_left fun b hb => ?_
  congr 1
  refine List.filter_congr fun a ha => ?_
  exact h a b (List.mem_range.1 ha) (List.mem_range.1 hb)
theorem refD_no {test : Tri → Tri → Bool} {T : List Tri} {n : Nat} (h : refD test T n = []) {a b : Nat} (hab : a < b) (hb : b < n) : test (tri T a) (tri T b) = false := by
  cases ht : test (tri T a) (tri T b) with
  | false => rfl
  | true =>
    have := (refD_mem test T n ((a : Int), (b : Int))).2 ⟨a, b, rfl, hab, hb, ht⟩
    rw [h] at this
    cases this
theorem refD_none {test : Tri → Tri → Bool} {T : List Tri} {n : Nat} (h : ∀ a b, a < b → b < n → test (tri T a) (tri T b) = false) : refD test T n = [] := by
  cases hr : refD test T n with
  | nil => rfl
  | cons x l =>
    obtain ⟨a, b, _, hab, hb, ht⟩ := (refD_mem test T n x).1 (by rw [hr]; simp)
    rw [h a b hab hb] at ht
    cases ht
theorem hasB_congr {t u : Tri} (h : ∀ v, v ∈ verts u ↔ v ∈ verts t) (v : Int) : hasB u v = hasB t v := by
  rw [Bool.eq_iff_iff, hasB_iff, hasB_iff]
  exact h v
theorem mirrB_iff' {t u : Tri} : mirrB t u = true ↔ ∀ v ∈ verts t, v ∈ verts u := by
  unfold mirrB
  simp only [Bool.and_eq_true, hasB_iff]
  constructor
  · rintro ⟨⟨h1, h2⟩, h3⟩ v hv
    rcases verts_mem.1 hv with rfl | rfl | rfl <;> assumption
  · intro h
    exact ⟨⟨h _ (by simp [verts]), h _ (by simp [verts])⟩, h _ (by simp [verts])⟩

/-! ### Alike -/
structure Alike (T U : List Tri) : Prop where
  len : U.length = T.length
  verts : ∀ i, i < T.length → ∀ v, v ∈ Go.Proofs.Ytdpgbccgngdapaa.verts (tri U i) ↔ v ∈ Go.Proofs.Ytdpgbccgngdapaa.verts (tri T i)
  loop : ∀ i, i < T.length → loopT (tri U i) = loopT (tri T i)
  twice : ∀ a b, a < T.length → b < T.length → twiceB (tri U a) (tri U b) = twiceB (tri T a) (tri T b)
theorem pinched_congr {T U : List Tri} {v : Nat} (hl : U.length = T.length) (h : ∀ i, i < T.length → ∀ v, v ∈ verts (tri U i) ↔ v ∈ verts (tri T i)) : pinchedB U U.length v = pinchedB T T.length v := by
  have ha : atL U U.length (v : Int) = atL T T.length (v : Int) := by
    unfold atL
    rw [hl]
    exact List.filter_congr fun i hi => decide_eq_decide.2 (h i (List.mem_range.1 hi) v)
  unfold pinchedB
  rw [ha]
  congr 1
  unfold pinchB
  congr 2
  refine passesB_congr (fun i k hi hk => ?_) _
  have hm : ∀ u, u < (atL T T.length (v : Int)).length → (atL T T.length (v : Int)).getD u 0 < T.length := fun u hu => by
    rw [List.getD_eq_getElem?_getD, List.getElem?_eq_getElem hu]
    exact atL_lt _ (List.getElem_mem hu)
  rw [Bool.eq_iff_iff, shareB_iff, shareB_iff]
  unfold Nbr
  constructor
  · rintro ⟨w, h1, h2, h3⟩
    exact ⟨w, h1, (h _ (hm _ hi) _).1 h2, (h _ (hm _ hk) _).1 h3⟩
  · rintro ⟨w, h1, h2, h3⟩
    exact ⟨w, h1, (h _ (hm _ hi) _).2 h2, (h _ (hm _ hk) _).2 h3⟩
theorem alike_all {T U : List Tri} (h : Alike T U) (N : Int) : refAll N U = refAll N T := by
  have e1 : indexL N U.length U = indexL N T.length T := by
    unfold indexL
    rw [h.len]
    split
    · rfl
    · refine picks_congr fun i hi => ?_
      rw [Bool.eq_iff_iff, indexB_tri (by rw [h.len]; exact hi), indexB_tri hi]
      constructor
      · rintro ⟨v, h1, h2⟩
        exact ⟨v, (h.verts i hi v).1 h1, h2⟩
      · rintro ⟨v, h1, h2⟩
        exact ⟨v, (h.verts i hi v).2 h1, h2⟩
  have e2 : picks 2 (loopB U) U.length = picks 2 (loopB T) T.length := by
    rw [h.len]
    refine picks_congr fun i hi => ?_
    rw [loopB_tri (by rw [h.len]; exact hi), loopB_tri hi]
    exact h.loop i hi
  have e3 : refW 3 twiceB U U.length = refW 3 twiceB T T.length := by
    unfold refW
    rw [h.len]
    congr 1
    exact refD_congr fun a b hab hb => h.twice a b (by omega) hb
  have e4 : refW 4 mirrB U U.length = refW 4 mirrB T T.length := by
    unfold refW
    rw [h.len]
    congr 1
    refine refD_congr fun a b hab hb => ?_
    rw [Bool.eq_iff_iff, mirrB_iff', mirrB_iff']
    constructor
    · intro h' v hv
      exact (h.verts b hb v).1 (h' v ((h.verts a (by omega) v).2 hv))
    · intro h' v hv
      exact (h.verts b hb v).2 (h' v ((h.verts a (by omega) v).1 hv))
  have e5 : picks 5 (fun v => !usedTo U U.length v) N.toNat = picks 5 (fun v => !usedTo T T.length v) N.toNat := by
    refine picks_congr fun v _ => ?_
    congr 1
    rw [Bool.eq_iff_iff, used_iff, used_iff, h.len]
    constructor
    · rintro ⟨i, hi, hv⟩
      exact ⟨i, hi, (h.verts i hi _).1 hv⟩
    · rintro ⟨i, hi, hv⟩
      exact ⟨i, hi, (h.verts i hi _).2 hv⟩
  have e6 : picks 6 (fun v => pinchedB U U.length v) N.toNat = picks 6 (fun v => pinchedB T T.length v) N.toNat :=
    picks_congr fun v _ => pinched_congr h.len h.verts
  unfold refAll
  rw [e1, e2, e3, e4, e5, e6]
/-- A triangle the other way round. -/
def mir (t : Tri) : Tri := ⟨t.a, t.c, t.b⟩
/-- A triangle that begins with another vertex. -/
def rotT (k : Nat) (t : Tri) : Tri := if k = 0 then t else if k = 1 then ⟨t.b, t.c, t.a⟩ else ⟨t.c, t.a, t.b⟩
theorem mir_verts (t : Tri) (v : Int) : v ∈ verts (mir t) ↔ v ∈ verts t := by
  rw [verts_mem, verts_mem]
  simp only [mir]
  constructor
  · rintro (h | h | h)
    · exact .inl h
    · exact .inr (.inr h)
    · exact .inr (.inl h)
  · rintro (h | h | h)
    · exact .inl h
    · exact .inr (.inr h)
    · exact .inr (.inl h)
theorem rot_verts (k : Nat) (t : Tri) (v : Int) : v ∈ verts (rotT k t) ↔ v ∈ verts t := by
  unfold rotT
  split
  · rfl
  · split
    · rw [verts_mem, verts_mem]
      constructor
      · rintro (h | h | h)
        · exact .inr (.inl h)
        · exact .inr (.inr h)
        · exact .inl h
      · rintro (h | h | h)
        · exact .inr (.inr h)
        · exact .inl h
        · exact .inr (.inl h)
    · rw [verts_mem, verts_mem]
      constructor
      · rintro (h | h | h)
        · exact .inr (.inr h)
        · exact .inl h
        · exact .inr (.inl h)
      · rintro (h | h | h)
        · exact .inr (.inl h)
        · exact .inr (.inr h)
        · exact .inl h
theorem keys2_mem {t : Tri} {x : K3} : x ∈ keys2 t ↔ x = (t.a, t.b, 0) ∨ x = (t.b, t.c, 0) ∨ x = (t.c, t.a, 0) := by simp [keys2]
theorem rot_keys (k : Nat) (t : Tri) (x : K3) : x ∈ keys2 (rotT k t) ↔ x ∈ keys2 t := by
  unfold rotT
  split
  · rfl
  · split
    · rw [keys2_mem, keys2_mem]
      constructor
      · rintro (h | h | h)
        · exact .inr (.inl h)
        · exact .inr (.inr h)
        · exact .inl h
      · rintro (h | h | h)
        · exact .inr (.inr h)
        · exact .inl h
        · exact .inr (.inl h)
    · rw [keys2_mem, keys2_mem]
      constructor
      · rintro (h | h | h)
        · exact .inr (.inr h)
        · exact .inl h
        · exact .inr (.inl h)
      · rintro (h | h | h)
        · exact .inr (.inl h)
        · exact .inr (.inr h)
        · exact .inl h
theorem mir_edge (t : Tri) (a b : Int) : edgeB (mir t) a b = edgeB t b a := by
  unfold edgeB mir
  rw [Bool.eq_iff_iff]
  simp only [Bool.or_eq_true, Bool.and_eq_true, beq_iff_eq]
  constructor
  · rintro ((⟨h, h'⟩ | ⟨h, h'⟩) | ⟨h, h'⟩)
    · exact .inr ⟨h', h⟩
    · exact .inl (.inr ⟨h', h⟩)
    · exact .inl (.inl ⟨h', h⟩)
  · rintro ((⟨h, h'⟩ | ⟨h, h'⟩) | ⟨h, h'⟩)
    · exact .inr ⟨h', h⟩
    · exact .inl (.inr ⟨h', h⟩)
    · exact .inl (.inl ⟨h', h⟩)
theorem twice_edges (t u : Tri) : twiceB t u = true ↔ ∃ a b, edgeB t a b = true ∧ edgeB u a b = true := by
  rw [twiceB_iff]
  constructor
  · rintro ⟨⟨a, b, c⟩, h1, h2⟩
    have : c = 0 := by
      rcases keys2_mem.1 h1 with h | h | h <;> (simp only [Prod.mk.injEq] at h; exact h.2.2)
    subst this
    exact ⟨a, b, (edgeB_iff _ _ _).2 h2, (edgeB_iff _ _ _).2 h1⟩
  · rintro ⟨a, b, h1, h2⟩
    exact ⟨_, (edgeB_iff _ _ _).1 h2, (edgeB_iff _ _ _).1 h1⟩
theorem rot_edge (k : Nat) (t : Tri) (a b : Int) : edgeB (rotT k t) a b = edgeB t a b := by
  rw [Bool.eq_iff_iff, edgeB_iff, edgeB_iff, rot_keys]
theorem mir_twice (t u : Tri) : twiceB (mir t) (mir u) = twiceB t u := by
  rw [Bool.eq_iff_iff, twice_edges, twice_edges]
  constructor
  · rintro ⟨a, b, h1, h2⟩
    rw [mir_edge] at h1 h2
    exact ⟨b, a, h1, h2⟩
  · rintro ⟨a, b, h1, h2⟩
    exact ⟨b, a, by rw [mir_edge]; exact h1, by rw [mir_edge]; exact h2⟩
theorem rot_twice (j k : Nat) (t u : Tri) : twiceB (rotT j t) (rotT k u) = twiceB t u := by
  rw [Bool.eq_iff_iff, twice_edges, twice_edges]
  simp only [rot_edge]
theorem rot_loop (k : Nat) (t : Tri) : loopT (rotT k t) = loopT t := by
  unfold rotT
  split
  · rfl
  · split <;> (unfold loopT; simp only; rw [Bool.eq_iff_iff]; simp only [Bool.or_eq_true, beq_iff_eq]; omega)
theorem mir_loop (t : Tri) : loopT (mir t) = loopT t := by
  unfold mir loopT
  simp only
  rw [Bool.eq_iff_iff]
  simp only [Bool.or_eq_true, beq_iff_eq]
  omega
theorem rots_alike {T U : List Tri} (hl : U.length = T.length) (k : Nat → Nat) (h : ∀ i, i < T.length → tri U i = rotT (k i) (tri T i)) : Alike T U :=
  ⟨hl, fun i hi v => by rw [h i hi]; exact rot_verts _ _ v, fun i hi => by rw [h i hi]; exact rot_loop _ _, fun a b ha hb => by rw [h a ha, h b hb]; exact rot_twice _ _ _ _⟩
theorem mirs_alike {T U : List Tri} (hl : U.length = T.length) (h : ∀ i, i < T.length → tri U i = mir (tri T i)) : Alike T U :=
  ⟨hl, fun i hi v => by rw [h i hi]; exact mir_verts _ v, fun i hi => by rw [h i hi]; exact mir_loop _, fun a b ha hb => by rw [h a ha, h b hb]; exact mir_twice _ _⟩

/-! ### Twins -/
theorem ok_first {m : Nat} {T : List Tri} (h1 : m ≤ 4096) (h2 : T.length ≤ 8192) (hok : ∀ t ∈ T, TriOk m t) :
    refAll (m : Int) T = firstL [refW 3 twiceB T T.length, refW 4 mirrB T T.length, picks 5 (fun v => !usedTo T T.length v) m, picks 6 (fun v => pinchedB T T.length v) m] := by
  unfold refAll
  rw [firstL_no, firstL_no, Int.toNat_natCast]
  · refine picks_nil_of fun i hi => ?_
    unfold loopB
    rw [List.getElem?_eq_getElem hi]
    obtain ⟨_, _, _, _, _, _, q1, q2, q3⟩ := hok _ (List.getElem_mem hi)
    simp [q1, q2, q3]
  · unfold indexL
    rw [if_neg]
    · refine picks_nil_of fun i hi => ?_
      unfold indexB
      rw [List.getElem?_eq_getElem hi]
      obtain ⟨a0, a1, b0, b1, c0, c1, _, _, _⟩ := hok _ (List.getElem_mem hi)
      unfold badV
      simp only [Bool.or_eq_false_iff, decide_eq_false_iff_not]
      refine ⟨⟨⟨?_, ?_⟩, ?_, ?_⟩, ?_, ?_⟩ <;> omega
    · unfold sizeB
      simp only [Bool.or_eq_true, decide_eq_true_eq]
      omega
theorem refD_snoc (test : Tri → Tri → Bool) (T : List Tri) (t : Tri) : refD test (T ++ [t]) (T.length + 1) = refD test T T.length ++ ((List.range T.length).filter fun a => test (tri T a) t).map fun a : Nat => ((a : Int), (T.length : Int)) := by
  have e : refD test (T ++ [t]) T.length = refD test T T.length := refD_congr fun a b hab hb => by rw [tri_left _ (by omega), tri_left _ hb]
  have et : tri (T ++ [t]) T.length = t := tri_right T (U := [t]) (i := 0) (by simp)
  rw [← e]
  unfold refD
  rw [List.range_succ, List.flatMap_append]
  congr 1
  rw [List.flatMap_cons, List.flatMap_nil, List.append_nil, et]
  congr 1
  refine List.filter_congr fun a ha => ?_
  rw [tri_left _ (List.mem_range.1 ha)]
theorem filter_head {p : Nat → Bool} {k : Nat} (hp : p k = true) (h : ∀ a, a < k → p a = false) : ∀ n, k < n → ∃ l, (List.range n).filter p = k :: l
  | 0, hk => by omega
  | n + 1, hk => by
    rw [List.range_succ, List.filter_append]
    rcases (by omega : k < n ∨ k = n) with h' | rfl
    · obtain ⟨l, hl⟩ := filter_head hp h n h'
      exact ⟨_, by rw [hl]; rfl⟩
    · have : (List.range k).filter p = [] := List.filter_eq_nil_iff.2 fun a ha => by rw [h a (List.mem_range.1 ha)]; decide
      exact ⟨[], by rw [this]; simp [hp]⟩
theorem mir_ok {m : Nat} {t : Tri} (h : TriOk m t) : TriOk m (mir t) := by
  obtain ⟨a0, a1, b0, b1, c0, c1, q1, q2, q3⟩ := h
  exact ⟨a0, a1, c0, c1, b0, b1, fun e => q3 e.symm, fun e => q2 e.symm, fun e => q1 e.symm⟩
theorem twice_self (t : Tri) : twiceB t t = true := (twice_edges t t).2 ⟨t.a, t.b, by simp [edgeB], by simp [edgeB]⟩
theorem snoc_ok {m : Nat} {T : List Tri} {t : Tri} (h : ∀ t ∈ T, TriOk m t) (ht : TriOk m t) : ∀ u ∈ T ++ [t], TriOk m u := fun u hu => by
  rcases List.mem_append.1 hu with hu | hu
  · exact h u hu
  · rw [List.mem_singleton.1 hu]; exact ht
theorem twins_law {N : Int} {T : List Tri} {m k : Nat} (h : Surf N T m) (hk : k < T.length) (hl : T.length < 8192) : checkR N (T ++ [tri T k]) = (3, (k : Int), (T.length : Int)) := by
  obtain ⟨rfl, h1, h2, hok, h3, h4, h5, h6⟩ := h
  have hlen : (T ++ [tri T k]).length = T.length + 1 := by simp
  obtain ⟨l, hf⟩ := filter_head (p := fun a => twiceB (tri T a) (tri T k)) (k := k) (twice_self _) (fun a ha => refD_no h3 ha hk) T.length hk
  have hr : refW 3 twiceB (T ++ [tri T k]) (T ++ [tri T k]).length = (3, (k : Int), (T.length : Int)) :: (l.map fun a : Nat => ((a : Int), (T.length : Int))).map (wit 3) := by
    unfold refW
    rw [hlen, refD_snoc, h3, List.nil_append, hf]
    rfl
  unfold checkR
  rw [ok_first h1 (by rw [hlen]; omega) (snoc_ok hok (hok _ (tri_mem hk))), hr]
  rfl
theorem twin_mir {N : Int} {T : List Tri} {m k : Nat} (h : Surf N T m) (hk : k < T.length) (hl : T.length < 8192) : (checkR N (T ++ [mir (tri T k)])).1 = 3 ∨ (checkR N (T ++ [mir (tri T k)])).1 = 4 := by
  obtain ⟨rfl, h1, h2, hok, h3, h4, h5, h6⟩ := h
  have hlen : (T ++ [mir (tri T k)]).length = T.length + 1 := by simp
  have hx : refW 4 mirrB (T ++ [mir (tri T k)]) (T ++ [mir (tri T k)]).length ≠ [] := by
    unfold refW
    intro e
    have e := List.map_eq_nil_iff.1 e
    have := refD_no e (a := k) (b := T.length) hk (by omega)
    rw [tri_left _ hk, show tri (T ++ [mir (tri T k)]) T.length = mir (tri T k) from tri_right T (U := [mir (tri T k)]) (i := 0) (by simp), (mirrB_iff' (t := tri T k)).2 fun v hv => (mir_verts _ v).2 hv] at this
    cases this
  unfold checkR
  rw [ok_first h1 (by rw [hlen]; omega) (snoc_ok hok (mir_ok (hok _ (tri_mem hk))))]
  by_cases h3' : refW 3 twiceB (T ++ [mir (tri T k)]) (T ++ [mir (tri T k)]).length = []
  · right
    rw [firstL_no h3', firstL_yes hx]
    cases hr : refW 4 mirrB (T ++ [mir (tri T k)]) (T ++ [mir (tri T k)]).length with
    | nil => exact absurd hr hx
    | cons x l => exact refW_kind (by rw [hr]; exact List.mem_cons_self ..)
  · left
    rw [firstL_yes h3']
    cases hr : refW 3 twiceB (T ++ [mir (tri T k)]) (T ++ [mir (tri T k)]).length with
    | nil => exact absurd hr h3'
    | cons x l => exact refW_kind (by rw [hr]; exact List.mem_cons_self ..)
end Go.Proofs.Ytdpgbccgngdapaa
