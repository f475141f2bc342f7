/- Connectedness, pass by pass, as the document defines it: the plain law. -/
import Derived.Test.YtdmibpcpocacpaaSpec
namespace Go.Proofs.Ytdmibpcpocacpaa

theorem nodup_inj {α : Type} {l : List α} (h : l.Nodup) {i j : Nat} (hi : i < l.length) (hj : j < l.length) (e : l[i] = l[j]) : i = j := by
  have hp := List.pairwise_iff_getElem.1 h
  rcases Nat.lt_trichotomy i j with h' | h' | h'
  · exact absurd e (hp i j hi hj h')
  · exact h'
  · exact absurd e.symm (hp j i hj hi h')
/-- Have two triangles a vertex but v in common? -/
def shareB (T : List Tri) (v : Int) (i k : Nat) : Bool := (verts (tri T i)).any fun w => w != v && hasB (tri T k) w
theorem shareB_iff (T : List Tri) (v : Int) (i k : Nat) : shareB T v i k = true ↔ Nbr T v i k := by
  unfold shareB Nbr
  rw [List.any_eq_true]
  simp only [Bool.and_eq_true, bne_iff_ne, hasB_iff]
  exact ⟨fun ⟨w, h1, h2, h3⟩ => ⟨w, h2, h1, h3⟩, fun ⟨w, h2, h1, h3⟩ => ⟨w, h1, h2, h3⟩⟩
/-- One pair is looked at. -/
def stepB (sh : Nat → Nat → Bool) (p : Nat → Bool) (x : Nat × Nat) : Nat → Bool := if p x.1 && !p x.2 && sh x.1 x.2 then fun u => p u || u == x.2 else p
def pairsB (L : Nat) : List (Nat × Nat) := (List.range L).flatMap fun i => (List.range L).map fun k => (i, k)
def passB (sh : Nat → Nat → Bool) (L : Nat) (p : Nat → Bool) : Nat → Bool := (pairsB L).foldl (stepB sh) p
def passesB (sh : Nat → Nat → Bool) (L : Nat) : Nat → Nat → Bool
  | 0 => fun u => u == 0
  | c + 1 => passB sh L (passesB sh L c)
def countB (L : Nat) (p : Nat → Bool) : Nat := ((List.range L).filter p).length
def ClosedB (sh : Nat → Nat → Bool) (L : Nat) (p : Nat → Bool) : Prop := ∀ i k, i < L → k < L → p i = true → sh i k = true → p k = true
section
variable {sh : Nat → Nat → Bool} {L : Nat}
theorem stepB_mono {p : Nat → Bool} {x : Nat × Nat} {u : Nat} (h : p u = true) : stepB sh p x u = true := by
  unfold stepB
  split
  · simp [h]
  · exact h
theorem foldB_mono : ∀ (l : List (Nat × Nat)) {p : Nat → Bool} {u : Nat}, p u = true → l.foldl (stepB sh) p u = true
  | [], _, _, h => h
  | _ :: l, _, _, h => foldB_mono l (stepB_mono h)
theorem foldB_closed : ∀ (l : List (Nat × Nat)) {p : Nat → Bool}, (∀ x ∈ l, x.1 < L ∧ x.2 < L) → ClosedB sh L p → l.foldl (stepB sh) p = p
  | [], _, _, _ => rfl
  | x :: l, p, hl, hc => by
    have h1 : stepB sh p x = p := by
      unfold stepB
      rw [if_neg]
      simp only [Bool.and_eq_true, Bool.not_eq_true', not_and]
      rintro ⟨h1, h2⟩ h3
      have := hc x.1 x.2 (hl x (by simp)).1 (hl x (by simp)).2 h1 h3
      rw [h2] at this
      cases this
    rw [List.foldl_cons, h1]
    exact foldB_closed l (fun y hy => hl y (by simp [hy])) hc
theorem foldB_hit : ∀ (l : List (Nat × Nat)) {p : Nat → Bool} {i k : Nat}, (i, k) ∈ l → p i = true → sh i k = true → l.foldl (stepB sh) p k = true
  | [], _, _, _, h, _, _ => by cases h
  | x :: l, p, i, k, h, hi, hs => by
    rw [List.foldl_cons]
    rcases List.mem_cons.1 h with rfl | h
    · refine foldB_mono l ?_
      unfold stepB
      cases hk : p k with
      | true => rw [if_neg (by simp)]; exact hk
      | false => rw [if_pos (by simp [hi, hs])]; simp
    · exact foldB_hit l h (stepB_mono hi) hs
theorem pairsB_mem {i k : Nat} : (i, k) ∈ pairsB L ↔ i < L ∧ k < L := by
  unfold pairsB
  simp only [List.mem_flatMap, List.mem_map, List.mem_range, Prod.mk.injEq]
  constructor
  · rintro ⟨a, ha, b, hb, rfl, rfl⟩
    exact ⟨ha, hb⟩
  · rintro ⟨hi, hk⟩
    exact ⟨i, hi, k, hk, rfl, rfl⟩
theorem passB_closed {p : Nat → Bool} (h : ClosedB sh L p) : passB sh L p = p := foldB_closed _ (fun _ hx => pairsB_mem.1 hx) h
theorem countB_le (p : Nat → Bool) : countB L p ≤ L := by
  unfold countB
  exact Nat.le_trans (List.length_filter_le _ _) (by simp)
theorem count_lt {p q : Nat → Bool} {k : Nat} (hm : ∀ u, p u = true → q u = true) (hk : k < L) (h1 : p k = false) (h2 : q k = true) : countB L p < countB L q := by
  unfold countB
  have := nodup_le (k :: (List.range L).filter p) ((List.range L).filter q) (List.nodup_cons.2 ⟨(fun h => by rw [(List.mem_filter.1 h).2] at h1; cases h1), List.Nodup.sublist List.filter_sublist List.nodup_range⟩) fun x hx => by
    rcases List.mem_cons.1 hx with rfl | hx
    · exact List.mem_filter.2 ⟨List.mem_range.2 hk, h2⟩
    · exact List.mem_filter.2 ⟨(List.mem_filter.1 hx).1, hm _ (List.mem_filter.1 hx).2⟩
  simp only [List.length_cons] at this
  omega
theorem passB_grows {p : Nat → Bool} (h : ¬ ClosedB sh L p) : countB L p < countB L (passB sh L p) := by
  have : ∃ i k, i < L ∧ k < L ∧ p i = true ∧ sh i k = true ∧ p k = false := by
    refine Classical.byContradiction fun hno => h fun i k hi hk h1 h2 => ?_
    cases h3 : p k with
    | true => rfl
    | false => exact absurd ⟨i, k, hi, hk, h1, h2, h3⟩ hno
  obtain ⟨i, k, hi, hk, h1, h2, h3⟩ := this
  exact count_lt (fun u hu => foldB_mono _ hu) hk h3 (foldB_hit _ (pairsB_mem.2 ⟨hi, hk⟩) h1 h2)
theorem passesB_spec (hL : 0 < L) : ∀ c, ClosedB sh L (passesB sh L c) ∨ c + 1 ≤ countB L (passesB sh L c)
  | 0 => by
    right
    unfold countB passesB
    have : (0 : Nat) ∈ (List.range L).filter fun u => u == 0 := List.mem_filter.2 ⟨List.mem_range.2 hL, rfl⟩
    exact List.length_pos_of_mem this
  | c + 1 => by
    rcases passesB_spec hL c with h | h
    · left
      show ClosedB sh L (passB sh L (passesB sh L c))
      rw [passB_closed h]
      exact h
    · by_cases hc : ClosedB sh L (passesB sh L c)
      · left
        show ClosedB sh L (passB sh L (passesB sh L c))
        rw [passB_closed hc]
        exact hc
      · right
        have := passB_grows hc
        show c + 1 + 1 ≤ countB L (passB sh L (passesB sh L c))
        omega
theorem passesB_end (hL : 0 < L) : ClosedB sh L (passesB sh L L) := by
  rcases passesB_spec (sh := sh) hL L with h | h
  · exact h
  · have := countB_le (L := L) (passesB sh L L)
    omega
theorem passesB_first : ∀ c, passesB sh L c 0 = true
  | 0 => rfl
  | c + 1 => foldB_mono _ (passesB_first c)
theorem foldB_sound {Q : Nat → Prop} (hQ : ∀ i k, i < L → k < L → Q i → sh i k = true → Q k) : ∀ (l : List (Nat × Nat)) (p : Nat → Bool), (∀ x ∈ l, x.1 < L ∧ x.2 < L) → (∀ u, p u = true → Q u) → ∀ u, l.foldl (stepB sh) p u = true → Q u
  | [], _, _, h => h
  | x :: l, p, hl, h => by
    rw [List.foldl_cons]
    refine foldB_sound hQ l _ (fun y hy => hl y (by simp [hy])) fun u hu => ?_
    unfold stepB at hu
    split at hu
    · rename_i hc
      simp only [Bool.and_eq_true] at hc
      simp only [Bool.or_eq_true, beq_iff_eq] at hu
      rcases hu with hu | rfl
      · exact h u hu
      · exact hQ x.1 x.2 (hl x (by simp)).1 (hl x (by simp)).2 (h _ hc.1.1) hc.2
    · exact h u hu
theorem passesB_sound {Q : Nat → Prop} (h0 : Q 0) (hQ : ∀ i k, i < L → k < L → Q i → sh i k = true → Q k) : ∀ c u, passesB sh L c u = true → Q u
  | 0, u, h => by
    obtain rfl : u = 0 := by simpa [passesB] using h
    exact h0
  | c + 1, u, h => foldB_sound hQ (pairsB L) (passesB sh L c) (fun _ hx => pairsB_mem.1 hx) (passesB_sound h0 hQ c) u h
end
/-- Are the triangles of a vertex more than one ring, or fan? -/
def pinchB (T : List Tri) (v : Int) (S : List Nat) : Bool := !(List.range S.length).all (passesB (fun i k => shareB T v (S.getD i 0) (S.getD k 0)) S.length S.length)
theorem pinchB_conn {T : List Tri} {v : Int} {S : List Nat} (hn : S.Nodup) (h0 : S ≠ []) : pinchB T v S = !connB T v S := by
  have hL : 0 < S.length := List.length_pos_iff.2 h0
  have hmem : ∀ u, u < S.length → S.getD u 0 ∈ S := fun u hu => by
    rw [List.getD_eq_getElem?_getD, List.getElem?_eq_getElem hu]
    exact List.getElem_mem hu
  have hhead : S.headD 0 = S.getD 0 0 := by
    cases S with
    | nil => exact absurd rfl h0
    | cons a l => rfl
  have key : (List.range S.length).all (passesB (fun i k => shareB T v (S.getD i 0) (S.getD k 0)) S.length S.length) = true ↔ Conn T v S := by
    rw [List.all_eq_true]
    constructor
    · intro hall k hk
      obtain ⟨u, hu, rfl⟩ := List.getElem_of_mem hk
      have h1 := hall u (List.mem_range.2 hu)
      have := passesB_sound (sh := fun i k => shareB T v (S.getD i 0) (S.getD k 0)) (L := S.length) (Q := fun u => u < S.length → Reach (fun a b => a ∈ S ∧ b ∈ S ∧ Nbr T v a b) (S.headD 0) (S.getD u 0))
        (fun _ => by rw [hhead]; exact Reach.refl _ _) (fun i k hi hk hq hs _ => (hq hi).step ⟨hmem i hi, hmem k hk, (shareB_iff _ _ _ _).1 hs⟩) S.length u h1 hu
      rw [List.getD_eq_getElem?_getD, List.getElem?_eq_getElem hu] at this
      exact this
    · intro hc u hu
      have hu := List.mem_range.1 hu
      have hcl := passesB_end (sh := fun i k => shareB T v (S.getD i 0) (S.getD k 0)) hL
      obtain ⟨u', hu', e, hf⟩ := hc (S.getD u 0) (hmem u hu) (fun x => ∃ u', u' < S.length ∧ S.getD u' 0 = x ∧ passesB (fun i k => shareB T v (S.getD i 0) (S.getD k 0)) S.length S.length u' = true)
        ⟨0, hL, hhead.symm, passesB_first _⟩ (fun x y ⟨a, ha, ea, hfa⟩ ⟨_, hy, hxy⟩ => by
          obtain ⟨b, hb, rfl⟩ := List.getElem_of_mem hy
          have eb : S.getD b 0 = S[b] := by rw [List.getD_eq_getElem?_getD, List.getElem?_eq_getElem hb]; rfl
          refine ⟨b, hb, eb, hcl a b ha hb hfa ?_⟩
          show shareB T v (S.getD a 0) (S.getD b 0) = true
          rw [shareB_iff, ea, eb]
          exact hxy)
      have : u' = u := by
        rw [List.getD_eq_getElem?_getD, List.getD_eq_getElem?_getD, List.getElem?_eq_getElem hu', List.getElem?_eq_getElem hu] at e
        exact nodup_inj hn hu' hu e
      rw [← this]
      exact hf
  unfold pinchB
  cases hb : connB T v S with
  | true => rw [key.2 ((connB_iff _ _ _).1 hb)]
  | false =>
    cases ha : (List.range S.length).all (passesB (fun i k => shareB T v (S.getD i 0) (S.getD k 0)) S.length S.length) with
    | false => rfl
    | true => rw [(connB_iff _ _ _).2 (key.1 ha)] at hb; cases hb
end Go.Proofs.Ytdmibpcpocacpaa
