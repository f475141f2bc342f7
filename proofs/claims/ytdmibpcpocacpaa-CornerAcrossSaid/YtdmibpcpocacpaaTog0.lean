/- Whether triangles at a vertex are connected: the plain model of the search. No program in sight. -/
import Derived.Test.YtdmibpcpocacpaaPairs0
namespace Go.Proofs.Ytdmibpcpocacpaa

def tri (T : List Tri) (i : Nat) : Tri := T.getD i ⟨0, 0, 0⟩
theorem tri_of {T : List Tri} {i : Nat} {t : Tri} (h : T[i]? = some t) : tri T i = t := by unfold tri; rw [List.getD_eq_getElem?_getD, h]; rfl
def verts (t : Tri) : List Int := [t.a, t.b, t.c]
/-- Two triangles with a vertex but v in common. -/
def Nbr (T : List Tri) (v : Int) (i k : Nat) : Prop := ∃ w, w ≠ v ∧ w ∈ verts (tri T i) ∧ w ∈ verts (tri T k)
/-- Reached by steps of a relation. -/
def Reach (R : Nat → Nat → Prop) (a b : Nat) : Prop := ∀ S : Nat → Prop, S a → (∀ x y, S x → R x y → S y) → S b
theorem Reach.refl (R : Nat → Nat → Prop) (a : Nat) : Reach R a a := fun _ h _ => h
theorem Reach.step {R : Nat → Nat → Prop} {a b c : Nat} (h : Reach R a b) (hr : R b c) : Reach R a c := fun S ha hs => hs b c (h S ha hs) hr
/-- Are all of some triangles connected at v with the first one? -/
def Conn (T : List Tri) (v : Int) (S : List Nat) : Prop := ∀ k ∈ S, Reach (fun a b => a ∈ S ∧ b ∈ S ∧ Nbr T v a b) (S.headD 0) k
open Classical in
noncomputable def connB (T : List Tri) (v : Int) (S : List Nat) : Bool := decide (Conn T v S)
open Classical in
theorem connB_iff (T : List Tri) (v : Int) (S : List Nat) : connB T v S = true ↔ Conn T v S := by unfold connB; rw [decide_eq_true_eq]

/-! ### Which triangles have a vertex -/
def addE (v : Int) (i : Nat) (E : Int → List Nat) (x : Int) : Int → List Nat := if x = v then E else fun y => if y = x then E x ++ [i] else E y
def triE (T : List Tri) (v : Int) (E : Int → List Nat) (i : Nat) : Int → List Nat := (verts (tri T i)).foldl (addE v i) E
def endsF (T : List Tri) (v : Int) (S : List Nat) : Int → List Nat := S.foldl (triE T v) fun _ => []
theorem addE_mem (v : Int) (i : Nat) (E : Int → List Nat) (x y : Int) (k : Nat) : k ∈ addE v i E x y ↔ k ∈ E y ∨ (y = x ∧ x ≠ v ∧ k = i) := by
  unfold addE
  by_cases hx : x = v
  · rw [if_pos hx]; simp [hx]
  · rw [if_neg hx]
    by_cases hy : y = x
    · subst hy; simp [hx]
    · simp [hy]
theorem foldE_mem (v : Int) (i : Nat) (y : Int) (k : Nat) : ∀ (l : List Int) (E : Int → List Nat), k ∈ l.foldl (addE v i) E y ↔ k ∈ E y ∨ (y ∈ l ∧ y ≠ v ∧ k = i)
  | [], E => by simp
  | x :: l, E => by
    rw [List.foldl_cons, foldE_mem v i y k l, addE_mem]
    simp only [List.mem_cons]
    constructor
    · rintro ((h | ⟨rfl, h2, h3⟩) | ⟨h1, h2, h3⟩)
      · exact .inl h
      · exact .inr ⟨.inl rfl, h2, h3⟩
      · exact .inr ⟨.inr h1, h2, h3⟩
    · rintro (h | ⟨rfl | h1, h2, h3⟩)
      · exact .inl (.inl h)
      · exact .inl (.inr ⟨rfl, h2, h3⟩)
      · exact .inr ⟨h1, h2, h3⟩
theorem foldT_mem (T : List Tri) (v : Int) (y : Int) (k : Nat) : ∀ (S : List Nat) (E : Int → List Nat), k ∈ S.foldl (triE T v) E y ↔ k ∈ E y ∨ (k ∈ S ∧ y ≠ v ∧ y ∈ verts (tri T k))
  | [], E => by simp
  | i :: S, E => by
    rw [List.foldl_cons, foldT_mem T v y k S]
    unfold triE
    rw [foldE_mem]
    simp only [List.mem_cons]
    constructor
    · rintro ((h | ⟨h1, h2, rfl⟩) | ⟨h1, h2, h3⟩)
      · exact .inl h
      · exact .inr ⟨.inl rfl, h2, h1⟩
      · exact .inr ⟨.inr h1, h2, h3⟩
    · rintro (h | ⟨rfl | h1, h2, h3⟩)
      · exact .inl (.inl h)
      · exact .inl (.inr ⟨h3, h2, rfl⟩)
      · exact .inr ⟨h1, h2, h3⟩
theorem endsF_mem (T : List Tri) (v : Int) (S : List Nat) (y : Int) (k : Nat) : k ∈ endsF T v S y ↔ k ∈ S ∧ y ≠ v ∧ y ∈ verts (tri T k) := by
  unfold endsF
  rw [foldT_mem]
  simp
def ShortE (E : Int → List Nat) (m n : Nat) : Prop := ∀ y, (E y).length ≤ m ∧ ∀ k ∈ E y, k < n
theorem addE_short {v : Int} {i m n : Nat} {E : Int → List Nat} (h : ShortE E m n) (hi : i < n) (x : Int) : ShortE (addE v i E x) (m + 1) n := by
  intro y
  unfold addE
  split
  · exact ⟨Nat.le_succ_of_le (h y).1, (h y).2⟩
  · simp only
    split
    · refine ⟨by rw [List.length_append]; have := (h x).1; simp; omega, fun k hk => ?_⟩
      rcases List.mem_append.1 hk with h' | h'
      · exact (h x).2 k h'
      · simp at h'; omega
    · exact ⟨Nat.le_succ_of_le (h y).1, (h y).2⟩
theorem foldE_short {v : Int} {i n : Nat} (hi : i < n) : ∀ (l : List Int) (E : Int → List Nat) (m : Nat), ShortE E m n → ShortE (l.foldl (addE v i) E) (m + l.length) n
  | [], _, _, h => h
  | x :: l, E, m, h => by
    have := foldE_short (v := v) hi l _ _ (addE_short (v := v) h hi x)
    rw [List.length_cons, show m + (l.length + 1) = m + 1 + l.length by omega]
    exact this
theorem foldT_short (T : List Tri) (v : Int) {n : Nat} : ∀ (S : List Nat) (E : Int → List Nat) (m : Nat), (∀ i ∈ S, i < n) → ShortE E m n → ShortE (S.foldl (triE T v) E) (m + 3 * S.length) n
  | [], _, _, _, h => h
  | i :: S, E, m, hS, h => by
    have h1 : ShortE (triE T v E i) (m + 3) n := foldE_short (hS i (by simp)) (verts (tri T i)) E m h
    have := foldT_short T v S _ _ (fun k hk => hS k (by simp [hk])) h1
    rw [List.length_cons, show m + 3 * (S.length + 1) = m + 3 + 3 * S.length by omega]
    exact this

/-! ### The search -/
def visit (s : List Nat × List Nat) (k : Nat) : List Nat × List Nat := if k ∈ s.1 then s else (s.1 ++ [k], s.2 ++ [k])
structure Visited (s s' : List Nat × List Nat) (l : List Nat) : Prop where
  r : ∀ x ∈ s.1, x ∈ s'.1
  q : ∀ x ∈ s.2, x ∈ s'.2
  all : ∀ x ∈ l, x ∈ s'.1
  only : ∀ x ∈ s'.1, x ∈ s.1 ∨ (x ∈ l ∧ x ∈ s'.2)
  nodup : s.1.Nodup → s'.1.Nodup
  sub : (∀ x ∈ s.2, x ∈ s.1) → ∀ x ∈ s'.2, x ∈ s'.1
  len : s'.1.length + s.2.length = s.1.length + s'.2.length
theorem visit_one (s : List Nat × List Nat) (k : Nat) : Visited s (visit s k) [k] := by
  unfold visit
  by_cases hk : k ∈ s.1
  · rw [if_pos hk]
    exact ⟨fun _ h => h, fun _ h => h, fun x hx => by simp at hx; subst hx; exact hk, fun _ h => .inl h, id, id, rfl⟩
  · rw [if_neg hk]
    refine ⟨fun x h => by simp [h], fun x h => by simp [h], fun x hx => by simp at hx; subst hx; simp, fun x hx => ?_, fun h => ?_, fun h x hx => ?_, by simp; omega⟩
    · rcases List.mem_append.1 hx with h | h
      · exact .inl h
      · exact .inr ⟨h, by simp at h ⊢; exact .inr h⟩
    · rw [List.nodup_append]
      exact ⟨h, by simp, fun a ha b hb => by simp at hb; subst hb; rintro rfl; exact hk ha⟩
    · rcases List.mem_append.1 hx with h' | h'
      · exact List.mem_append_left _ (h x h')
      · exact List.mem_append_right _ h'
theorem Visited.trans {s s' s'' : List Nat × List Nat} {l l' : List Nat} (h : Visited s s' l) (h' : Visited s' s'' l') : Visited s s'' (l ++ l') := by
  refine ⟨fun x hx => h'.r x (h.r x hx), fun x hx => h'.q x (h.q x hx), fun x hx => ?_, fun x hx => ?_, fun hn => h'.nodup (h.nodup hn), fun hs => h'.sub (h.sub hs), by have := h.len; have := h'.len; omega⟩
  · rcases List.mem_append.1 hx with e | e
    · exact h'.r x (h.all x e)
    · exact h'.all x e
  · rcases h'.only x hx with e | ⟨e1, e2⟩
    · rcases h.only x e with e' | ⟨e1, e2⟩
      · exact .inl e'
      · exact .inr ⟨by simp [e1], h'.q x e2⟩
    · exact .inr ⟨by simp [e1], e2⟩
theorem visit_all : ∀ (l : List Nat) (s : List Nat × List Nat), Visited s (l.foldl visit s) l
  | [], s => ⟨fun _ h => h, fun _ h => h, (fun x hx => by cases hx), fun _ h => .inl h, id, id, rfl⟩
  | k :: l, s => by
    have := (visit_one s k).trans (visit_all l (visit s k))
    exact this
/-- What is visited from a triangle. -/
def fromV (E : Int → List Nat) (v : Int) (s : List Nat × List Nat) (w : Int) : List Nat × List Nat := if w = v then s else (E w).foldl visit s
theorem fromV_all (E : Int → List Nat) (v : Int) : ∀ (ws : List Int) (s : List Nat × List Nat), Visited s (ws.foldl (fromV E v) s) (ws.flatMap fun w => if w = v then [] else E w)
  | [], s => visit_all [] s
  | w :: ws, s => by
    rw [List.flatMap_cons, List.foldl_cons]
    refine Visited.trans ?_ (fromV_all E v ws (fromV E v s w))
    unfold fromV
    by_cases hw : w = v
    · rw [if_pos hw, if_pos hw]; exact visit_all [] s
    · rw [if_neg hw, if_neg hw]; exact visit_all _ s

structure SInv (T : List Tri) (v : Int) (S : List Nat) (s : List Nat × List Nat) : Prop where
  nodup : s.1.Nodup
  inS : ∀ x ∈ s.1, x ∈ S
  sub : ∀ x ∈ s.2, x ∈ s.1
  first : S.headD 0 ∈ s.1
  closed : ∀ i ∈ s.1, i ∉ s.2 → ∀ k ∈ S, Nbr T v i k → k ∈ s.1
  reach : ∀ i ∈ s.1, Reach (fun a b => a ∈ S ∧ b ∈ S ∧ Nbr T v a b) (S.headD 0) i
theorem sinv_start (T : List Tri) (v : Int) {S : List Nat} (hS : S ≠ []) : SInv T v S ([S.headD 0], [S.headD 0]) := by
  have h0 : S.headD 0 ∈ S := by cases S with
    | nil => exact absurd rfl hS
    | cons a l => simp
  refine ⟨by simp, fun x hx => by rw [List.mem_singleton.1 hx]; exact h0, fun x hx => hx, by simp, fun i hi hn => absurd hi hn, fun i hi => ?_⟩
  rw [List.mem_singleton.1 hi]
  exact Reach.refl _ _
theorem sinv_step {T : List Tri} {v : Int} {S : List Nat} {R Q : List Nat} {i : Nat} (h : SInv T v S (R, i :: Q)) : SInv T v S ((verts (tri T i)).foldl (fromV (endsF T v S) v) (R, Q)) ∧
    2 * (S.length - ((verts (tri T i)).foldl (fromV (endsF T v S) v) (R, Q)).1.length) + ((verts (tri T i)).foldl (fromV (endsF T v S) v) (R, Q)).2.length < 2 * (S.length - R.length) + (i :: Q).length := by
  have hv := fromV_all (endsF T v S) v (verts (tri T i)) (R, Q)
  generalize (verts (tri T i)).foldl (fromV (endsF T v S) v) (R, Q) = s' at *
  have hl : ∀ k, k ∈ ((verts (tri T i)).flatMap fun w => if w = v then [] else endsF T v S w) ↔ k ∈ S ∧ Nbr T v i k := by
    intro k
    rw [List.mem_flatMap]
    constructor
    · rintro ⟨w, hw, hk⟩
      by_cases e : w = v
      · rw [if_pos e] at hk; cases hk
      · rw [if_neg e, endsF_mem] at hk
        exact ⟨hk.1, w, e, hw, hk.2.2⟩
    · rintro ⟨hk, w, e, hw, hw2⟩
      exact ⟨w, hw, by rw [if_neg e, endsF_mem]; exact ⟨hk, e, hw2⟩⟩
  have hiR : i ∈ R := h.sub i (by simp)
  have hin : ∀ x ∈ s'.1, x ∈ S := fun x hx => by
    rcases hv.only x hx with e | ⟨e, _⟩
    · exact h.inS x e
    · exact ((hl x).1 e).1
  have hnd := hv.nodup h.nodup
  refine ⟨⟨hnd, hin, hv.sub fun x hx => h.sub x (by simp [hx]), hv.r _ h.first, fun k hk hn m hm hkm => ?_, fun k hk => ?_⟩, ?_⟩
  · rcases hv.only k hk with e | ⟨_, e⟩
    · by_cases hki : k = i
      · subst hki
        exact hv.all m ((hl m).2 ⟨hm, hkm⟩)
      · refine hv.r m (h.closed k e ?_ m hm hkm)
        simp only [List.mem_cons, not_or]
        exact ⟨hki, fun hq => hn (hv.q k hq)⟩
    · exact absurd e hn
  · rcases hv.only k hk with e | ⟨e, _⟩
    · exact h.reach k e
    · exact (h.reach i hiR).step ⟨h.inS i hiR, ((hl k).1 e).1, ((hl k).1 e).2⟩
  · have h1 := nodup_le _ _ hnd hin
    have h2 := hv.len
    have h3 : R.length ≤ s'.1.length := nodup_le _ _ h.nodup fun x hx => hv.r x hx
    simp only [List.length_cons] at h2 ⊢
    omega
theorem sinv_end {T : List Tri} {v : Int} {S : List Nat} (hn : S.Nodup) {R : List Nat} (h : SInv T v S (R, [])) : (R.length = S.length ↔ Conn T v S) ∧ R.length ≤ S.length := by
  have hle := nodup_le R S h.nodup h.inS
  refine ⟨⟨fun he k hk => ?_, fun hc => ?_⟩, hle⟩
  · have hR : k ∈ R := by
      refine Classical.byContradiction fun hno => ?_
      have := nodup_le (k :: R) S (List.nodup_cons.2 ⟨hno, h.nodup⟩) fun x hx => by
        rcases List.mem_cons.1 hx with rfl | hx
        · exact hk
        · exact h.inS x hx
      simp at this
      omega
    exact h.reach k hR
  · have hsub : ∀ k ∈ S, k ∈ R := fun k hk => hc k hk (fun x => x ∈ R) h.first fun x y hx hr => h.closed x hx (by simp) y hr.2.1 hr.2.2
    have := nodup_le S R hn hsub
    omega
end Go.Proofs.Ytdmibpcpocacpaa
