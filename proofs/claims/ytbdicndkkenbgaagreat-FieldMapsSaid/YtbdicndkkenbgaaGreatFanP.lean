/- One ring, or fan, by rounds over the triangles of a vertex: plain laws. -/
import Derived.Test.YtbdicndkkenbgaaGreatR15b
import Derived.Test.YtbdicndkkenbgaaGreatPlainB
namespace Go.Proofs.YtbdicndkkenbgaaGreat
open Go.RowKit

set_option linter.unusedSimpArgs false
set_option linter.unusedVariables false
theorem cnt3 (a b : Tri) : cntB a b 3 = (if hasB b a.a then 1 else 0) + (if hasB b a.b then 1 else 0) + (if hasB b a.c then 1 else 0) := by
  simp [cntB, cornerT]
theorem two3 : ∀ p q r : Bool, 2 ≤ (if p = true then 1 else 0) + (if q = true then 1 else 0) + (if r = true then 1 else 0) ↔ ((p = true ∧ q = true) ∨ (p = true ∧ r = true) ∨ (q = true ∧ r = true)) := by decide
theorem bes_iff {m : Nat} {a b : Tri} {v : Int} (ha : TriOk m a) (hva : v ∈ verts a) (hvb : v ∈ verts b) : besB a b = true ↔ ∃ w, w ≠ v ∧ w ∈ verts a ∧ w ∈ verts b := by
  unfold besB
  rw [decide_eq_true_eq, cnt3, two3, hasB_iff, hasB_iff, hasB_iff]
  have h1 := ha.ab
  have h2 := ha.bc
  have h3 := ha.ca
  have k1 : a.a ∈ verts a := by simp [verts]
  have k2 : a.b ∈ verts a := by simp [verts]
  have k3 : a.c ∈ verts a := by simp [verts]
  constructor
  · rintro (⟨p, q⟩ | ⟨p, q⟩ | ⟨p, q⟩)
    · by_cases e : a.a = v
      · exact ⟨a.b, fun e' => h1 (e.trans e'.symm), k2, q⟩
      · exact ⟨a.a, e, k1, p⟩
    · by_cases e : a.a = v
      · exact ⟨a.c, fun e' => h3 (e'.trans e.symm), k3, q⟩
      · exact ⟨a.a, e, k1, p⟩
    · by_cases e : a.b = v
      · exact ⟨a.c, fun e' => h2 (e.trans e'.symm), k3, q⟩
      · exact ⟨a.b, e, k2, p⟩
  · rintro ⟨w, hw, hwa, hwb⟩
    rcases verts_mem.1 hva with rfl | rfl | rfl <;> rcases verts_mem.1 hwa with rfl | rfl | rfl
    · exact absurd rfl hw
    · exact .inl ⟨hvb, hwb⟩
    · exact .inr (.inl ⟨hvb, hwb⟩)
    · exact .inl ⟨hwb, hvb⟩
    · exact absurd rfl hw
    · exact .inr (.inr ⟨hvb, hwb⟩)
    · exact .inr (.inl ⟨hwb, hvb⟩)
    · exact .inr (.inr ⟨hwb, hvb⟩)
    · exact absurd rfl hw
section
variable {T : List Tri} {S : List Nat} {v : Int} {m : Nat}
def trig (T : List Tri) (p : Nat → Bool) (a b : Nat) : Bool := p a && (!p b && besB (tri T a) (tri T b))
def Clo (T : List Tri) (S : List Nat) (p : Nat → Bool) : Prop := ∀ a ∈ S, ∀ b ∈ S, trig T p a b = false
/-- What is reached so far, and how many. -/
structure FanSt (T : List Tri) (S : List Nat) (v : Int) (p : Nat → Bool) (many : Nat) : Prop where
  hd : p (S.headD 0) = true
  mem : ∀ j, p j = true → j ∈ S ∧ Reach (fun a b => a ∈ S ∧ b ∈ S ∧ Nbr T v a b) (S.headD 0) j
  cnt : many = (S.filter p).length
theorem FanSt.start (hS : S ≠ []) (hn : S.Nodup) : FanSt T S v (fun u => false || u == S.headD 0) 1 := by
  have hh : S.headD 0 ∈ S := by
    cases S with
    | nil => exact absurd rfl hS
    | cons a l => simp
  refine ⟨by simp, fun j hj => ?_, ?_⟩
  · simp only [Bool.false_or, beq_iff_eq] at hj
    subst hj
    exact ⟨hh, Reach.refl _ _⟩
  · cases S with
    | nil => exact absurd rfl hS
    | cons a l =>
      have h1 := (List.nodup_cons.1 hn).1
      have h2 : l.filter (fun u => false || u == a) = [] := List.filter_eq_nil_iff.2 fun x hx => by
        simp
        rintro rfl
        exact h1 hx
      simp only [List.headD_cons]
      rw [List.filter_cons_of_pos (by simp), h2]
      rfl
theorem filter_add {p : Nat → Bool} {b : Nat} (hn : S.Nodup) (hb : b ∈ S) (hp : p b = false) : (S.filter fun u => p u || u == b).length = (S.filter p).length + 1 := by
  induction S with
  | nil => cases hb
  | cons a l ih =>
    obtain ⟨h1, h2⟩ := List.nodup_cons.1 hn
    by_cases e : a = b
    · subst e
      rw [List.filter_cons_of_pos (by simp), List.filter_cons_of_neg (by simp [hp]), List.length_cons]
      congr 2
      refine List.filter_congr fun x hx => ?_
      have : x ≠ a := fun e => h1 (e ▸ hx)
      simp [this]
    · have hb' : b ∈ l := by
        rcases List.mem_cons.1 hb with h | h
        · exact absurd h.symm e
        · exact h
      have := ih h2 hb'
      by_cases hpa : p a = true
      · rw [List.filter_cons_of_pos (by simp [hpa]), List.filter_cons_of_pos hpa, List.length_cons, List.length_cons, this]
      · rw [List.filter_cons_of_neg (by simp [hpa, e]), List.filter_cons_of_neg hpa, this]
theorem FanSt.step {p : Nat → Bool} {many a b : Nat} (h : FanSt T S v p many) (hn : S.Nodup) (hok : ∀ t ∈ T, TriOk m t) (hS : ∀ j ∈ S, j < T.length ∧ v ∈ verts (tri T j)) (ha : a ∈ S) (hb : b ∈ S) (ht : trig T p a b = true) :
    FanSt T S v (fun u => p u || u == b) (many + 1) := by
  unfold trig at ht
  simp only [Bool.and_eq_true, Bool.not_eq_true'] at ht
  obtain ⟨hpa, hpb, hbs⟩ := ht
  have hN : Nbr T v a b := (bes_iff (hok _ (tri_mem (hS a ha).1)) (hS a ha).2 (hS b hb).2).1 hbs
  refine ⟨by show (p (S.headD 0) || _) = true; rw [h.hd]; rfl, fun j hj => ?_, by rw [filter_add hn hb hpb, h.cnt]⟩
  simp only [Bool.or_eq_true, beq_iff_eq] at hj
  rcases hj with hj | rfl
  · exact h.mem j hj
  · exact ⟨hb, (h.mem a hpa).2.step ⟨ha, hb, hN⟩⟩
theorem FanSt.le {p : Nat → Bool} {many : Nat} (h : FanSt T S v p many) : many ≤ S.length := by
  rw [h.cnt]
  exact List.length_filter_le _ _
/-- What a round has come to: nothing has changed, and nothing that was looked at would; or something has. -/
def Rnd (T : List Tri) (S : List Nat) (p0 : Nat → Bool) (many0 i k : Nat) (p : Nat → Bool) (many : Nat) : Prop :=
  (¬ Clo T S p0 ∧ many0 < many) ∨ (p = p0 ∧ many = many0 ∧ ∀ i' k' a b, (i' < i ∨ (i' = i ∧ k' < k)) → S[i']? = some a → S[k']? = some b → trig T p0 a b = false)
theorem Rnd.start (p0 : Nat → Bool) (many0 : Nat) : Rnd T S p0 many0 0 0 p0 many0 := .inr ⟨rfl, rfl, fun i' k' a b h => by omega⟩
theorem Rnd.next {p0 p : Nat → Bool} {many0 many i : Nat} (h : Rnd T S p0 many0 i S.length p many) : Rnd T S p0 many0 (i + 1) 0 p many := by
  rcases h with h | ⟨h1, h2, h3⟩
  · exact .inl h
  · refine .inr ⟨h1, h2, fun i' k' a b hik ha hb => ?_⟩
    have hk : k' < S.length := (List.getElem?_eq_some_iff.1 hb).1
    exact h3 i' k' a b (by omega) ha hb
theorem Rnd.no {p0 p : Nat → Bool} {many0 many i k a b : Nat} (h : Rnd T S p0 many0 i k p many) (ha : S[i]? = some a) (hb : S[k]? = some b) (ht : trig T p a b = false) : Rnd T S p0 many0 i (k + 1) p many := by
  rcases h with h | ⟨rfl, h2, h3⟩
  · exact .inl h
  · refine .inr ⟨rfl, h2, fun i' k' a' b' hik ha' hb' => ?_⟩
    by_cases e : i' = i ∧ k' = k
    · obtain ⟨rfl, rfl⟩ := e
      rw [ha] at ha'
      rw [hb] at hb'
      injection ha' with ha'
      injection hb' with hb'
      subst ha' hb'
      exact ht
    · exact h3 i' k' a' b' (by omega) ha' hb'
theorem Rnd.yes {p0 p : Nat → Bool} {many0 many i k a b : Nat} (h : Rnd T S p0 many0 i k p many) (ha : a ∈ S) (hb : b ∈ S) (ht : trig T p a b = true) (q : Nat → Bool) : Rnd T S p0 many0 i (k + 1) q (many + 1) := by
  rcases h with ⟨h1, h2⟩ | ⟨rfl, h2, h3⟩
  · exact .inl ⟨h1, by omega⟩
  · refine .inl ⟨fun hc => ?_, by omega⟩
    rw [hc a ha b hb] at ht
    cases ht
theorem Rnd.done {p0 p : Nat → Bool} {many0 many r : Nat} (h : Rnd T S p0 many0 S.length 0 p many) (h0 : Clo T S p0 ∨ r + 1 ≤ many0) : Clo T S p ∨ r + 1 + 1 ≤ many := by
  rcases h with ⟨h1, h2⟩ | ⟨rfl, rfl, h3⟩
  · rcases h0 with h0 | h0
    · exact absurd h0 h1
    · exact .inr (by omega)
  · refine .inl fun a ha b hb => ?_
    obtain ⟨i, hi⟩ := List.mem_iff_getElem?.1 ha
    obtain ⟨k, hk⟩ := List.mem_iff_getElem?.1 hb
    exact h3 i k a b (.inl (List.getElem?_eq_some_iff.1 hi).1) hi hk
theorem FanSt.all {p : Nat → Bool} {many : Nat} (h : FanSt T S v p many) (hc : Clo T S p ∨ S.length + 1 ≤ many) (hok : ∀ t ∈ T, TriOk m t) (hS : ∀ j ∈ S, j < T.length ∧ v ∈ verts (tri T j)) :
    S.length = many ↔ ∀ k ∈ S, Reach (fun a b => a ∈ S ∧ b ∈ S ∧ Nbr T v a b) (S.headD 0) k := by
  have hcl : Clo T S p := by
    rcases hc with hc | hc
    · exact hc
    · have := h.le
      omega
  rw [h.cnt]
  constructor
  · intro e k hk
    have h1 : S.filter p = S := List.Sublist.eq_of_length (List.filter_sublist ..) e.symm
    have h2 : k ∈ S.filter p := by rw [h1]; exact hk
    exact (h.mem k (List.mem_filter.1 h2).2).2
  · intro hr
    have h1 : S.filter p = S := List.filter_eq_self.2 fun k hk => by
      refine hr k hk (fun j => p j = true) h.hd fun x y hx ⟨hxS, hyS, hN⟩ => ?_
      have := hcl x hxS y hyS
      unfold trig at this
      rw [hx, (bes_iff (hok _ (tri_mem (hS x hxS).1)) (hS x hxS).2 (hS y hyS).2).2 hN] at this
      simpa using this
    rw [h1]
end
end Go.Proofs.YtbdicndkkenbgaaGreat
