/- Pairs of triangles that have a key in common: the plain model. No program in sight. -/
import Derived.Test.YtdmibpcpocacpaaTri
namespace Go.Proofs.Ytdmibpcpocacpaa

theorem nodup_le {α : Type} : ∀ (l l' : List α), l.Nodup → (∀ x ∈ l, x ∈ l') → l.length ≤ l'.length
  | [], _, _, _ => Nat.zero_le _
  | a :: l, l', hn, hs => by
    obtain ⟨h1, h2⟩ := List.nodup_cons.1 hn
    obtain ⟨s, t, rfl⟩ := List.append_of_mem (hs a (by simp))
    have := nodup_le l (s ++ t) h2 fun x hx => by
      have := hs x (by simp [hx])
      simp only [List.mem_append, List.mem_cons] at this ⊢
      rcases this with h | rfl | h
      · exact .inl h
      · exact absurd hx h1
      · exact .inr h
    simp at this ⊢
    omega

abbrev K3 := Int × Int × Int
/-- Of each key the triangles that have it; the pairs that are told. -/
structure PS where
  had : K3 → List Nat
  out : List (Nat × Nat)
def addP (i : Nat) (L : List (Nat × Nat)) (a : Nat) : List (Nat × Nat) := if (a, i) ∈ L then L else L ++ [(a, i)]
def PS.key (i : Nat) (s : PS) (k : K3) : PS := ⟨fun x => if x = k then s.had k ++ [i] else s.had x, (s.had k).foldl (addP i) s.out⟩
def PS.tri (keys : Tri → List K3) (s : PS) (i : Nat) (t : Tri) : PS := (keys t).foldl (PS.key i) s
def PS.to (keys : Tri → List K3) (T : List Tri) : Nat → PS
  | 0 => ⟨fun _ => [], []⟩
  | k + 1 => match T[k]? with
    | some t => (PS.to keys T k).tri keys k t
    | none => PS.to keys T k
structure PS.Ok (s : PS) (n c : Nat) : Prop where
  lt : ∀ x, ∀ a ∈ s.had x, a < n
  len : ∀ x, (s.had x).length ≤ c
  nodup : s.out.Nodup
  olt : ∀ p ∈ s.out, p.1 < n ∧ p.2 < n
def OutOk (L : List (Nat × Nat)) (n : Nat) : Prop := L.Nodup ∧ ∀ p ∈ L, p.1 < n ∧ p.2 < n
theorem addP_ok {i n a : Nat} {L : List (Nat × Nat)} (h : OutOk L n) (hi : i < n) (ha : a < n) : OutOk (addP i L a) n := by
  unfold addP
  split
  · exact h
  · rename_i hn
    refine ⟨?_, fun p hp => ?_⟩
    · rw [List.nodup_append]
      exact ⟨h.1, by simp, fun x hx y hy => by simp at hy; subst hy; rintro rfl; exact hn hx⟩
    · rcases List.mem_append.1 hp with h' | h'
      · exact h.2 p h'
      · simp at h'; subst h'; exact ⟨ha, hi⟩
theorem foldP_ok {i n : Nat} (hi : i < n) : ∀ (l : List Nat) (L : List (Nat × Nat)), OutOk L n → (∀ a ∈ l, a < n) → OutOk (l.foldl (addP i) L) n
  | [], _, h, _ => h
  | a :: l, L, h, hl => foldP_ok hi l _ (addP_ok h hi (hl a (by simp))) fun b hb => hl b (by simp [hb])
theorem outOk_len {L : List (Nat × Nat)} {n : Nat} (h : OutOk L n) : L.length ≤ n * n := by
  have hl : ((List.range n).flatMap fun a => (List.range n).map fun b => (a, b)).length = n * n := by
    rw [List.length_flatMap]
    simp [List.map_const']
  rw [← hl]
  refine nodup_le _ _ h.1 fun p hp => ?_
  obtain ⟨a, b⟩ := p
  have := h.2 _ hp
  simp only [List.mem_flatMap, List.mem_map, List.mem_range]
  exact ⟨a, this.1, b, this.2, rfl⟩
theorem PS.Ok.out {s : PS} {n c : Nat} (h : s.Ok n c) : OutOk s.out n := ⟨h.nodup, h.olt⟩
theorem key_ok {s : PS} {n c i : Nat} (h : s.Ok n c) (hi : i < n) (k : K3) : (PS.key i s k).Ok n (c + 1) := by
  have ho := foldP_ok hi (s.had k) s.out h.out (h.lt k)
  refine ⟨fun x a ha => ?_, fun x => ?_, ho.1, ho.2⟩
  · simp only [PS.key] at ha
    split at ha
    · rcases List.mem_append.1 ha with h' | h'
      · exact h.lt _ a h'
      · simp at h'; omega
    · exact h.lt _ a ha
  · simp only [PS.key]
    split
    · have := h.len k; simp; omega
    · have := h.len x; omega
theorem keys_ok {n i : Nat} (hi : i < n) : ∀ (ks : List K3) (s : PS) (c : Nat), s.Ok n c → (ks.foldl (PS.key i) s).Ok n (c + ks.length)
  | [], _, _, h => h
  | k :: ks, s, c, h => by
    have := keys_ok hi ks _ _ (key_ok h hi k)
    rw [List.length_cons, show c + (ks.length + 1) = c + 1 + ks.length by omega]
    exact this
theorem to_ok (keys : Tri → List K3) (hk : ∀ t, (keys t).length ≤ 3) (T : List Tri) {n : Nat} : ∀ k, k ≤ n → (PS.to keys T k).Ok n (3 * k)
  | 0, _ => ⟨(fun x a ha => by cases ha), (fun x => Nat.le_refl _), List.nodup_nil, (fun p hp => by cases hp)⟩
  | k + 1, hkn => by
    have h := to_ok keys hk T (n := n) k (by omega)
    unfold PS.to
    cases hT : T[k]? with
    | none => exact ⟨h.lt, fun x => Nat.le_trans (h.len x) (by omega), h.nodup, h.olt⟩
    | some t =>
      have h2 := keys_ok (show k < n by omega) (keys t) _ _ h
      exact ⟨h2.lt, fun x => Nat.le_trans (h2.len x) (by have := hk t; omega), h2.nodup, h2.olt⟩
theorem to_succ (keys : Tri → List K3) {T : List Tri} {k : Nat} {t : Tri} (h : T[k]? = some t) : PS.to keys T (k + 1) = (keys t).foldl (PS.key k) (PS.to keys T k) := by
  show (match T[k]? with
    | some t => (PS.to keys T k).tri keys k t
    | none => PS.to keys T k) = _
  rw [h]
  rfl
theorem foldl_snoc_take {α β : Type} (f : β → α → β) (b : β) (l : List α) (j : Nat) {x : α} (h : l[j]? = some x) : (l.take (j + 1)).foldl f b = f ((l.take j).foldl f b) x := by
  rw [take_snoc_ l j h, List.foldl_append]; rfl
end Go.Proofs.Ytdmibpcpocacpaa
