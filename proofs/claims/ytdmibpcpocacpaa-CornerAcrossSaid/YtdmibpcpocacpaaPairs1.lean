/- What certify.pairs keeps in memory: maps keyed by arrays. No condition. -/
import Derived.Test.YtdmibpcpocacpaaPairs0
import Derived.Test.YtdmibpcpocacpaaKeys
import Derived.Test.YtdmibpcpocacpaaMapV
namespace Go.Proofs.Ytdmibpcpocacpaa
open Go.RowKit
open Go.Maps (Keyed)
open Go.WideMaps (KeyLaw)

theorem prog_laid : laidOutB Try.prog = true := by kernel_rfl
theorem law3 : KeyLaw Try.prog 49 := deep_law_laid prog_laid (m := 2) (by omega) (of_decide_eq_true (by kernel_rfl)) (by kernel_rfl) (by rw [Try.underlying49])
theorem law2 : KeyLaw Try.prog 30 := deep_law_laid prog_laid (m := 2) (by omega) (of_decide_eq_true (by kernel_rfl)) (by kernel_rfl) (by rw [Try.underlying30])
def kv (k : K3) : Value := .agg #[.int .i64 k.1, .int .i64 k.2.1, .int .i64 k.2.2]
def pv (p : Nat × Nat) : Value := .agg #[.int .i64 (p.1 : Int), .int .i64 (p.2 : Int)]
theorem kv_inj {k k' : K3} (h : kv k = kv k') : k = k' := by
  obtain ⟨a, b, c⟩ := k
  obtain ⟨a', b', c'⟩ := k'
  simp [kv] at h
  obtain ⟨rfl, rfl, rfl⟩ := h
  rfl
theorem pv_inj {p p' : Nat × Nat} (h : pv p = pv p') : p = p' := by
  obtain ⟨a, b⟩ := p
  obtain ⟨a', b'⟩ := p'
  simp [pv] at h
  obtain ⟨h1, h2⟩ := h
  exact Prod.ext (by simp only; omega) (by simp only; omega)
theorem kv_key {k : K3} (h1 : (Lit.int .i64 k.1).wf = true) (h2 : (Lit.int .i64 k.2.1).wf = true) (h3 : (Lit.int .i64 k.2.2).wf = true) : ∃ l, keyOf Try.prog 49 (kv k) = some l := by
  have hc : Try.prog.cellsOf 3 = 1 := by kernel_rfl
  have hc3 : Try.prog.cellsOf 49 = 3 := by kernel_rfl
  have hkt : Try.prog.keyType 49 = true := by kernel_rfl
  obtain ⟨m, hm⟩ : ∃ m, Try.prog.types.size + 1 = m + 2 := ⟨_, rfl⟩
  unfold keyOf
  rw [hm]
  simp [kv, Try.underlying49, Try.underlying3, hkt, Value.formed, hc3, hc, Program.keyLits, Value.cells, List.range, List.range.loop, h1, h2, h3]
theorem pv_key {p : Nat × Nat} (h1 : p.1 ≤ 9223372036854775807) (h2 : p.2 ≤ 9223372036854775807) : ∃ l, keyOf Try.prog 30 (pv p) = some l := by
  have w1 : (Lit.int .i64 (p.1 : Int)).wf = true := WalkArith.wf_i64 (by omega)
  have w2 : (Lit.int .i64 (p.2 : Int)).wf = true := WalkArith.wf_i64 (by omega)
  have hc : Try.prog.cellsOf 3 = 1 := by kernel_rfl
  have hc3 : Try.prog.cellsOf 30 = 2 := by kernel_rfl
  have hkt : Try.prog.keyType 30 = true := by kernel_rfl
  obtain ⟨m, hm⟩ : ∃ m, Try.prog.types.size + 1 = m + 2 := ⟨_, rfl⟩
  unfold keyOf
  rw [hm]
  simp [pv, Try.underlying30, Try.underlying3, hkt, Value.formed, hc3, hc, Program.keyLits, Value.cells, List.range, List.range.loop, w1, w2]

def nats (l : List Nat) : List Value := l.map fun a : Nat => Value.int .i64 (a : Int)
theorem nats_one (l : List Nat) : ∀ u ∈ nats l, u.oneCell' = true := by
  intro u hu
  obtain ⟨a, _, rfl⟩ := List.mem_map.1 hu
  rfl
/-- A row of numbers of the call's own. -/
def NatRow (w : World) (base : Nat) (A : Option Addr) (c : Nat) (l : List Nat) : Prop := w.ownsRow base 3 1 (.slice A l.length c) l.length (nats l)
/-- A function on keys tells rows of numbers, each in memory of its own. -/
structure HadAt (w : World) (base : Nat) {κ : Type} (enc : κ → Value) (f : Value → Option Value) (H : κ → List Nat) : Prop where
  none_ : ∀ k, H k = [] → f (enc k) = none
  some_ : ∀ k, H k ≠ [] → ∃ A c, f (enc k) = some (.slice A (H k).length c) ∧ NatRow w base A c (H k)
  apart : ∀ k k' v v' b, k ≠ k' → f (enc k) = some v → f (enc k') = some v' → v.ownBlock = some b → v'.ownBlock ≠ some b
section
variable {w w' : World} {base : Nat} {κ : Type} {enc : κ → Value} {f : Value → Option Value} {H : κ → List Nat}
theorem HadAt.start (w : World) (base : Nat) (enc : κ → Value) : HadAt w base enc (fun _ => none) (fun _ => []) :=
  ⟨fun _ _ => rfl, fun k h => absurd rfl h, fun k k' v v' b _ h => by cases h⟩
theorem HadAt.keep (h : HadAt w base enc f H) (hk : ∀ i cs, Blk w i 3 cs → w'.heap[i]? = w.heap[i]?) : HadAt w' base enc f H :=
  ⟨h.none_, fun k hne => by
    obtain ⟨A, c, h1, h2⟩ := h.some_ k hne
    exact ⟨A, c, h1, own_same h2 fun i hi => by
      obtain ⟨cs, hb⟩ := own_blk h2 hi
      exact hk i cs hb⟩, h.apart⟩
theorem HadAt.below (h : HadAt w base enc f H) (hb : Below w.heap.size w w') : HadAt w' base enc f H := h.keep fun i _ hi => hb.block i hi.lt
theorem HadAt.look (h : HadAt w base enc f H) (k : κ) : ∃ A c, (f (enc k)).getD (.slice none 0 0) = .slice A (H k).length c ∧ NatRow w base A c (H k) ∧ ∀ b, (Value.slice A (H k).length c).ownBlock = some b → f (enc k) = some (.slice A (H k).length c) := by
  by_cases hk : H k = []
  · rw [hk, h.none_ k hk]
    exact ⟨none, 0, rfl, World.ownsRow_nil _ _ _ _, fun b e => by cases e⟩
  · obtain ⟨A, c, h1, h2⟩ := h.some_ k hk
    rw [h1]
    exact ⟨A, c, rfl, h2, fun _ _ => rfl⟩
theorem HadAt.put (h : HadAt w base enc f H) (hinj : ∀ k k', enc k = enc k' → k = k') {k : κ} {v : Value} (hv : ∀ b, v.ownBlock = some b → f (enc k) = some v) {A' : Option Addr} {c' : Nat} {l : List Nat} (hne : l ≠ [])
    (hrow : NatRow w' base A' c' l) (hg : w.grownBy w' v.ownBlock) (hat : (Value.slice A' l.length c').ownBlock = v.ownBlock ∨ ∃ b, (Value.slice A' l.length c').ownBlock = some b ∧ w.heap.size ≤ b) {H' : κ → List Nat} (h1 : H' k = l) (h2 : ∀ x, x ≠ k → H' x = H x) :
    HadAt w' base enc (putV f (enc k) (.slice A' l.length c')) H' := by
  have ne_ : ∀ {x}, x ≠ k → enc x ≠ enc k := fun hx e => hx (hinj _ _ e)
  have far : ∀ x, x ≠ k → ∀ u b, f (enc x) = some u → u.ownBlock = some b → v.ownBlock ≠ some b := fun x hx u b hu hb e => h.apart k x v u b hx.symm (hv b e) hu e hb
  refine ⟨fun x hx => ?_, fun x hx => ?_, ?_⟩
  · by_cases e : x = k
    · subst e; rw [h1] at hx; exact absurd hx hne
    · rw [putV_ne _ _ (ne_ e)]; rw [h2 x e] at hx; exact h.none_ x hx
  · by_cases e : x = k
    · subst e
      rw [putV_same, h1]
      exact ⟨A', c', rfl, hrow⟩
    · rw [putV_ne _ _ (ne_ e), h2 x e]
      rw [h2 x e] at hx
      obtain ⟨A, c, h3, h4⟩ := h.some_ x hx
      refine ⟨A, c, h3, own_same h4 fun i hi => hg.block i (h4.lt i hi).2 fun e2 => far x e _ i h3 hi e2.symm⟩
  · intro x y u u' b hxy hu hu' hb
    by_cases ex : x = k
    · subst ex
      rw [putV_same] at hu
      rw [putV_ne _ _ (ne_ (Ne.symm hxy))] at hu'
      injection hu with hu
      subst hu
      intro hb'
      rcases hat with h5 | ⟨b', h5, h6⟩
      · rw [h5] at hb
        exact far y (Ne.symm hxy) _ b hu' hb' hb
      · rw [h5] at hb
        injection hb with hb
        subst hb
        have hyne : H y ≠ [] := fun e => by rw [h.none_ y e] at hu'; cases hu'
        obtain ⟨A, c, h7, h8⟩ := h.some_ y hyne
        rw [h7] at hu'
        injection hu' with hu'
        subst hu'
        have := (h8.lt _ hb').2
        omega
    · rw [putV_ne _ _ (ne_ ex)] at hu
      by_cases ey : y = k
      · subst ey
        rw [putV_same] at hu'
        injection hu' with hu'
        subst hu'
        intro hb'
        rcases hat with h5 | ⟨b', h5, h6⟩
        · rw [h5] at hb'
          exact far x ex _ b hu hb hb'
        · rw [h5] at hb'
          injection hb' with hb'
          subst hb'
          have hxne : H x ≠ [] := fun e => by rw [h.none_ x e] at hu; cases hu
          obtain ⟨A, c, h7, h8⟩ := h.some_ x hxne
          rw [h7] at hu
          injection hu with hu
          subst hu
          have := (h8.lt _ hb).2
          omega
      · rw [putV_ne _ _ (ne_ ey)] at hu'
        exact h.apart x y u u' b hxy hu hu' hb
end
/-- What was seen: just the pairs of a list. -/
def SeenAt (f : Value → Option Value) (L : List (Nat × Nat)) : Prop := ∀ p, (p ∈ L → f (pv p) = some (.bool true)) ∧ (p ∉ L → f (pv p) = none)
theorem SeenAt.put {f : Value → Option Value} {L : List (Nat × Nat)} (h : SeenAt f L) (p : Nat × Nat) : SeenAt (putV f (pv p) (.bool true)) (L ++ [p]) := fun q => by
  by_cases e : q = p
  · subst e
    exact ⟨fun _ => putV_same _ _ _, fun hn => absurd (by simp) hn⟩
  · have hne : pv q ≠ pv p := fun h' => e (pv_inj h')
    rw [putV_ne _ _ hne]
    refine ⟨fun hq => (h q).1 ?_, fun hq => (h q).2 fun h' => hq (by simp [h'])⟩
    rcases List.mem_append.1 hq with h' | h'
    · exact h'
    · simp at h'; exact absurd h' e
theorem SeenAt.look {f : Value → Option Value} {L : List (Nat × Nat)} (h : SeenAt f L) (p : Nat × Nat) : (f (pv p)).getD (.bool false) = .bool (decide (p ∈ L)) := by
  by_cases e : p ∈ L
  · rw [(h p).1 e]; simp [e]
  · rw [(h p).2 e]; simp [e]
theorem SeenAt.some_ {f : Value → Option Value} {L : List (Nat × Nat)} (h : SeenAt f L) {p : Nat × Nat} (e : p ∉ L) : (f (pv p)).isSome = false := by rw [(h p).2 e]; rfl
end Go.Proofs.Ytdmibpcpocacpaa
