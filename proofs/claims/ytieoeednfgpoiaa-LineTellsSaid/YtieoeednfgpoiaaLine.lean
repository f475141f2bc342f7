/- What a line is in memory, and how that is kept. No condition. -/
import Derived.Test.YtieoeednfgpoiaaNew
import Derived.Test.YtieoeednfgpoiaaModel
namespace Go.Proofs.Ytieoeednfgpoiaa
open Go.RowKit

/-- v is a slice of the one packet p. -/
def PackAt (w : World) (base : Nat) (wv v : Value) (p : Pk) : Prop :=
  ∃ dv, w.ownsRow base 42 2 v 1 [.int .i64 p.seq, dv] ∧ w.ownsRow base 5 1 dv p.data.length (B8 p.data) ∧ (dv.ownBlock = none ∨ dv.ownBlock ≠ wv.ownBlock)

def WayIs (w : World) (base : Nat) (wv : Value) (way : List Pk) (fw : Int → Option Value) : Prop :=
  ∀ x, (∀ p ∈ way, p.at_ = x → ∃ v, fw x = some v ∧ PackAt w base wv v p) ∧ ((∀ p ∈ way, p.at_ ≠ x) → fw x = none)

def lineCells (bl bw : Nat) (wv : Value) (s : LS) : Array Value :=
  #[.int .i64 s.rate, .int .i64 s.delay, .int .i64 s.now, .int .i64 s.next, .map (some bl), wv, .map (some bw)]

structure LineAt (w : World) (base g bl bw : Nat) (wv : Value) (fw : Int → Option Value) (s : LS) : Prop where
  g1 : base ≤ g
  bl1 : base ≤ bl
  bw1 : base ≤ bw
  ne : bl ≠ bw
  blk : Blk w g 63 (lineCells bl bw wv s)
  lost : MapI Try.prog 3 w bl s.lost.length (lostF s.lost)
  wait : w.ownsRow base 5 1 wv s.wait.length (B8 s.wait)
  way : MapI Try.prog 3 w bw s.way.length fw
  wayIs : WayIs w base wv s.way fw

section
variable {w w' : World} {base g bl bw : Nat} {wv v : Value} {fw : Int → Option Value} {s : LS} {p : Pk}

theorem PackAt.same (h : PackAt w base wv v p) (hk : ∀ k t cs, Blk w k t cs → (t = 42 ∨ t = 5) → some k ≠ wv.ownBlock ∨ t = 42 → w'.heap[k]? = w.heap[k]?) : PackAt w' base wv v p := by
  obtain ⟨dv, h1, h2, h3⟩ := h
  refine ⟨dv, own_same h1 fun k hk' => ?_, own_same h2 fun k hk' => ?_, h3⟩
  · obtain ⟨cs, hb⟩ := own_blk h1 hk'
    exact hk k 42 cs hb (.inl rfl) (.inr rfl)
  · obtain ⟨cs, hb⟩ := own_blk h2 hk'
    refine hk k 5 cs hb (.inr rfl) (.inl ?_)
    rcases h3 with h3 | h3
    · rw [h3] at hk'; cases hk'
    · rw [← hk']; exact h3
theorem PackAt.below (h : PackAt w base wv v p) (hb : Below w.heap.size w w') : PackAt w' base wv v p := h.same fun k _ _ hk _ _ => hb.block k hk.lt
/-- Another row of bytes waits, a new one. -/
theorem PackAt.re {wv' : Value} (h : PackAt w base wv v p) (hn : ∀ k, wv'.ownBlock = some k → w.heap.size ≤ k) : PackAt w base wv' v p := by
  obtain ⟨dv, h1, h2, h3⟩ := h
  refine ⟨dv, h1, h2, ?_⟩
  cases hd : dv.ownBlock with
  | none => exact .inl rfl
  | some k =>
    right
    intro e
    have := hn k e.symm
    have := (h2.lt k hd).2
    omega
theorem WayIs.imp {wv' : Value} {way : List Pk} (h : WayIs w base wv way fw) (hp : ∀ p ∈ way, ∀ v, PackAt w base wv v p → PackAt w' base wv' v p) : WayIs w' base wv' way fw := fun x => by
  obtain ⟨h1, h2⟩ := h x
  refine ⟨fun p hpm hx => ?_, h2⟩
  obtain ⟨v, hv, hP⟩ := h1 p hpm hx
  exact ⟨v, hv, hp p hpm v hP⟩

theorem LineAt.drew (h : LineAt w base g bl bw wv fw s) : LineAt w.drew base g bl bw wv fw s := ⟨h.g1, h.bl1, h.bw1, h.ne, h.blk, h.lost, h.wait, h.way, h.wayIs⟩
theorem LineAt.drewN (h : LineAt w base g bl bw wv fw s) (n : Nat) : LineAt (w.drewN n) base g bl bw wv fw s := ⟨h.g1, h.bl1, h.bw1, h.ne, h.blk, h.lost, h.wait, h.way, h.wayIs⟩
theorem LineAt.below (h : LineAt w base g bl bw wv fw s) (hb : Below w.heap.size w w') : LineAt w' base g bl bw wv fw s :=
  ⟨h.g1, h.bl1, h.bw1, h.ne, h.blk.below hb h.blk.lt, h.lost.below hb h.lost.lt, own_same h.wait fun k hk => hb.block k (h.wait.lt k hk).2, h.way.below hb h.way.lt, h.wayIs.imp fun _ _ _ hP => hP.below hb⟩
/-- Blocks of other types, and blocks of bytes that are none of the line's own, may turn. -/
theorem LineAt.only {F : Nat → Prop} (h : LineAt w base g bl bw wv fw s) (ho : Only F w w') (hF : ∀ k, F k → (k ≠ g ∧ k ≠ bl ∧ k ≠ bw) ∧ ∀ t cs, Blk w k t cs → t ≠ 42 ∧ t ≠ 5) : LineAt w' base g bl bw wv fw s :=
  ⟨h.g1, h.bl1, h.bw1, h.ne, h.blk.only ho fun e => (hF _ e).1.1 rfl, h.lost.only ho fun e => (hF _ e).1.2.1 rfl,
    own_same h.wait fun k hk => by
      obtain ⟨cs, hb⟩ := own_blk h.wait hk
      exact ho.block k hb.lt fun hf => ((hF k hf).2 5 cs hb).2 rfl,
    h.way.only ho fun e => (hF _ e).1.2.2 rfl, h.wayIs.imp fun _ _ _ hP => hP.same fun k t cs hb ht _ => ho.block k hb.lt fun hf => by
      obtain ⟨a, b⟩ := (hF k hf).2 t cs hb
      rcases ht with ht | ht
      · exact a ht
      · exact b ht⟩

/-- A field of the line is written. -/
theorem LineAt.setg (h : LineAt w base g bl bw wv fw s) (i : Nat) (u : Value) {wv' : Value} {s' : LS} (hc : (lineCells bl bw wv s).setIfInBounds i u = lineCells bl bw wv' s')
    (hl : s'.lost = s.lost) (hw : s'.way = s.way) (hwait : w.ownsRow base 5 1 wv' s'.wait.length (B8 s'.wait)) (hway : WayIs w base wv' s.way fw) : LineAt (w.setCell ⟨g, i, none⟩ u) base g bl bw wv' fw s' := by
  have e1 : g ≠ bl := fun e => h.lost.ne_blk h.blk e.symm
  have e2 : g ≠ bw := fun e => h.way.ne_blk h.blk e.symm
  refine ⟨h.g1, h.bl1, h.bw1, h.ne, ?_, ?_, ?_, ?_, ?_⟩
  · have := h.blk.set_ i u
    rwa [hc] at this
  · rw [hl]; exact h.lost.same (Below.heap_setCell _ _ _ _ (Ne.symm e1))
  · refine own_same hwait fun k hk => Below.heap_setCell _ _ _ _ ?_
    obtain ⟨cs, hb⟩ := own_blk hwait hk
    exact hb.ne_ h.blk (by decide)
  · rw [hw]; exact h.way.same (Below.heap_setCell _ _ _ _ (Ne.symm e2))
  · rw [hw]; exact hway.imp fun _ _ _ hP => hP.same fun k t cs hb ht _ => Below.heap_setCell _ _ _ _ (hb.ne_ h.blk (by rcases ht with rfl | rfl <;> decide))

/-- The map of what is on its way turns. -/
theorem LineAt.setw {es : Array MapEntry} {clock : Nat} {fw' : Int → Option Value} {way' : List Pk} {n' : Nat} (h : LineAt w base g bl bw wv fw s) (hm : MapI Try.prog 3 (ChangeMaps.setBlock w bw (.map es clock)) bw n' fw')
    (hn : n' = way'.length) (hway : WayIs w base wv way' fw') : LineAt (ChangeMaps.setBlock w bw (.map es clock)) base g bl bw wv fw' { s with way := way' } := by
  have hne : ∀ {k t cs}, Blk w k t cs → k ≠ bw := fun hb e => h.way.ne_blk hb e.symm
  refine ⟨h.g1, h.bl1, h.bw1, h.ne, ?_, ?_, ?_, ?_, ?_⟩
  · exact h.blk.setBlock (hne h.blk) _
  · exact h.lost.setBlock h.ne _
  · refine own_same h.wait fun k hk => ?_
    obtain ⟨cs, hb⟩ := own_blk h.wait hk
    exact heap_setBlock_ne _ _ _ (hne hb)
  · exact hn ▸ hm
  · exact hway.imp fun _ _ _ hP => hP.same fun k t cs hb _ _ => heap_setBlock_ne _ _ _ (hne hb)

/-- The line's cells. -/
structure Cells (w : World) (g bl bw : Nat) (wv : Value) (rate delay now next : Int) : Prop where
  c0 : w.cell? ⟨g, 0, none⟩ = some (.int .i64 rate)
  c1 : w.cell? ⟨g, 1, none⟩ = some (.int .i64 delay)
  c2 : w.cell? ⟨g, 2, none⟩ = some (.int .i64 now)
  c3 : w.cell? ⟨g, 3, none⟩ = some (.int .i64 next)
  c4 : w.cell? ⟨g, 4, none⟩ = some (.map (some bl))
  c5 : w.cell? ⟨g, 5, none⟩ = some wv
  c6 : w.cell? ⟨g, 6, none⟩ = some (.map (some bw))
  f : ∀ i, w.frozen? ⟨g, i, none⟩ = false
theorem LineAt.cells (h : LineAt w base g bl bw wv fw s) : Cells w g bl bw wv s.rate s.delay s.now s.next :=
  ⟨h.blk.cell 0, h.blk.cell 1, h.blk.cell 2, h.blk.cell 3, h.blk.cell 4, h.blk.cell 5, h.blk.cell 6, h.blk.frozen⟩
end
end Go.Proofs.Ytieoeednfgpoiaa
