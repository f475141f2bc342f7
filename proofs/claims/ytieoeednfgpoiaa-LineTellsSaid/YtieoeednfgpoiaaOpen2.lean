/- Arguments, opened: rows of rows of bytes; a plan. No condition. -/
import Derived.Test.YtieoeednfgpoiaaOpen
import Derived.Test.YtieoeednfgpoiaaGreat
import Derived.Deep.Slices
namespace Go.Proofs.Ytieoeednfgpoiaa
open Go.ChangeShapes Go.WideShapes Go.ChangeAt Go.RowKit

section
variable {H : Type} {enc : TypeId × Value → H} {P : Program} {w : World} {base : Nat} {spare : Nat → Bool} {held : Bool}

/-- A slice of rows of bytes that came in. -/
theorem open_rows {t e u : TypeId} {fuel : Nat} {A : Option Addr} {n c : Nat} {x : DataW H × List MemPlace} (ht : P.underlying t = some (.slice e)) (hc : P.cellsOf e = 1) (he : P.underlying e = some (.slice u)) (hu : P.underlying u = some (.int .u8)) (hcu : P.cellsOf u = 1)
    (h : DataW.trod enc P w base spare held fuel t [.slice A n c] = some x) :
    ∃ bs : List (List UInt8), n ≤ maxLen ∧ RowsAt w w.heap.size A n bs ∧ ∀ b ∈ bs, b.length ≤ maxLen := by
  rcases Deep.open_slice1 ht hc h with ⟨hcs, _⟩ | ⟨a, n', c', m, f, V, D, Pl, hcs, _, hl, hm, hmm, _, hx⟩
  · simp at hcs
    obtain ⟨rfl, rfl, rfl⟩ := hcs
    exact ⟨[], Nat.zero_le _, ⟨rfl, fun h => absurd h (Nat.lt_irrefl _)⟩, fun b hb => by cases hb⟩
  · simp at hcs
    obtain ⟨rfl, rfl, rfl⟩ := hcs
    have hnm : n ≤ m := by rw [hmm]; split <;> omega
    obtain ⟨f, hf⟩ := Deep.choose_lt (α := List UInt8) (p := fun i b => ∃ A' c', V i = .slice A' b.length c' ∧ b.length ≤ c' ∧ c' ≤ maxLen ∧ Reads w w.heap.size 1 A' b.length (B8 b)) (n := n) (fun i hi => by
      obtain ⟨_, h2⟩ := hx i (by omega)
      obtain ⟨A', n', c', l, h3, h4, h5, h6, h7, h8⟩ := open_row he hu hcu h2
      obtain ⟨b, hb, hbl⟩ := u8_list l h8
      rw [hb] at h7
      have : b.length = n' := by omega
      subst this
      exact ⟨b, A', c', h3, h5, h6, h7⟩)
    refine ⟨(List.range n).map f, by omega, ⟨by simp, fun hn => ⟨a, rfl, ?_, fun k b hk => ?_⟩⟩, fun b hb => ?_⟩
    · have := World.block_lt_of_cell? w _ (hx 0 (by omega)).1
      rwa [block_of_add] at this
    · have hkn : k < n := by have := (List.getElem?_eq_some_iff.1 hk).1; simpa using this
      simp [hkn] at hk
      subst hk
      obtain ⟨A', c', h1, h2, h3, h4⟩ := hf k hkn
      exact ⟨A', c', h2, by rw [(hx k (by omega)).1, h1], h4⟩
    · obtain ⟨i, hi, rfl⟩ := List.mem_map.1 hb
      obtain ⟨A', c', h1, h2, h3, h4⟩ := hf i (List.mem_range.1 hi)
      omega
end

/-- A plan that came in. -/
structure PlanIn (w : World) (lost : List Int) (A : Option Addr) (n : Nat) : Prop where
  reads : Reads w w.heap.size 1 A n (lost.map (Value.int .i64))
  wf : ∀ x ∈ lost, (Lit.int .i64 x).wf = true
  len : lost.length = n

theorem open_plan {H : Type} {enc : TypeId × Value → H} {w : World} {base : Nat} {spare : Nat → Bool} {held : Bool} {r : Reach} {b0 : Nat} {v : Value} {d : DataW H} {p : List MemPlace}
    (hv : Value.okWide Try.prog w r b0 24 v) (h : DataW.Trod enc Try.prog w base spare held 24 v d p) :
    ∃ (rate delay : Int) (A : Option Addr) (n c : Nat) (lost : List Int), v = .agg #[.int .i64 rate, .int .i64 delay, .slice A n c] ∧ PlanIn w lost A n ∧ n ≤ maxLen := by
  obtain ⟨v0, v1, v2, y0, y1, y2, f, rfl, _, _, h0, h1, h2⟩ := Joins.open_agg3 Try.underlying24 (by kernel_rfl) (by kernel_rfl) hv h
  obtain ⟨x, e0, _, _⟩ := DataW.trod_int Try.underlying3 h0
  obtain ⟨y, e1, _, _⟩ := DataW.trod_int Try.underlying3 h1
  obtain ⟨A, n, c, l, rfl, hl, h3, h4, h5, h6⟩ := open_row Try.underlying22 Try.underlying3 (by kernel_rfl) h2
  injection e0 with e0 _
  injection e1 with e1 _
  subst e0 e1
  exact ⟨x, y, A, n, c, l, rfl, ⟨h5, h6, hl⟩, by omega⟩
end Go.Proofs.Ytieoeednfgpoiaa
