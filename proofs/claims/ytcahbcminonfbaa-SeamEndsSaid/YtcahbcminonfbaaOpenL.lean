/- A row of edges that came in, opened. No condition. -/
import Derived.Test.YtcahbcminonfbaaOpenE
import Derived.Test.YtcahbcminonfbaaEndA
namespace Go.Proofs.Ytcahbcminonfbaa
open Go.ChangeShapes Go.WideShapes Go.ChangeAt Go.RowKit

set_option maxRecDepth 100000 in
theorem open_edges {H : Type} {enc : TypeId × Value → H} {w : World} {base : Nat} {spare : Nat → Bool} {held : Bool} {fuel : Nat} {v : Value} {x : DataW H × List MemPlace}
    (h : DataW.trod enc Try.prog w base spare held fuel 31 [v] = some x) :
    ∃ (A : Option Addr) (n c : Nat) (T : List (Int × Int)), v = .slice A n c ∧ n = T.length ∧ n ≤ c ∧ c ≤ maxLen ∧ ES w A T ∧ ∀ t ∈ T, (Lit.int .i64 t.1).wf = true ∧ (Lit.int .i64 t.2).wf = true := by
  have h2c : Try.prog.cellsOf 38 = 2 := by kernel_rfl
  have h1c : Try.prog.cellsOf 3 = 1 := by kernel_rfl
  rcases Deep.open_slice Try.underlying31 h with ⟨hcs, _⟩ | ⟨a, n, c, m, f, D, Pl, hcs, _, hl, hm, hmm, _, hx⟩
  · simp at hcs
    exact ⟨none, 0, 0, [], hcs, rfl, Nat.le_refl _, Nat.zero_le _, ⟨Reads.none_⟩, fun p hp => by cases hp⟩
  · simp at hcs
    have hnm : n ≤ m := by rw [hmm]; split <;> omega
    rw [h2c] at hx
    have key : ∀ i, i < n → ∃ t : Int × Int, (∀ j u, (cellE t)[j]? = some u → w.cell? (a.add (i * 2 + j)) = some u) ∧ ((Lit.int .i64 t.1).wf = true ∧ (Lit.int .i64 t.2).wf = true) := by
      intro i hi
      obtain ⟨cs', h1, h2⟩ := hx i (by omega)
      obtain ⟨_, hlen, hc⟩ := World.cells?_some h1
      obtain ⟨u, v, rfl⟩ : ∃ u v, cs' = [u, v] := by
        match cs', hlen with
        | [u, v], _ => exact ⟨u, v, rfl⟩
      obtain ⟨y0, y1, fn, t0, t1⟩ := trod_pair Try.underlying38 h1c h2
      obtain ⟨z0, e0, _, w0⟩ := DataW.trod_int Try.underlying3 t0
      obtain ⟨z1, e1, _, w1⟩ := DataW.trod_int Try.underlying3 t1
      injection e0 with e0 _
      injection e1 with e1 _
      subst e0 e1
      refine ⟨(z0, z1), fun j u hj => ?_, w0, w1⟩
      have hj2 : j < 2 := (List.getElem?_eq_some_iff.1 hj).1
      have := hc j (by simpa using hj2)
      rw [Deep.add_add] at this
      rw [this]
      exact hj
    obtain ⟨F, hF⟩ := Deep.choose_lt key
    refine ⟨some a, n, c, (List.range n).map F, hcs, by simp, hl, hm, ⟨?_⟩, fun t ht => ?_⟩
    · have hLn : ((List.range n).map F).length = n := by simp
      rw [hLn]
      refine ⟨by rw [flatMap_len 2 _ (fun _ => rfl)]; simp, fun hn => ⟨a, rfl, ?_, fun j u hj => ?_⟩⟩
      · have := World.block_lt_of_cell? w _ ((hF 0 hn).1 0 _ rfl)
        rwa [block_of_add] at this
      · have hj2 : j < n * 2 := by
          have := (List.getElem?_eq_some_iff.1 hj).1
          rw [flatMap_len 2 _ (fun _ => rfl)] at this
          simpa using this
        have hi : j / 2 < n := (Nat.div_lt_iff_lt_mul (by omega)).2 hj2
        have h1 := flatMap_at 2 cellE (fun _ => rfl) ((List.range n).map F) (j / 2) (j % 2) (F (j / 2)) (by simp [hi]) (Nat.mod_lt _ (by omega))
        have e : j / 2 * 2 + j % 2 = j := by rw [Nat.mul_comm]; exact Nat.div_add_mod j 2
        rw [e, hj] at h1
        have := (hF (j / 2) hi).1 (j % 2) u h1.symm
        rwa [e] at this
    · obtain ⟨i, hi, rfl⟩ := List.mem_map.1 ht
      exact (hF i (List.mem_range.1 hi)).2
set_option maxRecDepth 100000 in
theorem open_edgerow {H : Type} {enc : TypeId × Value → H} {w : World} {base : Nat} {spare : Nat → Bool} {held : Bool} {r : Go.Reach} {b0 : Nat} {v : Value} {d : DataW H} {p : List MemPlace}
    (hv : Value.okWide Try.prog w r b0 31 v) (h : DataW.Trod enc Try.prog w base spare held 31 v d p) :
    ∃ (A : Option Addr) (n c : Nat) (T : List (Int × Int)), v = .slice A n c ∧ n = T.length ∧ n ≤ maxLen ∧ ES w A T ∧ ∀ t ∈ T, (Lit.int .i64 t.1).wf = true ∧ (Lit.int .i64 t.2).wf = true := by
  obtain ⟨Al, nl, cl, rfl⟩ := okWide_slice Try.underlying31 hv
  obtain ⟨fuel, hf⟩ := h
  obtain ⟨A, n, c, T, e, h1, h2, h3, h4, h5⟩ := open_edges (v := .slice Al nl cl) (by simpa [Value.cells] using hf)
  injection e with e1 e2 e3
  subst e1 e2 e3
  exact ⟨Al, nl, cl, T, rfl, h1, Nat.le_trans h2 h3, h4, h5⟩
end Go.Proofs.Ytcahbcminonfbaa
