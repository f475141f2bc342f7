/- Points, and what is around a vertex, that came in, opened. No condition. -/
import Derived.Test.YtcpfolojfdnojaaOpenS
namespace Go.Proofs.Ytcpfolojfdnojaa
open Go.ChangeShapes Go.WideShapes Go.ChangeAt Go.RowKit

set_option maxRecDepth 100000 in
theorem open_pts {H : Type} {enc : TypeId × Value → H} {w : World} {base : Nat} {spare : Nat → Bool} {held : Bool} {fuel : Nat} {v : Value} {x : DataW H × List MemPlace}
    (h : DataW.trod enc Try.prog w base spare held fuel 34 [v] = some x) :
    ∃ (A : Option Addr) (n c : Nat) (T : List Tri), v = .slice A n c ∧ n ≤ c ∧ c ≤ maxLen ∧ TrisAt w w.heap.size A n T ∧ ∀ t ∈ T, TriWf t := by
  have h3c : Try.prog.cellsOf 36 = 3 := by kernel_rfl
  have h1c : Try.prog.cellsOf 3 = 1 := by kernel_rfl
  rcases Deep.open_slice Try.underlying34 h with ⟨hcs, _⟩ | ⟨a, n, c, m, f, D, Pl, hcs, _, hl, hm, hmm, _, hx⟩
  · simp at hcs
    exact ⟨none, 0, 0, [], hcs, Nat.le_refl _, Nat.zero_le _, ⟨Reads.none_, rfl⟩, fun p hp => by cases hp⟩
  · simp at hcs
    have hnm : n ≤ m := by rw [hmm]; split <;> omega
    rw [h3c] at hx
    have key : ∀ i, i < n → ∃ t : Tri, (∀ j u, t.cells[j]? = some u → w.cell? (a.add (i * 3 + j)) = some u) ∧ TriWf t := by
      intro i hi
      obtain ⟨cs', h1, h2⟩ := hx i (by omega)
      obtain ⟨_, hlen, hc⟩ := World.cells?_some h1
      obtain ⟨u, v, z, rfl⟩ : ∃ u v z, cs' = [u, v, z] := by
        match cs', hlen with
        | [u, v, z], _ => exact ⟨u, v, z, rfl⟩
      obtain ⟨y0, y1, y2, fn, _, t0, t1, t2⟩ := trod_array3 Try.underlying36 h1c h2
      obtain ⟨z0, e0, _, w0⟩ := DataW.trod_int Try.underlying3 t0
      obtain ⟨z1, e1, _, w1⟩ := DataW.trod_int Try.underlying3 t1
      obtain ⟨z2, e2, _, w2⟩ := DataW.trod_int Try.underlying3 t2
      injection e0 with e0 _
      injection e1 with e1 _
      injection e2 with e2 _
      subst e0 e1 e2
      refine ⟨⟨z0, z1, z2⟩, fun j u hj => ?_, w0, w1, w2⟩
      have hj3 : j < 3 := (List.getElem?_eq_some_iff.1 hj).1
      have := hc j (by simpa using hj3)
      rw [Deep.add_add] at this
      rw [this]
      exact hj
    haveI : Inhabited Tri := ⟨⟨0, 0, 0⟩⟩
    obtain ⟨F, hF⟩ := Deep.choose_lt key
    refine ⟨some a, n, c, (List.range n).map F, hcs, hl, hm, TrisAt.mk_ ⟨?_, fun hn => ⟨a, rfl, ?_, fun j u hj => ?_⟩⟩, fun t ht => ?_⟩
    · rw [flatMap_len 3 _ (fun _ => rfl)]; simp
    · have := World.block_lt_of_cell? w _ ((hF 0 hn).1 0 _ rfl)
      rwa [block_of_add] at this
    · have hj2 : j < n * 3 := by
        have := (List.getElem?_eq_some_iff.1 hj).1
        rw [flatMap_len 3 _ (fun _ => rfl)] at this
        simpa using this
      have hi : j / 3 < n := (Nat.div_lt_iff_lt_mul (by omega)).2 hj2
      have h1 := flatMap_at 3 Tri.cells (fun _ => rfl) ((List.range n).map F) (j / 3) (j % 3) (F (j / 3)) (by simp [hi]) (Nat.mod_lt _ (by omega))
      have e : j / 3 * 3 + j % 3 = j := by rw [Nat.mul_comm]; exact Nat.div_add_mod j 3
      rw [e, hj] at h1
      have := (hF (j / 3) hi).1 (j % 3) u h1.symm
      rwa [e] at this
    · obtain ⟨i, hi, rfl⟩ := List.mem_map.1 ht
      exact (hF i (List.mem_range.1 hi)).2
set_option maxRecDepth 100000 in
theorem open_ptrow {H : Type} {enc : TypeId × Value → H} {w : World} {base : Nat} {spare : Nat → Bool} {held : Bool} {r : Reach} {b0 : Nat} {v : Value} {d : DataW H} {p : List MemPlace}
    (hv : Value.okWide Try.prog w r b0 34 v) (h : DataW.Trod enc Try.prog w base spare held 34 v d p) :
    ∃ (A : Option Addr) (n c : Nat) (T : List Tri), v = .slice A n c ∧ n ≤ maxLen ∧ c ≤ maxLen ∧ TrisAt w w.heap.size A n T ∧ ∀ t ∈ T, TriWf t := by
  obtain ⟨Al, nl, cl, rfl⟩ := okWide_slice Try.underlying34 hv
  obtain ⟨fuel, hf⟩ := h
  obtain ⟨A, n, c, T, e, h1, h2, h3, h4⟩ := open_pts (v := .slice Al nl cl) (by simpa [Value.cells] using hf)
  injection e with e1 e2 e3
  subst e1 e2 e3
  exact ⟨Al, nl, cl, T, rfl, Nat.le_trans h1 h2, h2, h3, h4⟩
set_option maxRecDepth 100000 in
theorem open_ptrowC {H : Type} {enc : TypeId × Value → H} {w : World} {base : Nat} {spare : Nat → Bool} {held : Bool} {r : Reach} {b0 : Nat} {v : Value} {d : DataW H} {p : List MemPlace}
    (hv : Value.okWide Try.prog w r b0 34 v) (h : DataW.Trod enc Try.prog w base spare held 34 v d p) :
    ∃ (A : Option Addr) (n c : Nat) (T : List Tri), v = .slice A n c ∧ n ≤ c ∧ c ≤ maxLen ∧ TrisAt w w.heap.size A n T ∧ ∀ t ∈ T, TriWf t := by
  obtain ⟨Al, nl, cl, rfl⟩ := okWide_slice Try.underlying34 hv
  obtain ⟨fuel, hf⟩ := h
  obtain ⟨A, n, c, T, e, h1, h2, h3, h4⟩ := open_pts (v := .slice Al nl cl) (by simpa [Value.cells] using hf)
  injection e with e1 e2 e3
  subst e1 e2 e3
  exact ⟨Al, nl, cl, T, rfl, h1, h2, h3, h4⟩
set_option maxRecDepth 100000 in
theorem open_point {H : Type} {enc : TypeId × Value → H} {w : World} {base : Nat} {spare : Nat → Bool} {held : Bool} {r : Reach} {b0 : Nat} {v : Value} {d : DataW H} {p : List MemPlace}
    (hv : Value.okWide Try.prog w r b0 36 v) (h : DataW.Trod enc Try.prog w base spare held 36 v d p) :
    ∃ a b c : Int, v = .agg #[.int .i64 a, .int .i64 b, .int .i64 c] ∧ (Lit.int .i64 a).wf = true ∧ (Lit.int .i64 b).wf = true ∧ (Lit.int .i64 c).wf = true := by
  have h3c : Try.prog.cellsOf 36 = 3 := by kernel_rfl
  have h1c : Try.prog.cellsOf 3 = 1 := by kernel_rfl
  obtain ⟨cs, rfl, hs⟩ : ∃ cs : Array Value, v = .agg cs ∧ cs.size = 3 := by
    unfold Value.okWide at hv
    simp only [Try.underlying36] at hv
    obtain ⟨cs, rfl, hs, _⟩ := hv
    exact ⟨cs, rfl, hs.trans h3c⟩
  obtain ⟨c0, c1, c2, rfl⟩ : ∃ c0 c1 c2, cs = #[c0, c1, c2] := by
    obtain ⟨l⟩ := cs
    match l, hs with
    | [a, b, c], _ => exact ⟨a, b, c, rfl⟩
  obtain ⟨fuel, hf⟩ := h
  obtain ⟨y0, y1, y2, n, _, t0, t1, t2⟩ := trod_array3 Try.underlying36 h1c hf
  obtain ⟨z0, e0, _, w0⟩ := DataW.trod_int Try.underlying3 t0
  obtain ⟨z1, e1, _, w1⟩ := DataW.trod_int Try.underlying3 t1
  obtain ⟨z2, e2, _, w2⟩ := DataW.trod_int Try.underlying3 t2
  injection e0 with e0 _
  injection e1 with e1 _
  injection e2 with e2 _
  subst e0 e1 e2
  exact ⟨z0, z1, z2, rfl, w0, w1, w2⟩
set_option maxRecDepth 100000 in
theorem open_around {H : Type} {enc : TypeId × Value → H} {w : World} {base : Nat} {spare : Nat → Bool} {held : Bool} {r : Reach} {b0 : Nat} {v : Value} {d : DataW H} {p : List MemPlace}
    (hv : Value.okWide Try.prog w r b0 32 v) (h : DataW.Trod enc Try.prog w base spare held 32 v d p) :
    ∃ l a b c e : Int, v = .agg #[.int .i64 l, .int .i64 a, .int .i64 b, .int .i64 c, .int .i64 e] ∧ (Lit.int .i64 l).wf = true ∧ (Lit.int .i64 a).wf = true ∧ (Lit.int .i64 b).wf = true ∧ (Lit.int .i64 c).wf = true ∧ (Lit.int .i64 e).wf = true := by
  have hC : Try.prog.cellsOf 32 = 5 := by kernel_rfl
  have h1c : Try.prog.cellsOf 3 = 1 := by kernel_rfl
  obtain ⟨cs, rfl, hs⟩ := okWide_struct Try.underlying32 hv
  obtain ⟨c0, c1, c2, c3, c4, rfl⟩ : ∃ c0 c1 c2 c3 c4, cs = #[c0, c1, c2, c3, c4] := by
    obtain ⟨l⟩ := cs
    match l, hs.trans hC with
    | [a, b, c, d, e], _ => exact ⟨a, b, c, d, e, rfl⟩
  obtain ⟨fuel, hf⟩ := h
  obtain ⟨xs, n, _, _, hl, hlen, hf⟩ := DataW.trod_struct Try.underlying32 hf
  have t0 := hf 0 _ rfl
  have t1 := hf 1 _ rfl
  have t2 := hf 2 _ rfl
  have t3 := hf 3 _ rfl
  have t4 := hf 4 _ rfl
  simp [Value.cells, h1c] at t0 t1 t2 t3 t4
  match xs, hlen with
  | [y0, y1, y2, y3, y4], _ =>
    obtain ⟨z0, e0, _, w0⟩ := DataW.trod_int Try.underlying3 t0
    obtain ⟨z1, e1, _, w1⟩ := DataW.trod_int Try.underlying3 t1
    obtain ⟨z2, e2, _, w2⟩ := DataW.trod_int Try.underlying3 t2
    obtain ⟨z3, e3, _, w3⟩ := DataW.trod_int Try.underlying3 t3
    obtain ⟨z4, e4, _, w4⟩ := DataW.trod_int Try.underlying3 t4
    injection e0 with e0 _
    injection e1 with e1 _
    injection e2 with e2 _
    injection e3 with e3 _
    injection e4 with e4 _
    subst e0 e1 e2 e3 e4
    exact ⟨z0, z1, z2, z3, z4, rfl, w0, w1, w2, w3, w4⟩
end Go.Proofs.Ytcpfolojfdnojaa
