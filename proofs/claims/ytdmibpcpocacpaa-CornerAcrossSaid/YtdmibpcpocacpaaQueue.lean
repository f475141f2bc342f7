/- A queue: a slice of numbers that is cut at its head and appended to. No condition. -/
import Derived.Test.YtdmibpcpocacpaaTog1
namespace Go.Proofs.Ytdmibpcpocacpaa
open Go.RowKit

/-- A slice of numbers somewhere in a block g of the call's own. -/
def QRow (w : World) (base g : Nat) (A : Option Addr) (c : Nat) (Q : List Nat) : Prop :=
  ∃ off cur, A = some ⟨g, off, none⟩ ∧ base ≤ g ∧ Blk w g 3 cur ∧ Q.length ≤ c ∧ c ≤ maxLen ∧ off + c ≤ cur.size ∧ ∀ j u, (nats Q)[j]? = some u → cur[off + j]? = some u
section
variable {w w' : World} {base g c : Nat} {A : Option Addr} {Q : List Nat}
theorem QRow.keep (h : QRow w base g A c Q) (hk : w'.heap[g]? = w.heap[g]?) : QRow w' base g A c Q := by
  obtain ⟨off, cur, h1, h2, h3, r⟩ := h
  exact ⟨off, cur, h1, h2, hk.trans h3, r⟩
theorem QRow.lt (h : QRow w base g A c Q) : g < w.heap.size := by
  obtain ⟨off, cur, h1, h2, h3, r⟩ := h
  exact h3.lt
theorem QRow.blk (h : QRow w base g A c Q) : ∃ cs, Blk w g 3 cs := by
  obtain ⟨off, cur, h1, h2, h3, r⟩ := h
  exact ⟨cur, h3⟩
theorem QRow.new (w : World) {base : Nat} (hb : base ≤ w.heap.size) (x : Nat) : QRow (w.alloc (.cells #[.int .i64 (x : Int)] 3)) base w.heap.size (some ⟨w.heap.size, 0, none⟩) 1 [x] := by
  refine ⟨0, _, rfl, hb, Blk.new _ _ _, Nat.le_refl _, by decide, Nat.le_refl _, fun j u hj => ?_⟩
  match j, hj with
  | 0, hj => simpa [nats] using hj
/-- The first one. -/
theorem QRow.head {i : Nat} (h : QRow w base g A c (i :: Q)) : ∃ off, A = some ⟨g, off, none⟩ ∧ w.cell? ⟨g, off, none⟩ = some (.int .i64 (i : Int)) := by
  obtain ⟨off, cur, h1, h2, h3, _, _, _, h4⟩ := h
  exact ⟨off, h1, (h3.cell off).trans (h4 0 _ rfl)⟩
/-- 'q[1:]'. -/
theorem QRow.tail {i : Nat} {off : Nat} (h : QRow w base g (some ⟨g, off, none⟩) c (i :: Q)) : QRow w base g (if c = 1 then some ⟨g, off, none⟩ else some ⟨g, off + 1, none⟩) (c - 1) Q := by
  obtain ⟨off', cur, h1, h2, h3, h4, h5, h6, h7⟩ := h
  injection h1 with h1
  injection h1 with _ h1
  subst h1
  simp only [List.length_cons] at h4
  by_cases hc : c = 1
  · rw [if_pos hc]
    refine ⟨off, cur, rfl, h2, h3, by omega, by omega, by omega, fun j u hj => ?_⟩
    have hj2 : j < Q.length := by have := (List.getElem?_eq_some_iff.1 hj).1; simpa [nats] using this
    omega
  · rw [if_neg hc]
    refine ⟨off + 1, cur, rfl, h2, h3, by omega, by omega, by omega, fun j u hj => ?_⟩
    rw [Nat.add_assoc, Nat.add_comm 1 j]
    exact h7 (j + 1) u hj
theorem run_tail (off c n : Nat) (hn : 1 ≤ n) (w : World) :
    (Instr.slice 52 (.slice (some ⟨g, off, none⟩) n c) (some (.int .i64 1)) none none).run Try.prog w = .ok (.slice (if c = 1 then some ⟨g, off, none⟩ else some ⟨g, off + 1, none⟩) (n - 1) (c - 1)) w := by
  obtain ⟨i1, hi1, hy0, hy1, hy2⟩ := info_parts int_info
  have := run_slice_from (P := Try.prog) Try.underlying52 hi1 (some ⟨g, off, none⟩) n c 1 hn w
  rw [hy1] at this
  simpa [Addr.add] using this

/-- 'q = append(q, x)'. -/
theorem wpList_append_q {ops : Array Oper} {rest : List Oper} {o : Oper} {a : Act} {K : Exit → Act → World → Prop} (hgd : o.guard = none) (s x : Operand)
    (ho : o.op = .call { callee := .builtin .append, args := #[s, x], argTypes := #[52, 52] })
    (hq : QRow w base g A c Q) (hs : a.eval s = .slice A Q.length c) (ad : Addr) (k : Nat) (hx : a.eval x = .slice (some ad) 1 1) (hc : w.cell? ad = some (.int .i64 (k : Int))) (hl : Q.length + 1 ≤ 1000000) (hb : base ≤ w.heap.size)
    (h : ∀ g' A' c' w', QRow w' base g' A' c' (Q ++ [k]) → w.grownBy w' (some g) → (g' = g ∨ w.heap.size ≤ g') → wpList Try.prog ops K rest (a.put o.dst (.slice A' (Q.length + 1) c')) w') : wpList Try.prog ops K (o :: rest) a w := by
  obtain ⟨i1, hi1, hy0, hy1, hy2⟩ := info_parts int_info
  obtain ⟨off, cur, rfl, h2, h3, h4, h5, h6, h7⟩ := hq
  have hmx : (maxLen : Nat) = 9223372036854775807 := rfl
  refine wpList_append_arg w hgd s x 52 ho 3 i1 (.int .i64 0) 1 8 Try.underlying52 hi1 hy0 hy1 hy2 rfl (by omega) g off Q.length c (nats Q) hs (by simp [nats]) (fun j u hj => (h3.cell _).trans (h7 j u hj)) ad 1 1 [.int .i64 (k : Int)] hx rfl
    (fun j u hj => by
      match j, hj with
      | 0, hj => simp at hj; subst hj; rw [add_zero_]; exact hc) (by simp [Value.oneCell']) (fun hr j hj => ?_) (by omega) (by omega) (fun hr => ?_) (fun hr v' w' ho' hg' => ?_)
  · simp at hj
    subst hj
    refine ⟨?_, h3.frozen _⟩
    rw [h3.cell, Array.getElem?_eq_getElem (by omega)]
    rfl
  · have e : w.setCells g (off + Q.length * 1) [.int .i64 (k : Int)] = w.setCell ⟨g, off + Q.length, none⟩ (.int .i64 (k : Int)) := by rw [Nat.mul_one]; rfl
    rw [e]
    refine h g _ c _ ⟨off, _, rfl, h2, h3.set_ (off + Q.length) _, by simp; omega, h5, by simp; omega, fun j u hj => ?_⟩ ⟨rfl, rfl, rfl, by simp [World.setCell], fun i hi hne => Below.heap_setCell _ _ _ _ (fun e => hne (by rw [e]))⟩ (.inl rfl)
    rw [Array.getElem?_setIfInBounds]
    by_cases hj2 : j < Q.length
    · rw [if_neg (by omega)]
      refine h7 j u ?_
      unfold nats at hj ⊢
      rw [List.map_append, List.getElem?_append_left (by simpa using hj2)] at hj
      exact hj
    · have hj3 : j < Q.length + 1 := by have := (List.getElem?_eq_some_iff.1 hj).1; simpa [nats] using this
      obtain rfl : j = Q.length := by omega
      rw [if_pos rfl, if_pos (by omega)]
      unfold nats at hj
      rw [List.map_append, List.getElem?_append_right (by simp)] at hj
      simpa using hj
  · have hl' : (Q ++ [k]).length = Q.length + 1 := by simp
    rcases ho'.2 with ⟨_, h0⟩ | ⟨g', cap, cur', rfl, q1, q2, q3, q4, q5, q6⟩
    · omega
    · refine h g' _ cap w' ⟨0, cur', rfl, Nat.le_trans hb q1, q2, by rw [hl']; exact q3, q4, by omega, fun j u hj => ?_⟩ ⟨hg'.os, hg'.tape, hg'.output, hg'.size, fun i hi _ => hg'.block i hi (by simp)⟩ (.inr q1)
      have hn : nats (Q ++ [k]) = nats Q ++ [.int .i64 (k : Int)] := by simp [nats]
      rw [hn, ← q6, List.getElem?_take] at hj
      split at hj
      · rw [Nat.zero_add, ← Array.getElem?_toList]; exact hj
      · cases hj
end
end Go.Proofs.Ytdmibpcpocacpaa
