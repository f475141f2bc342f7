/- The document's Alike and Edges of layer 8: what they read. No condition. -/
import Derived.Test.YtmmjonpkpeanpaaWake8
namespace Go.Proofs.Ytmmjonpkpeanpaa
open Go.RowKit

set_option linter.unusedSimpArgs false
set_option linter.unusedVariables false
/-- Two cells in a row. -/
structure Cells2 (w : World) (q : Addr) (x y : Value) : Prop where
  c0 : w.cell? q = some x
  c1 : w.cell? (q.add 1) = some y
  f0 : w.cell? ⟨q.block, q.off, none⟩ = some x
  f1 : w.cell? ⟨q.block, q.off + 1, none⟩ = some y
theorem cells2 {w : World} {q : Addr} {x y : Value} (h0 : w.cell? q = some x) (h1 : w.cell? (q.add 1) = some y) : Cells2 w q x y := by
  have e := cell_spot h0
  refine ⟨h0, h1, ?_, ?_⟩
  · rw [← e]; exact h0
  · have e1 : q.add 1 = ⟨q.block, q.off + 1, none⟩ := by rw [e]; simp [Addr.add]
    rw [← e1]; exact h1
theorem edges_at {w : World} {B n : Nat} {A : Option Addr} {L : List (Int × Int)} (h : Reads w B 2 A n (L.flatMap cellE)) {k : Nat} (hk : k < n) :
    ∃ ad x, A = some ad ∧ L[k]? = some x ∧ ad.block < B ∧ Cells2 w (ad.add (k * 2)) (.int .i64 x.1) (.int .i64 x.2) := by
  obtain ⟨ad, e, hb, hc⟩ := h.2 (by omega)
  have hl : k < L.length := by
    have := h.1
    rw [flatMap_len 2 _ (fun _ => rfl)] at this
    omega
  have hp : L[k]? = some L[k] := List.getElem?_eq_getElem hl
  have h0 := flatMap_at 2 cellE (fun _ => rfl) L k 0 _ hp (by omega)
  have h1 := flatMap_at 2 cellE (fun _ => rfl) L k 1 _ hp (by omega)
  refine ⟨ad, L[k], e, hp, hb, cells2 (hc _ _ h0) ?_⟩
  rw [add_of_add]
  exact hc _ _ h1
theorem ERow.reads {w : World} {B : Nat} {A : Option Addr} {c : Nat} {L : List (Int × Int)} (h : ERow w B A c L) : Reads w w.heap.size 2 A L.length (L.flatMap cellE) := Reads.of_own h
theorem run_ne_edge (a b : Int) (w : World) : (binOp .neq 54 (.agg #[.int .i64 a, .int .i64 b]) (.agg #[.int .i64 a, .int .i64 b])).run Try.prog w = .ok (.bool false) w := by
  rw [run_neq_struct]
  show ((Op.equalIn (9998 + 1 + 1) _ _ _).run _ _).andThen _ = _
  unfold Op.equalIn
  simp [go_sem, Try.underlying3, Result.andThen, List.range']
theorem run_eq_edge (a b c d : Int) (w : World) : (binOp .eql 54 (.agg #[.int .i64 a, .int .i64 b]) (.agg #[.int .i64 c, .int .i64 d])).run Try.prog w = .ok (.bool (a == c && b == d)) w := by
  rw [run_eql_struct]
  show ((Op.equalIn (9998 + 1 + 1) _ _ _).run _ _).andThen _ = _
  unfold Op.equalIn
  cases h1 : (a == c) <;> cases h2 : (b == d) <;> simp [go_sem, Try.underlying3, Result.andThen, List.range', h1, h2]
/-- An edge's place in a sorted list. -/
theorem ins_at (e : Int × Int) : ∀ (E : List (Int × Int)) (j : Nat), (∀ i x, i < j → E[i]? = some x → ltE x e) → j ≤ E.length → (∀ x, E[j]? = some x → ¬ ltE x e) →
    insE E e = if E[j]? = some e then E else E.take j ++ e :: E.drop j
  | [], j, _, hj, _ => by
    obtain rfl : j = 0 := by simpa using hj
    simp [insE]
  | x :: E, 0, _, _, h => by
    have hx := h x rfl
    unfold insE
    rw [if_neg hx]
    by_cases he : x = e
    · rw [if_pos he, if_pos (by simp [he])]
    · rw [if_neg he, if_neg (by simp [he])]
      rfl
  | x :: E, j + 1, h1, hj, h2 => by
    have hx := h1 0 x (by omega) rfl
    unfold insE
    rw [if_pos hx, ins_at e E j (fun i y hi hy => h1 (i + 1) y (by omega) (by simpa using hy)) (by simpa using hj) (fun y hy => h2 y (by simpa using hy))]
    simp only [List.getElem?_cons_succ]
    split <;> simp
set_option maxRecDepth 100000 in
set_option maxHeartbeats 4000000 in
theorem refAlike_any (X : List (Int × Int)) (A A' : Option Addr) (n c c' : Nat) (w : World) (hn : n ≤ 1000000) (h1 : Reads w w.heap.size 2 A n (X.flatMap cellE)) (h2 : Reads w w.heap.size 2 A' n (X.flatMap cellE)) :
    Calls Try.prog 19 #[.slice A n c, .slice A' n c'] w (BoolPost w true) := by
  have H1 := Lib.hid h1
  have H2 := Lib.hid h2
  clear h1 h2
  go_enter Try.func19, Try.ntmps19
  go_wp2_with fail
  go_loopw [5] (fun iv wr => ∃ k q : Nat, k ≤ n ∧ iv = .int .i64 k ∧ wr = w.drewN q) (fun iv _ => n - (intOf iv).toNat)
  case atStart => exact ⟨0, 0, by omega, rfl, rfl⟩
  case round =>
    obtain ⟨k, q, hk, rfl, rfl⟩ := hrel
    by_cases hlt : k < n
    · obtain ⟨ad, x, rfl, hx, _, hc3⟩ := edges_at H1.out hlt
      obtain ⟨ad2, x2, rfl, hx2, _, hc4⟩ := edges_at H2.out hlt
      rw [hx] at hx2
      cases hx2
      obtain ⟨d0, d1, d2, d3⟩ := hc3
      obtain ⟨e0, e1, e2, e3⟩ := hc4
      obtain ⟨xa, xb⟩ := x
      have hne := run_ne_edge xa xb
      have hk0 : (0 : Int) ≤ (k : Int) := by omega
      have hk1 : (k : Int) < (n : Int) := by omega
      simp only at d0 d1 d2 d3 e0 e1 e2 e3
      clear hx
      go_wp2_with fail
      go_quiet (fail)
      go_wp2_with fail
      exact ⟨⟨k + 1, _, by omega, by go_num, rfl⟩, by simp [intOf]; omega⟩
    · obtain rfl : k = n := by omega
      go_wp2_with fail
      go_ret
      exact ⟨rfl, below_drewN (Below.refl _ _) q⟩
end Go.Proofs.Ytmmjonpkpeanpaa
