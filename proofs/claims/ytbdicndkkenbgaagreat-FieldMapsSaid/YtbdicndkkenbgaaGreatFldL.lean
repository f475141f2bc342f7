/- All of a field's values, in turn: the iterator, walked. No condition but sizes. -/
import Derived.Test.YtbdicndkkenbgaaGreatFldSI
namespace Go.Proofs.YtbdicndkkenbgaaGreat
open Go.RowKit Go.Shelf

set_option linter.unusedSimpArgs false
set_option linter.unusedVariables false
attribute [local go_sem] Oper.semAt_some
/-- A field, and a box of it. -/
structure FlAt (w : World) (n₀ bf gf g n : Nat) (A : Option Addr) (c : Nat) (V : Nat → Int) : Prop where
  at_ : ∃ (w₀ : World) (B : Nat), w₀.heap.size = n₀ ∧ FAt w₀ 91 3 1 B gf g A c n ((List.range n).flatMap fun i => cellsI (V i)) ∧ Below n₀ w₀ w
  c1 : w.cell? ⟨bf, 0, none⟩ = some (.pointer (some ⟨gf, 0, none⟩))
  l1 : bf < w.heap.size
section
variable {w w' : World} {n₀ bf gf g n : Nat} {A : Option Addr} {c : Nat} {V : Nat → Int}
theorem FlAt.f (h : FlAt w n₀ bf gf g n A c V) : ∃ B, FAt w 91 3 1 B gf g A c n ((List.range n).flatMap fun i => cellsI (V i)) := by
  obtain ⟨w₀, B, rfl, h1, h2⟩ := h.at_
  exact ⟨B, h1.below h2⟩
theorem FlAt.only {F : Nat → Prop} (h : FlAt w n₀ bf gf g n A c V) (ho : Only F w w') (hF : ∀ k, F k → n₀ ≤ k) (h1 : ¬ F bf) : FlAt w' n₀ bf gf g n A c V := by
  obtain ⟨w₀, B, rfl, a1, a2⟩ := h.at_
  exact ⟨⟨w₀, B, rfl, a1, a2.trans (ho.below a2.size fun k hk hf => by have := hF k hf; omega)⟩, (ho.cell h.l1 h1).trans h.c1, Nat.lt_of_lt_of_le h.l1 ho.size⟩
theorem FlAt.below (h : FlAt w n₀ bf gf g n A c V) (hb : Below w.heap.size w w') : FlAt w' n₀ bf gf g n A c V :=
  h.only (F := fun _ => False) (Only.of_below hb _) (fun _ h => h.elim) (fun h => h)
theorem FlAt.f1 (h : FlAt w n₀ bf gf g n A c V) : w.cell? ⟨gf, 1, none⟩ = some (.slice A n c) := by
  obtain ⟨B, hf⟩ := h.f
  exact hf.f1
theorem FlAt.at (h : FlAt w n₀ bf gf g n A c V) {k : Nat} (hk : k < n) : ∃ ad, A = some ad ∧ w.cell? (ad.add k) = some (.int .i64 (V k)) := by
  obtain ⟨B, hf⟩ := h.f
  exact readCI ((flat_atI V hk).1 ▸ hf.reads) (flat_atI V hk).2
end
set_option maxHeartbeats 1000000 in
theorem all_fn (p : Option Addr) (w : World) :
    Calls Tryz.prog 54 #[.pointer p] w fun e w' => e = .returned (.func (.func 69) #[] #[.pointer (some ⟨w.heap.size, 0, none⟩)]) ∧ w' = w.alloc (.cells #[.pointer p] 47) := by
  go_enter Tryz.func54, Tryz.ntmps54
  go_wp2_with fail
  go_ret
  exact ⟨rfl, rfl⟩
set_option maxRecDepth 100000 in
set_option maxHeartbeats 4000000 in
theorem all1_in (n : Nat) (hn : 1 ≤ n) (l n₀ bf gf g nn : Nat) (A : Option Addr) (c : Nat) (V : Nat → Int) (F : Nat → Prop) (hF : ∀ k, F k → n₀ ≤ k) (hF1 : ¬ F bf) (hnn : nn ≤ 1000000)
    (J Jx : List Nat → World → Prop)
    (hY : ∀ pre x W, J pre W → pre.length < nn → YieldAt Fence.wide (n - 1) Tryz.prog l #[.int .i64 ((x : Nat) : Int), .int .i64 (V x)] W fun e W' =>
      (e = .returned (.bool true) ∧ J (pre ++ [x]) W' ∧ Only F W W') ∨ (e = .returned (.bool false) ∧ Jx (pre ++ [x]) W'))
    (W : World) (hA : FlAt W n₀ bf gf g nn A c V) (h0 : J [] W) :
    CallsIn Fence.wide n Tryz.prog 69 #[.func (.yield l) #[] #[], .pointer (some ⟨bf, 0, none⟩)] W fun e W' => (∃ v, e = .returned v) ∧
      ((∃ ys, ys = List.range nn ∧ J ys W') ∨ (∃ pre, pre <+: List.range nn ∧ Jx pre W')) := by
  have HA := Lib.hid hA
  have c1 := hA.c1
  have c2 := hA.f1
  clear hA
  refine callsIn_of_wp Tryz.func69 rfl trivial ?_ rfl
  simp only [Tryz.ntmps69, List.size_toArray, List.length_cons, List.length_nil, Nat.reduceAdd, Nat.reduceSub, Array.replicate_succ, Array.replicate_zero, List.push_toArray, List.append_toArray, List.nil_append, List.cons_append]
  gi_wp2
  gi_loopw [12] (fun kv wr => ∃ k : Nat, k ≤ nn ∧ kv = .int .i64 (k : Int) ∧ J (List.range k) wr ∧ Hid (FlAt wr n₀ bf gf g nn A c V)) (fun kv _ => nn - (intOf kv).toNat)
  case atStart => exact ⟨0, by omega, rfl, h0, HA⟩
  case round =>
    obtain ⟨k, hk, rfl, hJs, HAr⟩ := hrel
    by_cases hlt : k < nn
    · have hki : (k : Int) < (nn : Int) := by omega
      obtain ⟨ad, rfl, hc⟩ := HAr.out.at hlt
      obtain ⟨fn, tmps, assign, body, hy, hR⟩ := hY (List.range k) k wr hJs (by simpa using hlt)

      gi_wp2
      refine hR.mono ?_
      rintro e W3 (⟨rfl, hJ3, hk3⟩ | ⟨rfl, hJx3⟩)
      · have HA3 := Lib.hid (HAr.out.only hk3 hF hF1)
        have HJ3 := Lib.hid hJ3
        clear hJ3 hk3
        gi_wp2
        exact ⟨⟨k + 1, by omega, by go_num, by rw [List.range_succ]; exact HJ3.out, HA3⟩, by simp [intOf]; omega⟩
      · have HX := Lib.hid (show List.range k ++ [k] <+: List.range nn by
          rw [← List.range_succ]
          exact ⟨(List.range (nn - (k + 1))).map (fun x => k + 1 + x), by rw [← List.range_add]; congr 1; omega⟩)
        gi_wp2
        refine bodyPost_ret (results_none rfl _ _ _) rfl ?_
        exact ⟨⟨_, rfl⟩, .inr ⟨_, HX.out, hJx3⟩⟩
    · obtain rfl : k = nn := by omega
      have hki : ¬ (k : Int) < (k : Int) := by omega
      gi_wp2
      go_end0
      first | exact ⟨⟨_, rfl⟩, .inl ⟨_, rfl, hJs⟩⟩ | exact ⟨⟨_, rfl⟩, .inl hJs⟩
theorem all_stops (n : Nat) (hn : 1 ≤ n) (n₀ bf gf g nn : Nat) (A : Option Addr) (c : Nat) (V : Nat → Int) (F : Nat → Prop) (w : World) (hF : ∀ k, F k → n₀ ≤ k) (hF1 : ¬ F bf) (hnn : nn ≤ 1000000) (hA : FlAt w n₀ bf gf g nn A c V) :
    SeqStopsK Fence.wide n Tryz.prog 69 #[.pointer (some ⟨bf, 0, none⟩)] (fun x : Nat => #[.int .i64 (x : Int), .int .i64 (V x)]) (Only F) (fun ys => ys = List.range nn) (fun pre => pre <+: List.range nn) nn w := fun l J Jx W hW hJ hJx hY h0 =>
  all1_in n hn l n₀ bf gf g nn A c V F hF hF1 hnn J Jx hY W (hA.below hW) h0
set_option maxRecDepth 100000 in
set_option maxHeartbeats 2000000 in
/-- Of no field there is nothing. -/
theorem all1_nil (n : Nat) (hn : 1 ≤ n) (bf : Nat) (V : Nat → Int) (F : Nat → Prop) (w : World) (hbf : bf < w.heap.size) (hc : w.cell? ⟨bf, 0, none⟩ = some (.pointer none)) :
    SeqStopsK Fence.wide n Tryz.prog 69 #[.pointer (some ⟨bf, 0, none⟩)] (fun x : Nat => #[.int .i64 (x : Int), .int .i64 (V x)]) (Only F) (fun ys => ys = []) (fun pre => pre = []) 0 w := fun l J Jx W hW hJ hJx hY h0 => by
  have c1 := (hW.cell (p := ⟨bf, 0, none⟩) hbf).trans hc
  refine callsIn_of_wp Tryz.func69 rfl trivial ?_ rfl
  simp only [Tryz.ntmps69, List.size_toArray, List.length_cons, List.length_nil, Nat.reduceAdd, Nat.reduceSub, Array.replicate_succ, Array.replicate_zero, List.push_toArray, List.append_toArray, List.nil_append, List.cons_append]
  gi_wp2
  refine bodyPost_ret (results_none rfl _ _ _) rfl ?_
  first | exact ⟨⟨_, rfl⟩, .inl ⟨_, rfl, h0⟩⟩ | exact ⟨⟨_, rfl⟩, .inl h0⟩
end Go.Proofs.YtbdicndkkenbgaaGreat
