/- maps.Keys at a map keyed by edges, and its iterator. No condition. -/
import Derived.Test.YtcahbcminonfbaaCornerB
import Derived.Test.YtcahbcminonfbaaShelf31
import Derived.RangeFuncNested
import Derived.RangeFuncBound
import Derived.RangeFuncCalls
import Derived.RangeFuncLeaves
import Derived.Shelf.Abstract
import Derived.Shelf.RegionOpen
import Derived.OwnWalkIn
import Derived.TacticsInMore
import Derived.LoopNIn
import Derived.LoopIn
import Derived.Maps.AppendAt
import Derived.Sort.MapsRangeIn
namespace Go.Proofs.Ytcahbcminonfbaa
open Go.RowKit Go.Maps Go.Shelf
open Go.Maps (Keyed)

set_option maxHeartbeats 2000000 in
theorem keysE_any (mb : Option Nat) (W : World) :
    Calls Try.prog 58 #[.map mb] W fun e w' => e = .returned (.func (.func 77) #[] #[.pointer (some ⟨W.heap.size, 0, none⟩)]) ∧ w' = W.alloc (.cells #[.map mb] 94) := by
  go_enter Try.func58, Try.ntmps58
  go_wp2_with fail
  go_ret
  exact ⟨rfl, rfl⟩

/-- What has come of a map's keys. -/
def CollE (D0 : DataW Unit) (left : Lit → Bool) (ss : List (Int × Int)) : Prop :=
  ss.Nodup ∧ ∀ x, x ∈ ss ↔ ∃ kl, keyOf Try.prog 38 (encE x) = some kl ∧ has D0 kl = true ∧ left kl = false
theorem CollE.start (D0 : DataW Unit) : CollE D0 (has D0) [] := ⟨List.nodup_nil, fun x => ⟨fun h => (by cases h), fun ⟨kl, _, h1, h2⟩ => (by rw [h1] at h2; cases h2)⟩⟩
theorem CollE.step {D0 : DataW Unit} {left : Lit → Bool} {ss : List (Int × Int)} {x : Int × Int} {kl : Lit} {y : DataW Unit} (h : CollE D0 left ss) (hk : keyOf Try.prog 38 (encE x) = some kl) (hl : left kl = true) (hat : ∀ zd, D0.atKey kl zd = y) :
    CollE D0 (fun z => left z && !z.sameKey kl) (ss ++ [x]) := by
  have hh : has D0 kl = true := has_true_of_atKey hat
  have hx : x ∉ ss := fun hm => by
    obtain ⟨kl', h1, _, h3⟩ := (h.2 x).1 hm
    rw [hk] at h1
    injection h1 with h1
    rw [← h1, hl] at h3
    cases h3
  have hself : kl.sameKey kl = true := by
    obtain ⟨s, rfl⟩ := lawE.str hk
    simp [Lit.sameKey]
  refine ⟨List.nodup_append.2 ⟨h.1, by simp, fun a ha b hb e => by simp at hb; rw [e, hb] at ha; exact hx ha⟩, fun z => ?_⟩
  rw [List.mem_append, List.mem_singleton]
  constructor
  · rintro (hz | rfl)
    · obtain ⟨kl', h1, h2, h3⟩ := (h.2 z).1 hz
      exact ⟨kl', h1, h2, by show (left kl' && !kl'.sameKey kl) = false; rw [h3]; rfl⟩
    · exact ⟨kl, hk, hh, by show (left kl && !kl.sameKey kl) = false; rw [hself]; simp⟩
  · rintro ⟨kl', h1, h2, h3⟩
    by_cases hz : z = x
    · exact .inr hz
    · refine .inl ((h.2 z).2 ⟨kl', h1, h2, ?_⟩)
      have hne : kl' ≠ kl := fun e => hz (encE_inj (lawE.inj (e ▸ h1) hk))
      have h3 : (left kl' && !kl'.sameKey kl) = false := h3
      rw [sameKey_ne hne] at h3
      simpa using h3

set_option maxRecDepth 100000 in
set_option maxHeartbeats 4000000 in
theorem keysE1_in (n : Nat) (hn : 1 ≤ n) (l Bm b nn : Nat) (D0 : DataW Unit) (J Jx : List (Int × Int) → World → Prop)
    (hY : ∀ pre x W, J pre W → pre.length < Maps.size D0 → YieldAt Fence.wide (n - 1) Try.prog l #[encE x] W fun e W' =>
      (e = .returned (.bool true) ∧ J (pre ++ [x]) W' ∧ KeepsWalks W W') ∨ (e = .returned (.bool false) ∧ Jx (pre ++ [x]) W'))
    (W : World) (hJ : AbidesFrom W.heap.size J) (hm : W.cell? ⟨Bm, 0, none⟩ = some (.map (some b))) (hown : W.ownsMap Try.prog 38 anyElem b nn D0) (h0 : J [] W) :
    CallsIn Fence.wide n Try.prog 77 #[.func (.yield l) #[] #[], .pointer (some ⟨Bm, 0, none⟩)] W fun e W' => (∃ v, e = .returned v) ∧
      ((∃ ss : List (Int × Int), (ss.Nodup ∧ ∀ x, x ∈ ss ↔ ∃ kl, keyOf Try.prog 38 (encE x) = some kl ∧ has D0 kl = true) ∧ J ss W') ∨ (∃ pre : List (Int × Int), True ∧ Jx pre W')) := by
  refine callsIn_of_wp Try.func77 rfl trivial ?_ rfl
  simp only [Try.ntmps77, List.size_toArray, List.length_cons, List.length_nil, Nat.reduceAdd, Nat.reduceSub, Array.replicate_succ, Array.replicate_zero, List.push_toArray, List.append_toArray, List.nil_append, List.cons_append]
  gi_wp2_with (first
    | (gi_at_range; refine wpListIn_range_own _ rfl _ 94 rfl 38 4 keyedE Try.underlying94 _ b nn _ rfl hown ?_; intro w0 hrg0 hg0 hs0)
    | gi_in)
  go_frame
  gi_loopw [3] (fun _ wr => ∃ (left : Lit → Bool) (cnt : Nat) (ss : List (Int × Int)), wr.ranges Try.prog 38 anyElem b W.heap.size nn D0 left cnt ∧ ss.length + cnt ≤ Maps.size D0 ∧ CollE D0 left ss ∧ J ss wr)
    (fun _ wr => wr.rangeLeft b W.heap.size)
  case atStart =>
    exact ⟨_, _, [], hrg0, by simp, CollE.start D0, hJ [] W w0 none h0 hg0 (fun r e => by cases e)⟩
  case round =>
    obtain ⟨left, cnt, ss, hrg, hcs, hC, hJs⟩ := hrel
    gi_wp2_with (first
      | (gi_at_next; refine wpListIn_next_ranges _ rfl _ rfl 38 keyedE anyElem encE id (fun key kl hk => by obtain ⟨x, hx, _⟩ := keyE_inv hk; exact ⟨x, hx⟩) (fun v _ _ => ⟨v, rfl⟩) b W.heap.size nn _ _ _ rfl hrg ?_ ?_)
      | gi_in)
    · intro hc0 hl0
      gi_wp2
      go_end0
      refine ⟨⟨_, rfl⟩, .inl ⟨ss, ⟨hC.1, fun x => ?_⟩, hJs⟩⟩
      rw [hC.2 x]
      exact ⟨fun ⟨kl, h1, h2, _⟩ => ⟨kl, h1, h2⟩, fun ⟨kl, h1, h2⟩ => ⟨kl, h1, h2, hl0 kl⟩⟩
    · intro xa xb c kl yd yp w2 cnt2 hkey hlk hv hat hrg2 hlt hg2 hs2 hen
      have hJ2 : J ss w2 := hJ ss wr w2 (some W.heap.size) hJs hg2 (fun r e => by cases e; exact ⟨Nat.le_refl _, hrg.iter_walk⟩)
      have hC2 := hC.step (x := (xa, xb)) hkey hlk hat
      clear hs2
      have hg3 := World.grownBy_alloc w2 (.cells #[.int .i64 xa, .int .i64 xb] 38) none
      have hJ3 := hJ ss w2 _ none hJ2 hg3 (fun r e => by cases e)
      have hrg4 := hrg2.kept hg3 (by simp) (by simp)
      obtain ⟨fn, tmps, assign, body, hy, hR⟩ := hY ss (xa, xb) _ hJ3 (by omega)
      simp only [encE] at hen hy ⊢
      gi_wp2
      refine hR.mono ?_
      rintro e W3 (⟨rfl, hJ4, hk3⟩ | ⟨rfl, hJx3⟩)
      · gi_wp2
        have hrg5 := hrg4.of_walks hk3
        go_roundw
        case rel => exact ⟨_, cnt2, ss ++ [(xa, xb)], hrg5, by simp; omega, hC2, hJ4⟩
        case measure => rw [hrg5.left_eq, hrg.left_eq]; exact hlt
      · gi_wp2
        refine bodyPost_ret (results_none rfl _ _ _) rfl ?_
        exact ⟨⟨_, rfl⟩, .inr ⟨ss ++ [(xa, xb)], trivial, hJx3⟩⟩
/-- maps.Keys' value goes through the map's keys, each once. -/
theorem keysE_stops (n : Nat) (hn : 1 ≤ n) (Bm b nn : Nat) (D0 : DataW Unit) (w : World) (hBm : Bm < w.heap.size) (hm : w.cell? ⟨Bm, 0, none⟩ = some (.map (some b))) (hown : w.ownsMap Try.prog 38 anyElem b nn D0) :
    SeqStopsK Fence.wide n Try.prog 77 #[.pointer (some ⟨Bm, 0, none⟩)] (fun x => #[encE x]) KeepsWalks
      (fun ss => ss.Nodup ∧ ∀ x, x ∈ ss ↔ ∃ kl, keyOf Try.prog 38 (encE x) = some kl ∧ has D0 kl = true) (fun _ => True) (Maps.size D0) w := fun l J Jx W hW hJ _ hY h0 => by
  have hown' : W.ownsMap Try.prog 38 anyElem b nn D0 := by
    have hbl := hown.lt
    obtain ⟨es, clock, hb, Ft, hs, hD⟩ := hown
    exact ⟨es, clock, (hW.block b hbl).trans hb, Ft, hs, hD⟩
  exact keysE1_in n hn l Bm b nn D0 J Jx hY W hJ ((hW.cell (p := ⟨Bm, 0, none⟩) hBm).trans hm) hown' h0
end Go.Proofs.Ytcahbcminonfbaa
