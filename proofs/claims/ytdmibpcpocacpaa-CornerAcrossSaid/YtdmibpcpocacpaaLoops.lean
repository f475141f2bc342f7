/- certify.loop, walked: the triangles that have a vertex twice. No condition. -/
import Derived.Test.YtdmibpcpocacpaaProg
import Derived.Test.YtdmibpcpocacpaaTri
import Derived.WalkSpells
import Derived.WalkLawsBesides
import Derived.Deep.QuietTactic
import Derived.BigQuiet
import Derived.Deep.DeepCutAuto
namespace Go.Proofs.Ytdmibpcpocacpaa
open Go.RowKit

theorem wit_info : (Try.prog.info? 41).map (fun i => (i.zero, i.size, i.bytes)) = some (some (.agg #[.int .i64 0, .int .i64 0, .int .i64 0]), 3, 24) := by kernel_rfl

/-- A row of witnesses of the call's own. -/
def WitRow (w : World) (B : Nat) (A : Option Addr) (c : Nat) (L : List (Int × Int × Int)) : Prop := w.ownsRow B 41 3 (.slice A L.length c) L.length (L.flatMap w3)
def WitPost (w : World) (L : List (Int × Int × Int)) (e : Ending) (w' : World) : Prop := ∃ A c, e = .returned (.slice A L.length c) ∧ WitRow w' w.heap.size A c L ∧ Below w.heap.size w w'
/-- What a list of witnesses that grows is, behind k rounds. -/
def WitRel (w wr : World) (L : List (Int × Int × Int)) (v : Value) : Prop := ∃ A c, v = .slice A L.length c ∧ Hid (WitRow wr w.heap.size A c L) ∧ Hid (Below w.heap.size w wr)
theorem WitRel.start (w : World) (o : Obj) : WitRel w (w.alloc o) [] (.slice none 0 0) :=
  ⟨none, 0, rfl, Lib.hid (World.ownsRow_nil _ _ _ _), Lib.hid ((Below.refl _ _).alloc (Nat.le_refl _) _)⟩
theorem WitRel.start0 (w : World) : WitRel w w [] (.slice none 0 0) := ⟨none, 0, rfl, Lib.hid (World.ownsRow_nil _ _ _ _), Lib.hid (Below.refl _ _)⟩
theorem WitRel.keep {w wr w' : World} {L : List (Int × Int × Int)} {v : Value} (h : WitRel w wr L v) (hb : Below wr.heap.size wr w') : WitRel w w' L v := by
  obtain ⟨A, c, e, h1, h2⟩ := h
  exact ⟨A, c, e, Lib.hid (own_same h1.out fun k hk => hb.block k (h1.out.lt k hk).2), Lib.hid (h2.out.trans (hb.mono h2.out.size))⟩
theorem WitRel.grow {w wr wx w1 : World} {L : List (Int × Int × Int)} {x : Int × Int × Int} {A A1 : Option Addr} {c c1 : Nat} (hO : Hid (WitRow wr w.heap.size A c L)) (hB : Hid (Below w.heap.size w wr)) (hx : Below wr.heap.size wr wx)
    (h1 : w1.ownsRow w.heap.size 41 3 (.slice A1 (L.length + 1) c1) (L.length + 1) (L.flatMap w3 ++ w3 x)) (hg : wx.grownBy w1 (Value.slice A L.length c).ownBlock) : WitRel w w1 (L ++ [x]) (.slice A1 (L.length + 1) c1) := by
  refine ⟨A1, c1, by simp, Lib.hid ?_, Lib.hid ?_⟩
  · unfold WitRow
    rw [w3_snoc]
    simpa using h1
  · exact ((hB.out.trans (hx.mono hB.out.size)).grown hg (Nat.le_trans hB.out.size hx.size) fun k hk => (hO.out.lt k hk).1)

/-- Has the triangle of a number a vertex twice? -/
def loopB (T : List Tri) (i : Nat) : Bool := match T[i]? with
  | none => false
  | some t => t.a == t.b || t.b == t.c || t.c == t.a

set_option maxRecDepth 100000 in
set_option maxHeartbeats 1000000 in
theorem loop_any (N : Int) (A : Option Addr) (n c : Nat) (T : List Tri) (w : World) (hn : n ≤ 10000) (ht : TrisAt w w.heap.size A n T) :
    Calls Try.prog 47 #[.agg #[.int .i64 N, .slice A n c]] w (WitPost w (picks 2 (loopB T) n)) := by
  obtain ⟨i0, hi0, hz0, hz1, hz2⟩ := info_parts wit_info
  have HT := Lib.hid ht
  clear ht
  go_enter Try.func47, Try.ntmps47
  go_wp2_with fail
  go_loopw [3, 9] (fun lv iv wr => ∃ k : Nat, k ≤ n ∧ iv = .int .i64 k ∧ WitRel w wr (picks 2 (loopB T) k) lv) (fun _ iv _ => n - (intOf iv).toNat)
  case atStart => exact ⟨0, by omega, rfl, WitRel.start _ _⟩
  case round =>
    obtain ⟨k, hk, rfl, A', c', rfl, HO, HB⟩ := hrel
    by_cases hlt : k < n
    · obtain ⟨ad, t, rfl, htk, _, hadb, hc3⟩ := (HT.out.below HB.out).at_ hlt
      obtain ⟨d0, d1, d2, d3, d4, d5⟩ := hc3
      have HP := Lib.hid (picks_succ 2 (loopB T) k)
      have HL : Hid (loopB T k = (t.a == t.b || t.b == t.c || t.c == t.a)) := Lib.hid (by unfold loopB; rw [htk])
      have hsz := HB.out.size
      have hpl := picks_len 2 (loopB T) k
      clear htk
      go_wp2_with (at_builtin; go_must (refine wpList_append_sl _ rfl (.tmp 33) (.tmp 36) _ rfl w.heap.size 41 i0 _ 3 24 Try.underlying67 hi0 hz0 hz1 hz2 rfl (by omega) (.slice A' (picks 2 (loopB T) k).length c') _ _ rfl ((HO.out.alloc _).alloc _) (wr.heap.size + 1 + 1) (some ⟨wr.heap.size + 1, 0, none⟩) 1 1 (w3 (2, (k : Int), 0)) rfl (reads_newN _ _ _ 1 3 rfl (by simp)) (by simp [w3, Value.oneCell']) (by simp only [maxLen]; omega) (by omega) (by simp; omega) ?_); intro A1 c1 w1 hown1 hg1 hat1)
      all_goals
        refine ⟨⟨k + 1, by omega, by go_num, ?_⟩, by simp [intOf]; omega⟩
        rw [HP.out, HL.out]
      all_goals first
        | (have hb : (t.a == t.b || t.b == t.c || t.c == t.a) = true := by first | (simp only [Bool.or_eq_true]; assumption) | (simp [*]; done)
           rw [if_pos hb]
           exact WitRel.grow HO HB (((Below.refl _ _).alloc (Nat.le_refl _) _).alloc (by simp) _) hown1 hg1)
        | (rw [if_neg (by simp [*])]
           exact WitRel.keep ⟨A', c', rfl, HO, HB⟩ ((Below.refl _ _).alloc (Nat.le_refl _) _))
    · obtain rfl : k = n := by omega
      go_wp2_with fail
      go_ret
      exact ⟨A', c', rfl, HO.out, HB.out⟩
end Go.Proofs.Ytdmibpcpocacpaa
