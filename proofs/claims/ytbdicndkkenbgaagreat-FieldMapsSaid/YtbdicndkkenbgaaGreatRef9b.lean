/- The document's answer for layer 9: index, walked. No condition. -/
import Derived.Test.YtbdicndkkenbgaaGreatRef9a
namespace Go.Proofs.YtbdicndkkenbgaaGreat
open Go.RowKit

theorem rwit_info : (Tryz.prog.info? 116).map (fun i => (i.zero, i.size, i.bytes)) = some (some (.agg #[.int .i64 0, .int .i64 0, .int .i64 0]), 3, 24) := by kernel_rfl
def RRow (w : World) (B : Nat) (A : Option Addr) (c : Nat) (L : List (Int × Int × Int)) : Prop := w.ownsRow B 116 3 (.slice A L.length c) L.length (L.flatMap w3)
def RPost (w : World) (L : List (Int × Int × Int)) (e : Ending) (w' : World) : Prop := ∃ A c, e = .returned (.slice A L.length c) ∧ RRow w' w.heap.size A c L ∧ Below w.heap.size w w'
def RRel (w wr : World) (L : List (Int × Int × Int)) (v : Value) : Prop := ∃ A c, v = .slice A L.length c ∧ Hid (RRow wr w.heap.size A c L) ∧ Hid (Below w.heap.size w wr)
theorem RRel.start0 (w : World) : RRel w w [] (.slice none 0 0) := ⟨none, 0, rfl, Lib.hid (World.ownsRow_nil _ _ _ _), Lib.hid (Below.refl _ _)⟩
theorem RRel.keep {w wr w' : World} {L : List (Int × Int × Int)} {v : Value} (h : RRel w wr L v) (hb : Below wr.heap.size wr w') : RRel w w' L v := by
  obtain ⟨A, c, e, h1, h2⟩ := h
  exact ⟨A, c, e, Lib.hid (own_same h1.out fun k hk => hb.block k (h1.out.lt k hk).2), Lib.hid (h2.out.trans (hb.mono h2.out.size))⟩
theorem RRel.grow {w wr wx w1 : World} {L : List (Int × Int × Int)} {x : Int × Int × Int} {A A1 : Option Addr} {c c1 : Nat} (hO : Hid (RRow wr w.heap.size A c L)) (hB : Hid (Below w.heap.size w wr)) (hx : Below wr.heap.size wr wx)
    (h1 : w1.ownsRow w.heap.size 116 3 (.slice A1 (L.length + 1) c1) (L.length + 1) (L.flatMap w3 ++ w3 x)) (hg : wx.grownBy w1 (Value.slice A L.length c).ownBlock) : RRel w w1 (L ++ [x]) (.slice A1 (L.length + 1) c1) := by
  refine ⟨A1, c1, by simp, Lib.hid ?_, Lib.hid ?_⟩
  · unfold RRow
    rw [w3_snoc]
    simpa using h1
  · exact (hB.out.trans (hx.mono hB.out.size)).grown hg (Nat.le_trans hB.out.size hx.size) fun k hk => (hO.out.lt k hk).1
theorem rwit_new (w W : World) (hb : Below w.heap.size w W) (x : Int × Int × Int) {g : Nat} (hg : W.heap.size = g) :
    RRow (W.alloc (.cells #[.int .i64 x.1, .int .i64 x.2.1, .int .i64 x.2.2] 116)) w.heap.size (some ⟨g, 0, none⟩) 1 [x] := by
  subst hg
  exact ⟨rfl, .inr ⟨W.heap.size, 1, _, rfl, hb.size, heap_alloc_new _ _, Nat.le_refl _, by decide, rfl, rfl⟩⟩
theorem r9below_drewN {B : Nat} {a w : World} (h : Below B a w) (n : Nat) : Below B a (w.drewN n) := ⟨h.os, h.tape, h.output, h.size, h.block⟩
/-- A vertex of a triangle, by its place. -/
theorem cells3_at {w : World} {q : Addr} {t : Tri} (h : Cells3 w q (.int .i64 t.a) (.int .i64 t.b) (.int .i64 t.c)) {k : Nat} (hk : k < 3) : ∃ x, (verts t)[k]? = some x ∧ w.cell? (q.add k) = some (.int .i64 x) := by
  rcases (by omega : k = 0 ∨ k = 1 ∨ k = 2) with rfl | rfl | rfl
  · exact ⟨t.a, rfl, by rw [add_zero_]; exact h.c0⟩
  · exact ⟨t.b, rfl, h.c1⟩
  · exact ⟨t.c, rfl, h.c2⟩

set_option maxRecDepth 100000 in
set_option maxHeartbeats 8000000 in
theorem rindex_any (N : Int) (A : Option Addr) (n c : Nat) (T : List Tri) (w : World) (hn : n ≤ 10000) (ht : TrisAt w w.heap.size A n T) :
    Calls Tryz.prog 75 #[.agg #[.int .i64 N, .slice A n c]] w (RPost w (indexL N n T)) := by
  obtain ⟨i0, hi0, hz0, hz1, hz2⟩ := info_parts rwit_info
  have HT := Lib.hid ht
  clear ht
  by_cases hs : N < 0 ∨ 4096 < N ∨ 8192 < n
  · have HL : Hid (indexL N n T = [(1, -1, 0)]) := by
      refine Lib.hid ?_
      unfold indexL
      rw [if_pos]
      unfold sizeB
      simp only [Bool.or_eq_true, decide_eq_true_eq]
      omega
    rw [HL.out]
    have hs' : N < 0 ∨ 4096 < N ∨ (8192 : Int) < n := by omega
    clear hs
    go_enter Tryz.func75, Tryz.ntmps75
    go_wp2_with fail
    all_goals first
      | (exfalso; omega)
      | (go_ret
         refine ⟨_, _, rfl, ?_, ((Below.refl _ _).alloc (Nat.le_refl _) _).alloc (by simp) _⟩
         exact rwit_new w _ ((Below.refl _ _).alloc (Nat.le_refl _) _) (1, -1, 0) (by simp))
  · have h1 : 0 ≤ N := by omega
    have h2 : N ≤ 4096 := by omega
    have h3 : (n : Int) ≤ 8192 := by omega
    have HL : Hid (indexL N n T = picks 1 (indexB N T) n) := by
      refine Lib.hid ?_
      unfold indexL
      rw [if_neg]
      unfold sizeB
      simp only [Bool.or_eq_true, decide_eq_true_eq]
      omega
    rw [HL.out]
    clear hs HL
    go_enter Tryz.func75, Tryz.ntmps75
    go_wp2_with fail
    obtain ⟨W, hW⟩ : ∃ W, W = w.alloc (.cells #[.int .i64 N, .slice A n c] 24) := ⟨_, rfl⟩
    have HX : Hid (Blk W w.heap.size 24 #[.int .i64 N, .slice A n c]) := by subst hW; exact Lib.hid (Blk.new _ _ _)
    have HW : Hid (Below w.heap.size w W) := by subst hW; exact Lib.hid ((Below.refl _ _).alloc (Nat.le_refl _) _)
    have hws : w.heap.size < W.heap.size := HX.out.lt
    rw [← hW]
    clear hW
    go_loopw [3, 4] (fun lv iv wr => ∃ k : Nat, k ≤ n ∧ iv = .int .i64 k ∧ RRel W wr (picks 1 (indexB N T) k) lv) (fun _ iv _ => n - (intOf iv).toNat)
    case atStart => exact ⟨0, by omega, rfl, RRel.start0 _⟩
    case round =>
      obtain ⟨k, hk, rfl, A', c', rfl, HO, HB⟩ := hrel
      have b0 := (HX.out.below HB.out hws).cell 0
      have b1 := (HX.out.below HB.out hws).cell 1
      simp at b0 b1
      by_cases hlt : k < n
      · obtain ⟨ad, t, rfl, htk, _, hadb, hc3⟩ := ((HT.out.below HW.out).below (HB.out.mono (Nat.le_of_lt hws))).at_ hlt
        have HC3 := Lib.hid hc3
        have HP := Lib.hid (picks_succ 1 (indexB N T) k)
        have HLB : Hid (indexB N T k = (verts t).any (badV N)) := Lib.hid (by unfold indexB; rw [htk]; simp [verts, Bool.or_assoc])
        have hsz := HB.out.size
        have hpl := picks_len 1 (indexB N T) k
        clear htk hc3
        go_wp2_with fail
        obtain ⟨wB, rfl⟩ : ∃ wB : World, wB = wr := ⟨_, rfl⟩
        go_loopw [5, 6] (fun bv jv wq => ∃ j q : Nat, j ≤ 3 ∧ jv = .int .i64 j ∧ bv = .bool (((verts t).take j).any (badV N)) ∧ wq = wB.drewN q) (fun _ jv _ => 3 - (intOf jv).toNat)
        case atStart => exact ⟨0, 0, by omega, rfl, rfl, rfl⟩
        case round =>
          obtain ⟨j, q, hj, rfl, rfl, rfl⟩ := hrel
          by_cases hjt : j < 3
          · obtain ⟨x, hx, hcx⟩ := cells3_at HC3.out hjt
            have HS : Hid (((verts t).take (j + 1)).any (badV N) = (((verts t).take j).any (badV N) || badV N x)) := Lib.hid (by rw [take_snoc_ _ _ hx, List.any_append]; simp)
            generalize ((verts t).take j).any (badV N) = bj at *
            have hjd : decide ((j : Int) < 3) = true := decide_eq_true (by omega)
            have hj1 : (0 : Int) ≤ (j : Int) := by omega
            have hj2 : (j : Int) < 3 := by omega
            clear hx
            cases bj with
            | true =>
              go_wp2_with fail
              go_quiet (fail)
              go_wp2_with fail
              exact ⟨⟨j + 1, _, by omega, by go_num, by rw [HS.out]; rfl, rfl⟩, by simp [intOf]; omega⟩
            | false =>
              by_cases hx0 : x < 0
              · have HX0 : Hid (badV N x = true) := Lib.hid (by unfold badV; simp [hx0])
                have hd : decide (x < 0) = true := decide_eq_true hx0
                go_wp2_with fail
                go_quiet (fail)
                go_wp2_with fail
                exact ⟨⟨j + 1, _, by omega, by go_num, by rw [HS.out, HX0.out]; first | rfl | simp [hx0], rfl⟩, by simp [intOf]; omega⟩
              · have hd : decide (x < 0) = false := decide_eq_false hx0
                by_cases hxN : N ≤ x
                · have HX0 : Hid (badV N x = true) := Lib.hid (by unfold badV; simp [hxN])
                  have hd2 : decide (N ≤ x) = true := decide_eq_true hxN
                  go_wp2_with fail
                  go_quiet (fail)
                  go_wp2_with fail
                  exact ⟨⟨j + 1, _, by omega, by go_num, by rw [HS.out, HX0.out]; first | rfl | simp [hxN], rfl⟩, by simp [intOf]; omega⟩
                · have HX0 : Hid (badV N x = false) := Lib.hid (by unfold badV; simp; omega)
                  have hd2 : decide (N ≤ x) = false := decide_eq_false hxN
                  go_wp2_with fail
                  go_quiet (fail)
                  go_wp2_with fail
                  exact ⟨⟨j + 1, _, by omega, by go_num, by rw [HS.out, HX0.out]; first | rfl | simp [hxN], rfl⟩, by simp [intOf]; omega⟩
          · obtain rfl : j = 3 := by omega
            have e3 : (verts t).take 3 = verts t := rfl
            rw [e3]
            have HP2 := HP
            rw [HLB.out] at HP2
            generalize (verts t).any (badV N) = bb at *
            have HO2 : Hid ((wB.drewN q).ownsRow W.heap.size 116 3 (.slice A' (picks 1 (indexB N T) k).length c') (picks 1 (indexB N T) k).length ((picks 1 (indexB N T) k).flatMap w3)) := Lib.hid HO.out
            have HBD := Lib.hid (r9below_drewN (Below.refl wB.heap.size wB) q)
            cases bb with
            | true =>
              go_wp2_with (at_builtin; go_must (refine wpList_append_sl _ rfl (.tmp 58) (.tmp 61) _ rfl W.heap.size 116 i0 _ 3 24 Tryz.underlying101 hi0 hz0 hz1 hz2 rfl (by omega) (.slice A' (picks 1 (indexB N T) k).length c') _ _ rfl ((HO2.out).alloc _) (wB.heap.size + 1) (some ⟨wB.heap.size, 0, none⟩) 1 1 (w3 (1, (k : Int), 0)) rfl (reads_newN _ _ _ 1 3 rfl rfl) (by simp [w3, Value.oneCell']) (by simp only [maxLen]; omega) (by omega) (by simp; omega) ?_); intro A1 c1 w1 hown1 hg1 hat1)
              refine ⟨⟨k + 1, by omega, by go_num, ?_⟩, by simp [intOf]; omega⟩
              rw [HP2.out, if_pos rfl]
              exact RRel.grow HO HB (HBD.out.alloc HBD.out.size _) hown1 hg1
            | false =>
              go_wp2_with fail
              refine ⟨⟨k + 1, by omega, by go_num, ?_⟩, by simp [intOf]; omega⟩
              rw [HP2.out, if_neg (by decide)]
              exact RRel.keep ⟨A', c', rfl, HO, HB⟩ HBD.out
      · obtain rfl : k = n := by omega
        go_wp2_with fail
        go_ret
        exact ⟨A', c', rfl, own_mono HO.out (Nat.le_of_lt hws), HW.out.trans (HB.out.mono (Nat.le_of_lt hws))⟩
end Go.Proofs.YtbdicndkkenbgaaGreat
