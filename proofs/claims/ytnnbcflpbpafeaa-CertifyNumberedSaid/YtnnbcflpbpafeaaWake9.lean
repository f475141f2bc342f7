/- The examples of layer 9: awake answers true. No condition. -/
import Derived.Test.YtnnbcflpbpafeaaCheck9
namespace Go.Proofs.Ytnnbcflpbpafeaa
open Go.RowKit

def solidW (w : World) : World := (w.alloc (.cells #[.int .i64 4, .slice (some ⟨w.heap.size + 1, 0, none⟩) 4 4] 24)).alloc (.cells (solid.flatMap Tri.cells).toArray 30)
set_option maxRecDepth 100000 in
set_option maxHeartbeats 2000000 in
theorem solid_ex (w : World) : Calls Try.prog 22 #[] w fun e w' => e = .returned (.agg #[.int .i64 4, .slice (some ⟨w.heap.size + 1, 0, none⟩) 4 4]) ∧ w' = solidW w := by
  go_enter Try.func22, Try.ntmps22
  go_wp2_with fail
  refine bodyPost_ret (v := .agg #[.int .i64 4, .slice (some ⟨w.heap.size + 1, 0, none⟩) 4 4]) ?_ rfl ⟨rfl, rfl⟩
  simp [results, Try.results22, go_sem]
theorem solidW_below (w : World) : Below w.heap.size w (solidW w) := ((Below.refl _ _).alloc (Nat.le_refl _) _).alloc (by simp) _
theorem solidW_blk (w : World) : Blk (solidW w) (w.heap.size + 1) 30 (solid.flatMap Tri.cells).toArray := Blk.new_ (by simp) _ _
theorem solidW_size (w : World) : (solidW w).heap.size = w.heap.size + 2 := by simp [solidW]
theorem tris_blk {w : World} {g n : Nat} {cs : Array Value} {T : List Tri} (h : Blk w g 30 cs) (hT : ∀ (j : Nat) (u : Value), (T.flatMap Tri.cells)[j]? = some u → (cs : Array Value)[j]? = some u) (hn : T.length = n) : TrisAt w w.heap.size (some ⟨g, 0, none⟩) n T := by
  refine TrisAt.mk_ ⟨by rw [flatMap_len 3 _ (fun _ => rfl), hn], fun _ => ⟨_, rfl, h.lt, fun j u hj => ?_⟩⟩
  have e : (⟨g, 0, none⟩ : Addr).add j = ⟨g, j, none⟩ := by unfold Addr.add; split <;> simp_all
  rw [e, h.cell j]
  exact hT j u hj
def turned : List Tri := [⟨0, 1, 2⟩, ⟨0, 3, 1⟩, ⟨1, 3, 2⟩, ⟨2, 0, 3⟩]
def TrueB (w : World) (e : Ending) (w' : World) : Prop := e = .returned (.bool true) ∧ Below w.heap.size w w'

theorem is_true {N : Int} {A : Option Addr} {n c : Nat} {T : List Tri} {w : World} (hn : n ≤ 1000) (ht : TrisAt w w.heap.size A n T) (h : checkR N T = (0, 0, 0)) : Calls Try.prog 16 #[.agg #[.int .i64 N, .slice A n c]] w (TrueB w) :=
  (is_any N A n c T w hn ht).mono fun e w' ⟨he, hb⟩ => ⟨by rw [he, decide_eq_true h], hb⟩
theorem is_false {N : Int} {A : Option Addr} {n c : Nat} {T : List Tri} {w : World} (hn : n ≤ 1000) (ht : TrisAt w w.heap.size A n T) (h : checkR N T ≠ (0, 0, 0)) : Calls Try.prog 16 #[.agg #[.int .i64 N, .slice A n c]] w fun e w' => e = .returned (.bool false) ∧ Below w.heap.size w w' :=
  (is_any N A n c T w hn ht).mono fun e w' ⟨he, hb⟩ => ⟨by rw [he, decide_eq_false h], hb⟩
/-- The three soups of the examples. -/
structure Wk (w0 W : World) (gs gt gu x1 x2 x3 : Nat) : Prop where
  s : Blk W gs 30 (solid.flatMap Tri.cells).toArray
  t : Blk W gt 30 (turned.flatMap Tri.cells).toArray
  u : Blk W gu 30 (solid.flatMap Tri.cells).toArray
  b1 : Blk W x1 24 #[.int .i64 4, .slice (some ⟨gs, 0, none⟩) 4 4]
  b2 : Blk W x2 24 #[.int .i64 4, .slice (some ⟨gt, 0, none⟩) 4 4]
  b3 : Blk W x3 24 #[.int .i64 4, .slice (some ⟨gu, 0, none⟩) 3 4]
  below : Below w0.heap.size w0 W
theorem Wk.next {w0 W W' : World} {gs gt gu x1 x2 x3 : Nat} (h : Wk w0 W gs gt gu x1 x2 x3) (hb : Below W.heap.size W W') : Wk w0 W' gs gt gu x1 x2 x3 :=
  ⟨h.s.below hb h.s.lt, h.t.below hb h.t.lt, h.u.below hb h.u.lt, h.b1.below hb h.b1.lt, h.b2.below hb h.b2.lt, h.b3.below hb h.b3.lt, h.below.trans (hb.mono h.below.size)⟩
structure WkC (W : World) (gs gt gu x1 x2 x3 : Nat) : Prop where
  c0 : W.cell? ⟨x1, 0, none⟩ = some (.int .i64 4)
  c1 : W.cell? ⟨x1, 1, none⟩ = some (.slice (some ⟨gs, 0, none⟩) 4 4)
  c2 : W.cell? ⟨x2, 0, none⟩ = some (.int .i64 4)
  c3 : W.cell? ⟨x2, 1, none⟩ = some (.slice (some ⟨gt, 0, none⟩) 4 4)
  c4 : W.cell? ⟨x3, 0, none⟩ = some (.int .i64 4)
  c5 : W.cell? ⟨x3, 1, none⟩ = some (.slice (some ⟨gu, 0, none⟩) 3 4)
theorem Wk.cells {w0 W : World} {gs gt gu x1 x2 x3 : Nat} (h : Wk w0 W gs gt gu x1 x2 x3) : WkC W gs gt gu x1 x2 x3 := ⟨h.b1.cell 0, h.b1.cell 1, h.b2.cell 0, h.b2.cell 1, h.b3.cell 0, h.b3.cell 1⟩
theorem Wk.tS {w0 W : World} {gs gt gu x1 x2 x3 : Nat} (h : Wk w0 W gs gt gu x1 x2 x3) : TrisAt W W.heap.size (some ⟨gs, 0, none⟩) 4 solid := tris_blk h.s (fun j u hj => by simpa using hj) rfl
theorem Wk.tT {w0 W : World} {gs gt gu x1 x2 x3 : Nat} (h : Wk w0 W gs gt gu x1 x2 x3) : TrisAt W W.heap.size (some ⟨gt, 0, none⟩) 4 turned := tris_blk h.t (fun j u hj => by simpa using hj) rfl
theorem Wk.tU {w0 W : World} {gs gt gu x1 x2 x3 : Nat} (h : Wk w0 W gs gt gu x1 x2 x3) : TrisAt W W.heap.size (some ⟨gu, 0, none⟩) 3 [⟨0, 1, 2⟩, ⟨0, 3, 1⟩, ⟨1, 3, 2⟩] :=
  tris_blk h.u (fun j u hj => by
    have h9 : j < 9 := (List.getElem?_eq_some_iff.1 hj).1
    rw [List.getElem?_toArray]
    have : (solid.flatMap Tri.cells)[j]? = (([⟨0, 1, 2⟩, ⟨0, 3, 1⟩, ⟨1, 3, 2⟩] : List Tri).flatMap Tri.cells)[j]? := by
      rcases (by omega : j = 0 ∨ j = 1 ∨ j = 2 ∨ j = 3 ∨ j = 4 ∨ j = 5 ∨ j = 6 ∨ j = 7 ∨ j = 8) with rfl | rfl | rfl | rfl | rfl | rfl | rfl | rfl | rfl <;> rfl
    rw [this]
    exact hj) rfl

set_option maxRecDepth 100000 in
set_option maxHeartbeats 4000000 in
theorem awake_any (w : World) : Calls Try.prog 11 #[] w (TrueB w) := by
  go_enter Try.func11, Try.ntmps11
  go_wp2_with fail
  refine (solid_ex w).mono ?_
  rintro e w1 ⟨rfl, hw1⟩
  have b1 : Hid (Blk w1 (w.heap.size + 1) 30 (solid.flatMap Tri.cells).toArray) := by subst hw1; exact Lib.hid (solidW_blk w)
  have hb1 : Hid (Below w.heap.size w w1) := by subst hw1; exact Lib.hid (solidW_below w)
  have hs1 : w1.heap.size = w.heap.size + 2 := by subst hw1; exact solidW_size w
  have HS1 := Lib.hid hs1
  clear hw1 hs1
  go_wp2_with fail
  refine (solid_ex w1).mono ?_
  rintro e w2 ⟨rfl, hw2⟩
  have b2 : Hid (Blk w2 (w1.heap.size + 1) 30 (solid.flatMap Tri.cells).toArray) := by subst hw2; exact Lib.hid (solidW_blk w1)
  have hb2 : Hid (Below w1.heap.size w1 w2) := by subst hw2; exact Lib.hid (solidW_below w1)
  have hs2 : w2.heap.size = w1.heap.size + 2 := by subst hw2; exact solidW_size w1
  have HS2 := Lib.hid hs2
  have y0 := b2.out.cell 9
  have y1 := b2.out.cell 10
  have y2 := b2.out.cell 11
  have z0 := b2.out.frozen 9
  have z1 := b2.out.frozen 10
  have z2 := b2.out.frozen 11
  simp [solid, Tri.cells] at y0 y1 y2
  have hlt2 : w1.heap.size + 1 < w2.heap.size := by omega
  have hlt3 : w1.heap.size + 1 < w2.heap.size + 1 := by omega
  clear hw2 hs2
  go_wp2_with fail
  obtain ⟨V, hV⟩ : ∃ V, V = (((((w2.setCell ⟨w1.heap.size + 1, 9, none⟩ (.int .i64 2)).setCell ⟨w1.heap.size + 1, 10, none⟩ (.int .i64 0)).setCell ⟨w1.heap.size + 1, 11, none⟩ (.int .i64 3)).alloc (.cells #[.int .i64 4, .slice (some ⟨w.heap.size + 1, 0, none⟩) 4 4] 24)).alloc (.cells #[.int .i64 4, .slice (some ⟨w1.heap.size + 1, 0, none⟩) 4 4] 24)) := ⟨_, rfl⟩
  have hs1 := HS1.out
  have hs2 := HS2.out
  have hT : Hid (Blk V (w1.heap.size + 1) 30 (turned.flatMap Tri.cells).toArray) := by subst hV; exact Lib.hid (((((b2.out.set_ 9 _).set_ 10 _).set_ 11 _).alloc _).alloc _)
  have hS : Hid (Blk V (w.heap.size + 1) 30 (solid.flatMap Tri.cells).toArray) := by
    subst hV
    have h0 := b1.out.below hb2.out (by omega)
    exact Lib.hid (((((h0.far (p := ⟨w1.heap.size + 1, 9, none⟩) (by simp; omega) _).far (p := ⟨w1.heap.size + 1, 10, none⟩) (by simp; omega) _).far (p := ⟨w1.heap.size + 1, 11, none⟩) (by simp; omega) _).alloc _).alloc _)
  have hX1 : Hid (Blk V w2.heap.size 24 #[.int .i64 4, .slice (some ⟨w.heap.size + 1, 0, none⟩) 4 4]) := by subst hV; exact Lib.hid ((Blk.new_ (by simp [World.setCell]) _ _).alloc _)
  have hX2 : Hid (Blk V (w2.heap.size + 1) 24 #[.int .i64 4, .slice (some ⟨w1.heap.size + 1, 0, none⟩) 4 4]) := by subst hV; exact Lib.hid (Blk.new_ (by simp [World.setCell]) _ _)
  have hVB : Hid (Below w.heap.size w V) := by
    subst hV
    exact Lib.hid ((((((hb1.out.trans (hb2.out.mono (by omega))).setCell (p := ⟨w1.heap.size + 1, 9, none⟩) (by simp; omega) _).setCell (p := ⟨w1.heap.size + 1, 10, none⟩) (by simp; omega) _).setCell (p := ⟨w1.heap.size + 1, 11, none⟩) (by simp; omega) _).alloc (by simp [World.setCell]; omega) _).alloc (by simp [World.setCell]; omega) _)
  rw [← hV]
  generalize w.heap.size + 1 = gs at *
  generalize w1.heap.size + 1 = gt at *
  generalize w2.heap.size = x1 at *
  clear hV hs1 hs2 HS1 HS2 y0 y1 y2 z0 z1 z2 hlt2 hlt3 b1 b2 hb1 hb2
  refine (solid_ex V).mono ?_
  rintro e w3 ⟨rfl, hw3⟩
  have b3 : Hid (Blk w3 (V.heap.size + 1) 30 (solid.flatMap Tri.cells).toArray) := by subst hw3; exact Lib.hid (solidW_blk V)
  have hb3 : Hid (Below V.heap.size V w3) := by subst hw3; exact Lib.hid (solidW_below V)
  clear hw3
  have HT := Lib.hid (hT.out.below hb3.out hT.out.lt)
  have HS := Lib.hid (hS.out.below hb3.out hS.out.lt)
  have HX1 := Lib.hid (hX1.out.below hb3.out hX1.out.lt)
  have HX2 := Lib.hid (hX2.out.below hb3.out hX2.out.lt)
  have HB := Lib.hid (hVB.out.trans (hb3.out.mono hVB.out.size))
  generalize V.heap.size + 1 = gu at *
  clear hT hS hX1 hX2 hVB hb3
  have q0 := HX1.out.cell 0
  have q1 := HX1.out.cell 1
  simp at q0 q1
  have l1 := HX1.out.lt
  go_wp2_with fail
  have HW : Hid (Wk w (w3.alloc (.cells #[.int .i64 4, .slice (some ⟨gu, 0, none⟩) 3 4] 24)) gs gt gu x1 (x1 + 1) w3.heap.size) :=
    Lib.hid ⟨HS.out.alloc _, HT.out.alloc _, b3.out.alloc _, HX1.out.alloc _, HX2.out.alloc _, Blk.new _ _ _, HB.out.alloc HB.out.size _⟩
  generalize w3.alloc (.cells #[.int .i64 4, .slice (some ⟨gu, 0, none⟩) 3 4] 24) = U at *
  generalize w3.heap.size = x3 at *
  generalize x1 + 1 = x2 at *
  clear q0 q1 l1 HX1 HX2 b3 HS HT HB
  refine (is_true (by omega) HW.out.tS (by unfold checkR; rw [solid_is]; rfl)).mono ?_
  rintro e w4 ⟨rfl, hb⟩
  have HW4 := Lib.hid (HW.out.next hb)
  obtain ⟨c0, c1, c2, c3, c4, c5⟩ := HW4.out.cells
  clear hb HW
  go_wp2_with fail
  refine (check_any 4 _ 4 4 solid w4 (by omega) HW4.out.tS).mono ?_
  rintro e w5 ⟨rfl, hb⟩
  have h0 : checkR 4 solid = (0, 0, 0) := by unfold checkR; rw [solid_is]; rfl
  have HW5 := Lib.hid (HW4.out.next hb)
  rw [h0]
  unfold wv
  clear h0 hb HW4 c0 c1 c2 c3 c4 c5
  obtain ⟨c0, c1, c2, c3, c4, c5⟩ := HW5.out.cells
  go_wp2_with fail
  refine (check_any 4 _ 4 4 turned w5 (by omega) HW5.out.tT).mono ?_
  rintro e w6 ⟨rfl, hb⟩
  have HW6 := Lib.hid (HW5.out.next hb)
  have HTU := Lib.hid turned_is
  generalize hx : checkR 4 turned = x at *
  have hx' : checkR 4 [⟨0, 1, 2⟩, ⟨0, 3, 1⟩, ⟨1, 3, 2⟩, ⟨2, 0, 3⟩] = x := hx
  rw [hx'] at HTU
  obtain ⟨xa, xb, xc⟩ := x
  have hxa : xa = 3 := HTU.out
  subst hxa
  have HNX := Lib.hid hx
  unfold wv
  clear hb HW5 hx hx' HTU c0 c1 c2 c3 c4 c5
  have hfl : ∀ w, (Instr.field 34 (.agg #[.int .i64 3, .int .i64 xb, .int .i64 xc]) 0).run Try.prog w = .ok (.int .i64 3) w := fun _ => by kernel_rfl
  obtain ⟨c0, c1, c2, c3, c4, c5⟩ := HW6.out.cells
  go_wp2_with fail
  refine (is_false (by omega) HW6.out.tT (by rw [HNX.out]; intro h; injection h with h; cases h)).mono ?_
  rintro e w7 ⟨rfl, hb⟩
  have HW7 := Lib.hid (HW6.out.next hb)
  clear hb HW6 c0 c1 c2 c3 c4 c5
  obtain ⟨c0, c1, c2, c3, c4, c5⟩ := HW7.out.cells
  go_wp2_with fail
  refine (is_true (by omega) HW7.out.tU (by unfold checkR; rw [open_is]; rfl)).mono ?_
  rintro e w8 ⟨rfl, hb⟩
  have HW8 := Lib.hid (HW7.out.next hb)
  clear hb HW7 c0 c1 c2 c3 c4 c5
  go_wp2_with fail
  have hbl : Blk (w8.alloc (.cells #[.int .i64 0, .int .i64 1, .int .i64 2, .int .i64 2, .int .i64 3, .int .i64 4] 30)) w8.heap.size 30 #[.int .i64 0, .int .i64 1, .int .i64 2, .int .i64 2, .int .i64 3, .int .i64 4] := Blk.new _ _ _
  refine (check_any 5 _ 2 2 [⟨0, 1, 2⟩, ⟨2, 3, 4⟩] _ (by omega) (tris_blk hbl (fun j u hj => by simpa [Tri.cells] using hj) rfl)).mono ?_
  rintro e w9 ⟨rfl, hb⟩
  have h9 : Below w.heap.size w w9 := (HW8.out.below.alloc HW8.out.below.size _).trans (hb.mono (by have := HW8.out.below.size; simp; omega))
  have H9 := Lib.hid h9
  rw [pinch_is]
  unfold wv
  clear hb hbl h9
  go_wp2_with fail
  go_ret
  exact ⟨rfl, H9.out⟩
end Go.Proofs.Ytnnbcflpbpafeaa
