/- PredictPlane, walked. No condition. -/
import Derived.Test.YtcpfolojfdnojaaWake28
import Derived.Test.YtcpfolojfdnojaaPointC
namespace Go.Proofs.Ytcpfolojfdnojaa
open Go.RowKit

set_option linter.unusedSimpArgs false
set_option linter.unusedVariables false
theorem pt_facts {w : World} {g : Nat} {a b c : Value} (h : Blk w g 36 #[a, b, c]) : w.cell? ⟨g, 0, none⟩ = some a ∧ w.cell? ⟨g, 1, none⟩ = some b ∧ w.cell? ⟨g, 2, none⟩ = some c ∧ True := ⟨h.cell 0, h.cell 1, h.cell 2, trivial⟩
theorem Blk.far5 {w : World} {g b i0 i1 i2 i3 i4 : Nat} {t : TypeId} {cs : Array Value} (h : Blk w g t cs) (hn : g ≠ b) (u0 u1 u2 u3 u4 : Value) : Blk (((((w.setCell ⟨b, i0, none⟩ u0).setCell ⟨b, i1, none⟩ u1).setCell ⟨b, i2, none⟩ u2).setCell ⟨b, i3, none⟩ u3).setCell ⟨b, i4, none⟩ u4) g t cs :=
  ((((h.far hn _).far hn _).far hn _).far hn _).far hn _
theorem plane_row5 {w : World} {gp : Nat} {a0 a1 a2 b0 b1 b2 c0 c1 c2 : Int} (h : Blk w gp 43 #[.int .i64 (a0), .int .i64 (a1), .int .i64 (a2), .int .i64 (a0 + b0), .int .i64 (a1 + b1), .int .i64 (a2 + b2), .int .i64 (a0 + c0), .int .i64 (a1 + c1), .int .i64 (a2 + c2), .int .i64 (a0 + b0 + c0), .int .i64 (a1 + b1 + c1), .int .i64 (a2 + b2 + c2), .int .i64 (a0), .int .i64 (a1), .int .i64 (a2)]) : TrisAt w w.heap.size (some ⟨gp, 0, none⟩) 5 [⟨a0, a1, a2⟩, ⟨a0 + b0, a1 + b1, a2 + b2⟩, ⟨a0 + c0, a1 + c1, a2 + c2⟩, ⟨a0 + b0 + c0, a1 + b1 + c1, a2 + b2 + c2⟩, ⟨a0, a1, a2⟩] := by
  refine TrisAt.mk_ ?_
  have h1 := (reads_blk (size := 3) (n := 5) h rfl).more (B' := w.heap.size) (by have := h.lt; omega)
  simpa [Tri.cells] using h1
theorem plane_row3 {w : World} {gp : Nat} {a0 a1 a2 b0 b1 b2 c0 c1 c2 : Int} (h : Blk w gp 43 #[.int .i64 (a0), .int .i64 (a1), .int .i64 (a2), .int .i64 (a0 + b0), .int .i64 (a1 + b1), .int .i64 (a2 + b2), .int .i64 (a0 + c0), .int .i64 (a1 + c1), .int .i64 (a2 + c2), .int .i64 (a0 + b0 + c0), .int .i64 (a1 + b1 + c1), .int .i64 (a2 + b2 + c2), .int .i64 (a0), .int .i64 (a1), .int .i64 (a2)]) : TrisAt w w.heap.size (some ⟨gp, 0, none⟩) 3 [⟨a0, a1, a2⟩, ⟨a0 + b0, a1 + b1, a2 + b2⟩, ⟨a0 + c0, a1 + c1, a2 + c2⟩] := by
  refine TrisAt.mk_ ?_
  have h1 := ((reads_blk (size := 3) (n := 5) h rfl).more (B' := w.heap.size) (by have := h.lt; omega)).take (k := 3) (by omega)
  simpa [Tri.cells] using h1
theorem plane_one {a b c : Int} (ha : -1000 < a ∧ a < 1000) (hb : -1000 < b ∧ b < 1000) (hc : -1000 < c ∧ c < 1000) : cutI (cutI (a + b) + cutI (a + c) - cutI a) = a + b + c ∧ cutI (Int.tdiv (2 * cutI (a + b) + 2 * cutI (a + c) - cutI a - cutI a) 2) = a + b + c := by
  rw [cut_in (x := a + b) (by omega) (by omega), cut_in (x := a + c) (by omega) (by omega), cut_in (x := a) (by omega) (by omega)]
  constructor
  · rw [cut_in (by omega) (by omega)]
    omega
  · rw [show 2 * (a + b) + 2 * (a + c) - a - a = 2 * (a + b + c) by omega, Int.mul_tdiv_cancel_left _ (by omega), cut_in (by omega) (by omega)]
theorem plane_law {a0 a1 a2 b0 b1 b2 c0 c1 c2 : Int} (la0 : -1000 < a0 ∧ a0 < 1000) (la1 : -1000 < a1 ∧ a1 < 1000) (la2 : -1000 < a2 ∧ a2 < 1000) (lb0 : -1000 < b0 ∧ b0 < 1000) (lb1 : -1000 < b1 ∧ b1 < 1000) (lb2 : -1000 < b2 ∧ b2 < 1000) (lc0 : -1000 < c0 ∧ c0 < 1000) (lc1 : -1000 < c1 ∧ c1 < 1000) (lc2 : -1000 < c2 ∧ c2 < 1000) :
    ∀ i, i < 3 → pointL 2 ⟨2, 1, 2, 0, -1⟩ [⟨a0, a1, a2⟩, ⟨a0 + b0, a1 + b1, a2 + b2⟩, ⟨a0 + c0, a1 + c1, a2 + c2⟩] i = (if i = 0 then a0 + b0 + c0 else if i = 1 then a1 + b1 + c1 else a2 + b2 + c2) ∧ pointL 3 ⟨2, 1, 2, 0, -1⟩ [⟨a0, a1, a2⟩, ⟨a0 + b0, a1 + b1, a2 + b2⟩, ⟨a0 + c0, a1 + c1, a2 + c2⟩] i = (if i = 0 then a0 + b0 + c0 else if i = 1 then a1 + b1 + c1 else a2 + b2 + c2) ∧ pointL 3 ⟨2, 1, 2, 0, 4⟩ [⟨a0, a1, a2⟩, ⟨a0 + b0, a1 + b1, a2 + b2⟩, ⟨a0 + c0, a1 + c1, a2 + c2⟩, ⟨a0 + b0 + c0, a1 + b1 + c1, a2 + b2 + c2⟩, ⟨a0, a1, a2⟩] i = (if i = 0 then a0 + b0 + c0 else if i = 1 then a1 + b1 + c1 else a2 + b2 + c2) := by
  have r1 : ruleOf 2 ⟨2, 1, 2, 0, -1⟩ 3 = .across := by decide
  have r2 : ruleOf 3 ⟨2, 1, 2, 0, -1⟩ 3 = .across := by decide
  have r3 : ruleOf 3 ⟨2, 1, 2, 0, 4⟩ 5 = .double := by decide
  intro i hi
  unfold pointL
  simp only [List.length_cons, List.length_nil]
  rw [show (0 + 1 + 1 + 1 : Nat) = 3 from rfl, show (3 + 1 + 1 : Nat) = 5 from rfl, r1, r2, r3]
  rcases (by omega : i = 0 ∨ i = 1 ∨ i = 2) with rfl | rfl | rfl
  · exact ⟨(plane_one la0 lb0 lc0).1, (plane_one la0 lb0 lc0).1, (plane_one la0 lb0 lc0).2⟩
  · exact ⟨(plane_one la1 lb1 lc1).1, (plane_one la1 lb1 lc1).1, (plane_one la1 lb1 lc1).2⟩
  · exact ⟨(plane_one la2 lb2 lc2).1, (plane_one la2 lb2 lc2).1, (plane_one la2 lb2 lc2).2⟩
theorem tmod_le (x n : Int) (h : 0 < n) : -n < Int.tmod x n ∧ Int.tmod x n < n := ⟨by have := Int.lt_tmod_of_pos x h; omega, Int.tmod_lt_of_pos x h⟩
attribute [local irreducible] Blk LRow World.alloc World.setCell World.cell? World.frozen? MapV
set_option maxRecDepth 100000 in
set_option maxHeartbeats 8000000 in
theorem planeLaw_any (o0 o1 o2 x0 x1 x2 y0 y1 y2 : Int) (w : World) :
    Calls Try.prog 7 #[.agg #[.int .i64 o0, .int .i64 o1, .int .i64 o2], .agg #[.int .i64 x0, .int .i64 x1, .int .i64 x2], .agg #[.int .i64 y0, .int .i64 y1, .int .i64 y2]] w (BoolPost w true) := by
  obtain ⟨V, hV⟩ : ∃ V, V = ((w.alloc (.cells #[.int .i64 o0, .int .i64 o1, .int .i64 o2] 36)).alloc (.cells #[.int .i64 x0, .int .i64 x1, .int .i64 x2] 36)).alloc (.cells #[.int .i64 y0, .int .i64 y1, .int .i64 y2] 36) := ⟨_, rfl⟩
  have GQ0 : Hid (Blk V w.heap.size 36 #[.int .i64 o0, .int .i64 o1, .int .i64 o2]) := by subst hV; exact Lib.hid (((Blk.new _ _ _).alloc _).alloc _)
  have GX0 : Hid (Blk V (w.heap.size + 1) 36 #[.int .i64 x0, .int .i64 x1, .int .i64 x2]) := by subst hV; exact Lib.hid ((blk_new1 _ _ _ _).alloc _)
  have GY0 : Hid (Blk V (w.heap.size + 1 + 1) 36 #[.int .i64 y0, .int .i64 y1, .int .i64 y2]) := by subst hV; exact Lib.hid (Blk.new_ (by simp) _ _)
  have HB0 : Hid (Below w.heap.size w V) := by subst hV; exact Lib.hid (bw_alloc (bw_alloc (bw_alloc (Below.refl _ _) _) _) _)
  go_enter Try.func7, Try.ntmps7
  go_upto_region 1 with (fail)
  rw [← hV]
  clear hV
  obtain ⟨gq, hgq⟩ : ∃ g, g = w.heap.size := ⟨_, rfl⟩
  obtain ⟨gx, hgx⟩ : ∃ g, g = w.heap.size + 1 := ⟨_, rfl⟩
  obtain ⟨gy, hgy⟩ : ∃ g, g = w.heap.size + 1 + 1 := ⟨_, rfl⟩
  rw [← hgy] at GY0 ⊢
  rw [← hgx] at GX0 ⊢
  rw [← hgq] at GQ0
  simp only [← hgq]
  clear hgq hgx hgy
  go_wp2_with fail
  refine (awake_any _).mono ?_
  rintro e w1 ⟨rfl, hb⟩
  have GQ1 := Lib.hid (blk_call GQ0.out hb)
  have GX1 := Lib.hid (blk_call GX0.out hb)
  have GY1 := Lib.hid (blk_call GY0.out hb)
  have HB1 := Lib.hid (bw_call HB0.out hb)
  clear hb HB0 GQ0 GX0 GY0
  obtain ⟨r0, hr0⟩ : ∃ r0, r0 = w1.alloc (.cells #[.int .i64 0, .int .i64 0, .int .i64 0, .int .i64 0, .int .i64 0, .int .i64 0, .int .i64 0, .int .i64 0, .int .i64 0, .int .i64 0, .int .i64 0, .int .i64 0, .int .i64 0, .int .i64 0, .int .i64 0] 43) := ⟨_, rfl⟩
  have GPr0 : Hid (Blk r0 w1.heap.size 43 #[.int .i64 0, .int .i64 0, .int .i64 0, .int .i64 0, .int .i64 0, .int .i64 0, .int .i64 0, .int .i64 0, .int .i64 0, .int .i64 0, .int .i64 0, .int .i64 0, .int .i64 0, .int .i64 0, .int .i64 0]) := by subst hr0; exact Lib.hid (Blk.new _ _ _)
  have GQr0 : Hid (Blk r0 gq 36 #[.int .i64 o0, .int .i64 o1, .int .i64 o2]) := by subst hr0; exact Lib.hid (GQ1.out.alloc _)
  have GXr0 : Hid (Blk r0 gx 36 #[.int .i64 x0, .int .i64 x1, .int .i64 x2]) := by subst hr0; exact Lib.hid (GX1.out.alloc _)
  have GYr0 : Hid (Blk r0 gy 36 #[.int .i64 y0, .int .i64 y1, .int .i64 y2]) := by subst hr0; exact Lib.hid (GY1.out.alloc _)
  have HBr0 : Hid (Below w.heap.size w r0) := by subst hr0; exact Lib.hid (bw_alloc HB1.out _)
  have HN : Hid (gq ≠ w1.heap.size ∧ gx ≠ w1.heap.size ∧ gy ≠ w1.heap.size) := Lib.hid ⟨Nat.ne_of_lt GQ1.out.lt, Nat.ne_of_lt GX1.out.lt, Nat.ne_of_lt GY1.out.lt⟩
  have HGP : Hid (w.heap.size ≤ w1.heap.size) := Lib.hid HB1.out.size
  go_wp2_with fail
  rw [← hr0]
  generalize w1.heap.size = gp at *
  clear hr0 GQ1 GX1 GY1 HB1
  obtain ⟨a0, Ha0⟩ : ∃ a0, Int.tmod o0 1000 = a0 := ⟨_, rfl⟩
  have la0 := tmod_le o0 1000 (by omega)
  rw [Ha0] at la0
  obtain ⟨a1, Ha1⟩ : ∃ a1, Int.tmod o1 1000 = a1 := ⟨_, rfl⟩
  have la1 := tmod_le o1 1000 (by omega)
  rw [Ha1] at la1
  obtain ⟨a2, Ha2⟩ : ∃ a2, Int.tmod o2 1000 = a2 := ⟨_, rfl⟩
  have la2 := tmod_le o2 1000 (by omega)
  rw [Ha2] at la2
  obtain ⟨b0, Hb0⟩ : ∃ b0, Int.tmod x0 1000 = b0 := ⟨_, rfl⟩
  have lb0 := tmod_le x0 1000 (by omega)
  rw [Hb0] at lb0
  obtain ⟨b1, Hb1⟩ : ∃ b1, Int.tmod x1 1000 = b1 := ⟨_, rfl⟩
  have lb1 := tmod_le x1 1000 (by omega)
  rw [Hb1] at lb1
  obtain ⟨b2, Hb2⟩ : ∃ b2, Int.tmod x2 1000 = b2 := ⟨_, rfl⟩
  have lb2 := tmod_le x2 1000 (by omega)
  rw [Hb2] at lb2
  obtain ⟨c0, Hc0⟩ : ∃ c0, Int.tmod y0 1000 = c0 := ⟨_, rfl⟩
  have lc0 := tmod_le y0 1000 (by omega)
  rw [Hc0] at lc0
  obtain ⟨c1, Hc1⟩ : ∃ c1, Int.tmod y1 1000 = c1 := ⟨_, rfl⟩
  have lc1 := tmod_le y1 1000 (by omega)
  rw [Hc1] at lc1
  obtain ⟨c2, Hc2⟩ : ∃ c2, Int.tmod y2 1000 = c2 := ⟨_, rfl⟩
  have lc2 := tmod_le y2 1000 (by omega)
  rw [Hc2] at lc2
  have u0 : IntKind.i64.wrap (a0 + b0) = a0 + b0 := IntWalk.i64_in _ (by omega)
  have v0 : IntKind.i64.wrap (a0 + c0) = a0 + c0 := IntWalk.i64_in _ (by omega)
  have z0 : IntKind.i64.wrap (a0 + b0 + c0) = a0 + b0 + c0 := IntWalk.i64_in _ (by omega)
  have wa0 : IntKind.i64.wrap a0 = a0 := IntWalk.i64_in _ (by omega)
  have wb0 : IntKind.i64.wrap b0 = b0 := IntWalk.i64_in _ (by omega)
  have wc0 : IntKind.i64.wrap c0 = c0 := IntWalk.i64_in _ (by omega)
  have u1 : IntKind.i64.wrap (a1 + b1) = a1 + b1 := IntWalk.i64_in _ (by omega)
  have v1 : IntKind.i64.wrap (a1 + c1) = a1 + c1 := IntWalk.i64_in _ (by omega)
  have z1 : IntKind.i64.wrap (a1 + b1 + c1) = a1 + b1 + c1 := IntWalk.i64_in _ (by omega)
  have wa1 : IntKind.i64.wrap a1 = a1 := IntWalk.i64_in _ (by omega)
  have wb1 : IntKind.i64.wrap b1 = b1 := IntWalk.i64_in _ (by omega)
  have wc1 : IntKind.i64.wrap c1 = c1 := IntWalk.i64_in _ (by omega)
  have u2 : IntKind.i64.wrap (a2 + b2) = a2 + b2 := IntWalk.i64_in _ (by omega)
  have v2 : IntKind.i64.wrap (a2 + c2) = a2 + c2 := IntWalk.i64_in _ (by omega)
  have z2 : IntKind.i64.wrap (a2 + b2 + c2) = a2 + b2 + c2 := IntWalk.i64_in _ (by omega)
  have wa2 : IntKind.i64.wrap a2 = a2 := IntWalk.i64_in _ (by omega)
  have wb2 : IntKind.i64.wrap b2 = b2 := IntWalk.i64_in _ (by omega)
  have wc2 : IntKind.i64.wrap c2 = c2 := IntWalk.i64_in _ (by omega)
  refine wp_loop_rounds 4 ?_
  rw [rounds_succ]
  go_upto_region 7 with (fail)
  refine wp_region_till (S := fun w' => w'.cell? ⟨gq, 0, none⟩ = some (.int .i64 o0) ∧ w'.cell? ⟨gq, 1, none⟩ = some (.int .i64 o1) ∧ w'.cell? ⟨gq, 2, none⟩ = some (.int .i64 o2) ∧ w'.cell? ⟨gx, 0, none⟩ = some (.int .i64 x0) ∧ w'.cell? ⟨gx, 1, none⟩ = some (.int .i64 x1) ∧ w'.cell? ⟨gx, 2, none⟩ = some (.int .i64 x2) ∧ w'.cell? ⟨gy, 0, none⟩ = some (.int .i64 y0) ∧ w'.cell? ⟨gy, 1, none⟩ = some (.int .i64 y1) ∧ w'.cell? ⟨gy, 2, none⟩ = some (.int .i64 y2)) 14 (by kernel_rfl) ⟨(pt_facts GQr0.out.drew).1, (pt_facts GQr0.out.drew).2.1, (pt_facts GQr0.out.drew).2.2.1, (pt_facts GXr0.out.drew).1, (pt_facts GXr0.out.drew).2.1, (pt_facts GXr0.out.drew).2.2.1, (pt_facts GYr0.out.drew).1, (pt_facts GYr0.out.drew).2.1, (pt_facts GYr0.out.drew).2.2.1⟩ (fun hHeld => ?_)
  refine Till.take (i := 0) (v := ?vt1) rfl (by kernel_rfl) (by kernel_rfl) (by kernel_rfl) (by kernel_rfl) (fun _ _ _ h => h) (Or.inl ⟨by rfl, ?ht1⟩) (by assumption) ?restt1
  case ht1 => (intro w hSw; (try dsimp only at hSw); go_simp; try with_reducible rfl)
  (try simp only [Act.put, List.setIfInBounds_toArray, List.set_cons_zero, List.set_cons_succ])
  refine Till.take (i := 1) (v := ?vt2) rfl (by kernel_rfl) (by kernel_rfl) (by kernel_rfl) (by kernel_rfl) (fun _ _ _ h => h) (Or.inl ⟨by rfl, ?ht2⟩) (by assumption) ?restt2
  case ht2 => (intro w hSw; (try dsimp only at hSw); go_simp; try with_reducible rfl)
  (try simp only [Act.put, List.setIfInBounds_toArray, List.set_cons_zero, List.set_cons_succ])
  refine Till.take (i := 2) (v := ?vt3) rfl (by kernel_rfl) (by kernel_rfl) (by kernel_rfl) (by kernel_rfl) (fun _ _ _ h => h) (Or.inl ⟨by rfl, ?ht3⟩) (by assumption) ?restt3
  case ht3 => (intro w hSw; (try dsimp only at hSw); go_simp; try with_reducible rfl)
  (try simp only [Act.put, List.setIfInBounds_toArray, List.set_cons_zero, List.set_cons_succ])
  refine Till.take (i := 3) (v := ?vt4) rfl (by kernel_rfl) (by kernel_rfl) (by kernel_rfl) (by kernel_rfl) (fun _ _ _ h => h) (Or.inl ⟨by rfl, ?ht4⟩) (by assumption) ?restt4
  case ht4 => (intro w hSw; (try dsimp only at hSw); go_simp; try with_reducible rfl)
  (try simp only [Act.put, List.setIfInBounds_toArray, List.set_cons_zero, List.set_cons_succ])
  refine Till.take (i := 4) (v := ?vt5) rfl (by kernel_rfl) (by kernel_rfl) (by kernel_rfl) (by kernel_rfl) (fun _ _ _ h => h) (Or.inl ⟨by rfl, ?ht5⟩) (by assumption) ?restt5
  case ht5 => (intro w hSw; (try dsimp only at hSw); go_simp; try with_reducible rfl)
  (try simp only [Act.put, List.setIfInBounds_toArray, List.set_cons_zero, List.set_cons_succ])
  refine Till.take (i := 5) (v := ?vt6) rfl (by kernel_rfl) (by kernel_rfl) (by kernel_rfl) (by kernel_rfl) (fun _ _ _ h => h) (Or.inl ⟨by rfl, ?ht6⟩) (by assumption) ?restt6
  case ht6 => (intro w hSw; (try dsimp only at hSw); go_simp; try with_reducible rfl)
  (try simp only [Act.put, List.setIfInBounds_toArray, List.set_cons_zero, List.set_cons_succ])
  refine Till.take (i := 6) (v := ?vt7) rfl (by kernel_rfl) (by kernel_rfl) (by kernel_rfl) (by kernel_rfl) (fun _ _ _ h => h) (Or.inl ⟨by rfl, ?ht7⟩) (by assumption) ?restt7
  case ht7 => (intro w hSw; (try dsimp only at hSw); go_simp; try with_reducible rfl)
  (try simp only [Act.put, List.setIfInBounds_toArray, List.set_cons_zero, List.set_cons_succ])
  refine Till.take (i := 7) (v := ?vt8) rfl (by kernel_rfl) (by kernel_rfl) (by kernel_rfl) (by kernel_rfl) (fun _ _ _ h => h) (Or.inl ⟨by rfl, ?ht8⟩) (by assumption) ?restt8
  case ht8 => (intro w hSw; (try dsimp only at hSw); go_simp; try with_reducible rfl)
  (try simp only [Act.put, List.setIfInBounds_toArray, List.set_cons_zero, List.set_cons_succ])
  refine Till.take (i := 8) (v := ?vt9) rfl (by kernel_rfl) (by kernel_rfl) (by kernel_rfl) (by kernel_rfl) (fun _ _ _ h => h) (Or.inl ⟨by rfl, ?ht9⟩) (by assumption) ?restt9
  case ht9 => (intro w hSw; (try dsimp only at hSw); go_simp; try with_reducible rfl)
  (try simp only [Act.put, List.setIfInBounds_toArray, List.set_cons_zero, List.set_cons_succ])
  refine Till.take (i := 9) (v := ?vt10) rfl (by kernel_rfl) (by kernel_rfl) (by kernel_rfl) (by kernel_rfl) (fun _ _ _ h => h) (Or.inl ⟨by rfl, ?ht10⟩) (by assumption) ?restt10
  case ht10 => (intro w hSw; (try dsimp only at hSw); go_simp; try with_reducible rfl)
  (try simp only [Act.put, List.setIfInBounds_toArray, List.set_cons_zero, List.set_cons_succ])
  refine Till.take (i := 10) (v := ?vt11) rfl (by kernel_rfl) (by kernel_rfl) (by kernel_rfl) (by kernel_rfl) (fun _ _ _ h => h) (Or.inl ⟨by rfl, ?ht11⟩) (by assumption) ?restt11
  case ht11 => (intro w hSw; (try dsimp only at hSw); go_simp; try with_reducible rfl)
  (try simp only [Act.put, List.setIfInBounds_toArray, List.set_cons_zero, List.set_cons_succ])
  refine Till.take (i := 11) (v := ?vt12) rfl (by kernel_rfl) (by kernel_rfl) (by kernel_rfl) (by kernel_rfl) (fun _ _ _ h => h) (Or.inl ⟨by rfl, ?ht12⟩) (by assumption) ?restt12
  case ht12 => (intro w hSw; (try dsimp only at hSw); go_simp; try with_reducible rfl)
  (try simp only [Act.put, List.setIfInBounds_toArray, List.set_cons_zero, List.set_cons_succ])
  refine Till.take (i := 12) (v := ?vt13) rfl (by kernel_rfl) (by kernel_rfl) (by kernel_rfl) (by kernel_rfl) (fun _ _ _ h => h) (Or.inl ⟨by rfl, ?ht13⟩) (by assumption) ?restt13
  case ht13 => (intro w hSw; (try dsimp only at hSw); go_simp; try with_reducible rfl)
  (try simp only [Act.put, List.setIfInBounds_toArray, List.set_cons_zero, List.set_cons_succ])
  refine Till.take (i := 13) (v := ?vt14) rfl (by kernel_rfl) (by kernel_rfl) (by kernel_rfl) (by kernel_rfl) (fun _ _ _ h => h) (Or.inl ⟨by rfl, ?ht14⟩) (by assumption) ?restt14
  case ht14 => (intro w hSw; (try dsimp only at hSw); go_simp; try with_reducible rfl)
  (try simp only [Act.put, List.setIfInBounds_toArray, List.set_cons_zero, List.set_cons_succ])
  refine Till.ready (rs := [14]) (by kernel_rfl) (by simp) ?_
  refine TillEach.last rfl (fun K hK => ?_)
  · go_simp
    refine hK.out _ _ ?_
    clear hK K
    (try simp only [Act.put, List.setIfInBounds_toArray, List.set_cons_zero, List.set_cons_succ])
    refine Till.done (by kernel_rfl) ?_ _
    obtain ⟨s0, hs0⟩ : ∃ s0, s0 = r0.drew := ⟨_, rfl⟩
    have GQs0 := Lib.hid (GQr0.out.drew)
    have GXs0 := Lib.hid (GXr0.out.drew)
    have GYs0 := Lib.hid (GYr0.out.drew)
    have GPs0 := Lib.hid (GPr0.out.drew)
    have HBs0 := Lib.hid (bw_drew HBr0.out)
    rw [← hs0] at GQs0 GXs0 GYs0 GPs0 HBs0 ⊢
    clear hs0 GQr0 GXr0 GYr0 GPr0 HBr0
    have cy0 := GPs0.out.cell 0
    have cy1 := GPs0.out.cell 3
    have cy2 := GPs0.out.cell 6
    have cy3 := GPs0.out.cell 9
    have cy4 := GPs0.out.cell 12
    simp at cy0 cy1 cy2 cy3 cy4
    have cf0 := GPs0.out.frozen 0
    have cf1 := GPs0.out.frozen 3
    have cf2 := GPs0.out.frozen 6
    have cf3 := GPs0.out.frozen 9
    have cf4 := GPs0.out.frozen 12
    have GPr1' := Lib.hid (((((GPs0.out.set_ 0 (.int .i64 (a0))).set_ 3 (.int .i64 (a0 + b0))).set_ 6 (.int .i64 (a0 + c0))).set_ 9 (.int .i64 (a0 + b0 + c0))).set_ 12 (.int .i64 (a0)))
    simp only [List.setIfInBounds_toArray, List.set_cons_zero, List.set_cons_succ] at GPr1'
    obtain ⟨r1, hr1⟩ : ∃ r1, r1 = (((((s0.setCell ⟨gp, 0, none⟩ (.int .i64 (a0))).setCell ⟨gp, 3, none⟩ (.int .i64 (a0 + b0))).setCell ⟨gp, 6, none⟩ (.int .i64 (a0 + c0))).setCell ⟨gp, 9, none⟩ (.int .i64 (a0 + b0 + c0))).setCell ⟨gp, 12, none⟩ (.int .i64 (a0))) := ⟨_, rfl⟩
    have GQr1 : Hid (Blk r1 gq 36 #[.int .i64 o0, .int .i64 o1, .int .i64 o2]) := by subst hr1; exact Lib.hid (GQs0.out.far5 HN.out.1 _ _ _ _ _)
    have GXr1 : Hid (Blk r1 gx 36 #[.int .i64 x0, .int .i64 x1, .int .i64 x2]) := by subst hr1; exact Lib.hid (GXs0.out.far5 HN.out.2.1 _ _ _ _ _)
    have GYr1 : Hid (Blk r1 gy 36 #[.int .i64 y0, .int .i64 y1, .int .i64 y2]) := by subst hr1; exact Lib.hid (GYs0.out.far5 HN.out.2.2 _ _ _ _ _)
    have GPr1 : Hid (Blk r1 gp 43 #[.int .i64 (a0), .int .i64 0, .int .i64 0, .int .i64 (a0 + b0), .int .i64 0, .int .i64 0, .int .i64 (a0 + c0), .int .i64 0, .int .i64 0, .int .i64 (a0 + b0 + c0), .int .i64 0, .int .i64 0, .int .i64 (a0), .int .i64 0, .int .i64 0]) := by subst hr1; exact GPr1'
    have HBr1 : Hid (Below w.heap.size w r1) := by subst hr1; exact Lib.hid (bw_set (bw_set (bw_set (bw_set (bw_set HBs0.out HGP.out _) HGP.out _) HGP.out _) HGP.out _) HGP.out _)
    go_wp2_with fail
    rw [rounds_succ]
    go_upto_region 7 with (fail)
    rw [← hr1]
    clear hr1 GPr1' GQs0 GXs0 GYs0 GPs0 HBs0 cy0 cy1 cy2 cy3 cy4 cf0 cf1 cf2 cf3 cf4
    refine wp_region_till (S := fun w' => w'.cell? ⟨gq, 0, none⟩ = some (.int .i64 o0) ∧ w'.cell? ⟨gq, 1, none⟩ = some (.int .i64 o1) ∧ w'.cell? ⟨gq, 2, none⟩ = some (.int .i64 o2) ∧ w'.cell? ⟨gx, 0, none⟩ = some (.int .i64 x0) ∧ w'.cell? ⟨gx, 1, none⟩ = some (.int .i64 x1) ∧ w'.cell? ⟨gx, 2, none⟩ = some (.int .i64 x2) ∧ w'.cell? ⟨gy, 0, none⟩ = some (.int .i64 y0) ∧ w'.cell? ⟨gy, 1, none⟩ = some (.int .i64 y1) ∧ w'.cell? ⟨gy, 2, none⟩ = some (.int .i64 y2)) 14 (by kernel_rfl) ⟨(pt_facts GQr1.out.drew).1, (pt_facts GQr1.out.drew).2.1, (pt_facts GQr1.out.drew).2.2.1, (pt_facts GXr1.out.drew).1, (pt_facts GXr1.out.drew).2.1, (pt_facts GXr1.out.drew).2.2.1, (pt_facts GYr1.out.drew).1, (pt_facts GYr1.out.drew).2.1, (pt_facts GYr1.out.drew).2.2.1⟩ (fun hHeld => ?_)
    refine Till.take (i := 0) (v := ?vt15) rfl (by kernel_rfl) (by kernel_rfl) (by kernel_rfl) (by kernel_rfl) (fun _ _ _ h => h) (Or.inl ⟨by rfl, ?ht15⟩) (by assumption) ?restt15
    case ht15 => (intro w hSw; (try dsimp only at hSw); go_simp; try with_reducible rfl)
    (try simp only [Act.put, List.setIfInBounds_toArray, List.set_cons_zero, List.set_cons_succ])
    refine Till.take (i := 1) (v := ?vt16) rfl (by kernel_rfl) (by kernel_rfl) (by kernel_rfl) (by kernel_rfl) (fun _ _ _ h => h) (Or.inl ⟨by rfl, ?ht16⟩) (by assumption) ?restt16
    case ht16 => (intro w hSw; (try dsimp only at hSw); go_simp; try with_reducible rfl)
    (try simp only [Act.put, List.setIfInBounds_toArray, List.set_cons_zero, List.set_cons_succ])
    refine Till.take (i := 2) (v := ?vt17) rfl (by kernel_rfl) (by kernel_rfl) (by kernel_rfl) (by kernel_rfl) (fun _ _ _ h => h) (Or.inl ⟨by rfl, ?ht17⟩) (by assumption) ?restt17
    case ht17 => (intro w hSw; (try dsimp only at hSw); go_simp; try with_reducible rfl)
    (try simp only [Act.put, List.setIfInBounds_toArray, List.set_cons_zero, List.set_cons_succ])
    refine Till.take (i := 3) (v := ?vt18) rfl (by kernel_rfl) (by kernel_rfl) (by kernel_rfl) (by kernel_rfl) (fun _ _ _ h => h) (Or.inl ⟨by rfl, ?ht18⟩) (by assumption) ?restt18
    case ht18 => (intro w hSw; (try dsimp only at hSw); go_simp; try with_reducible rfl)
    (try simp only [Act.put, List.setIfInBounds_toArray, List.set_cons_zero, List.set_cons_succ])
    refine Till.take (i := 4) (v := ?vt19) rfl (by kernel_rfl) (by kernel_rfl) (by kernel_rfl) (by kernel_rfl) (fun _ _ _ h => h) (Or.inl ⟨by rfl, ?ht19⟩) (by assumption) ?restt19
    case ht19 => (intro w hSw; (try dsimp only at hSw); go_simp; try with_reducible rfl)
    (try simp only [Act.put, List.setIfInBounds_toArray, List.set_cons_zero, List.set_cons_succ])
    refine Till.take (i := 5) (v := ?vt20) rfl (by kernel_rfl) (by kernel_rfl) (by kernel_rfl) (by kernel_rfl) (fun _ _ _ h => h) (Or.inl ⟨by rfl, ?ht20⟩) (by assumption) ?restt20
    case ht20 => (intro w hSw; (try dsimp only at hSw); go_simp; try with_reducible rfl)
    (try simp only [Act.put, List.setIfInBounds_toArray, List.set_cons_zero, List.set_cons_succ])
    refine Till.take (i := 6) (v := ?vt21) rfl (by kernel_rfl) (by kernel_rfl) (by kernel_rfl) (by kernel_rfl) (fun _ _ _ h => h) (Or.inl ⟨by rfl, ?ht21⟩) (by assumption) ?restt21
    case ht21 => (intro w hSw; (try dsimp only at hSw); go_simp; try with_reducible rfl)
    (try simp only [Act.put, List.setIfInBounds_toArray, List.set_cons_zero, List.set_cons_succ])
    refine Till.take (i := 7) (v := ?vt22) rfl (by kernel_rfl) (by kernel_rfl) (by kernel_rfl) (by kernel_rfl) (fun _ _ _ h => h) (Or.inl ⟨by rfl, ?ht22⟩) (by assumption) ?restt22
    case ht22 => (intro w hSw; (try dsimp only at hSw); go_simp; try with_reducible rfl)
    (try simp only [Act.put, List.setIfInBounds_toArray, List.set_cons_zero, List.set_cons_succ])
    refine Till.take (i := 8) (v := ?vt23) rfl (by kernel_rfl) (by kernel_rfl) (by kernel_rfl) (by kernel_rfl) (fun _ _ _ h => h) (Or.inl ⟨by rfl, ?ht23⟩) (by assumption) ?restt23
    case ht23 => (intro w hSw; (try dsimp only at hSw); go_simp; try with_reducible rfl)
    (try simp only [Act.put, List.setIfInBounds_toArray, List.set_cons_zero, List.set_cons_succ])
    refine Till.take (i := 9) (v := ?vt24) rfl (by kernel_rfl) (by kernel_rfl) (by kernel_rfl) (by kernel_rfl) (fun _ _ _ h => h) (Or.inl ⟨by rfl, ?ht24⟩) (by assumption) ?restt24
    case ht24 => (intro w hSw; (try dsimp only at hSw); go_simp; try with_reducible rfl)
    (try simp only [Act.put, List.setIfInBounds_toArray, List.set_cons_zero, List.set_cons_succ])
    refine Till.take (i := 10) (v := ?vt25) rfl (by kernel_rfl) (by kernel_rfl) (by kernel_rfl) (by kernel_rfl) (fun _ _ _ h => h) (Or.inl ⟨by rfl, ?ht25⟩) (by assumption) ?restt25
    case ht25 => (intro w hSw; (try dsimp only at hSw); go_simp; try with_reducible rfl)
    (try simp only [Act.put, List.setIfInBounds_toArray, List.set_cons_zero, List.set_cons_succ])
    refine Till.take (i := 11) (v := ?vt26) rfl (by kernel_rfl) (by kernel_rfl) (by kernel_rfl) (by kernel_rfl) (fun _ _ _ h => h) (Or.inl ⟨by rfl, ?ht26⟩) (by assumption) ?restt26
    case ht26 => (intro w hSw; (try dsimp only at hSw); go_simp; try with_reducible rfl)
    (try simp only [Act.put, List.setIfInBounds_toArray, List.set_cons_zero, List.set_cons_succ])
    refine Till.take (i := 12) (v := ?vt27) rfl (by kernel_rfl) (by kernel_rfl) (by kernel_rfl) (by kernel_rfl) (fun _ _ _ h => h) (Or.inl ⟨by rfl, ?ht27⟩) (by assumption) ?restt27
    case ht27 => (intro w hSw; (try dsimp only at hSw); go_simp; try with_reducible rfl)
    (try simp only [Act.put, List.setIfInBounds_toArray, List.set_cons_zero, List.set_cons_succ])
    refine Till.take (i := 13) (v := ?vt28) rfl (by kernel_rfl) (by kernel_rfl) (by kernel_rfl) (by kernel_rfl) (fun _ _ _ h => h) (Or.inl ⟨by rfl, ?ht28⟩) (by assumption) ?restt28
    case ht28 => (intro w hSw; (try dsimp only at hSw); go_simp; try with_reducible rfl)
    (try simp only [Act.put, List.setIfInBounds_toArray, List.set_cons_zero, List.set_cons_succ])
    refine Till.ready (rs := [14]) (by kernel_rfl) (by simp) ?_
    refine TillEach.last rfl (fun K hK => ?_)
    · go_simp
      refine hK.out _ _ ?_
      clear hK K
      (try simp only [Act.put, List.setIfInBounds_toArray, List.set_cons_zero, List.set_cons_succ])
      refine Till.done (by kernel_rfl) ?_ _
      obtain ⟨s1, hs1⟩ : ∃ s1, s1 = r1.drew := ⟨_, rfl⟩
      have GQs1 := Lib.hid (GQr1.out.drew)
      have GXs1 := Lib.hid (GXr1.out.drew)
      have GYs1 := Lib.hid (GYr1.out.drew)
      have GPs1 := Lib.hid (GPr1.out.drew)
      have HBs1 := Lib.hid (bw_drew HBr1.out)
      rw [← hs1] at GQs1 GXs1 GYs1 GPs1 HBs1 ⊢
      clear hs1 GQr1 GXr1 GYr1 GPr1 HBr1
      have cy0 := GPs1.out.cell 1
      have cy1 := GPs1.out.cell 4
      have cy2 := GPs1.out.cell 7
      have cy3 := GPs1.out.cell 10
      have cy4 := GPs1.out.cell 13
      simp at cy0 cy1 cy2 cy3 cy4
      have cf0 := GPs1.out.frozen 1
      have cf1 := GPs1.out.frozen 4
      have cf2 := GPs1.out.frozen 7
      have cf3 := GPs1.out.frozen 10
      have cf4 := GPs1.out.frozen 13
      have GPr2' := Lib.hid (((((GPs1.out.set_ 1 (.int .i64 (a1))).set_ 4 (.int .i64 (a1 + b1))).set_ 7 (.int .i64 (a1 + c1))).set_ 10 (.int .i64 (a1 + b1 + c1))).set_ 13 (.int .i64 (a1)))
      simp only [List.setIfInBounds_toArray, List.set_cons_zero, List.set_cons_succ] at GPr2'
      obtain ⟨r2, hr2⟩ : ∃ r2, r2 = (((((s1.setCell ⟨gp, 1, none⟩ (.int .i64 (a1))).setCell ⟨gp, 4, none⟩ (.int .i64 (a1 + b1))).setCell ⟨gp, 7, none⟩ (.int .i64 (a1 + c1))).setCell ⟨gp, 10, none⟩ (.int .i64 (a1 + b1 + c1))).setCell ⟨gp, 13, none⟩ (.int .i64 (a1))) := ⟨_, rfl⟩
      have GQr2 : Hid (Blk r2 gq 36 #[.int .i64 o0, .int .i64 o1, .int .i64 o2]) := by subst hr2; exact Lib.hid (GQs1.out.far5 HN.out.1 _ _ _ _ _)
      have GXr2 : Hid (Blk r2 gx 36 #[.int .i64 x0, .int .i64 x1, .int .i64 x2]) := by subst hr2; exact Lib.hid (GXs1.out.far5 HN.out.2.1 _ _ _ _ _)
      have GYr2 : Hid (Blk r2 gy 36 #[.int .i64 y0, .int .i64 y1, .int .i64 y2]) := by subst hr2; exact Lib.hid (GYs1.out.far5 HN.out.2.2 _ _ _ _ _)
      have GPr2 : Hid (Blk r2 gp 43 #[.int .i64 (a0), .int .i64 (a1), .int .i64 0, .int .i64 (a0 + b0), .int .i64 (a1 + b1), .int .i64 0, .int .i64 (a0 + c0), .int .i64 (a1 + c1), .int .i64 0, .int .i64 (a0 + b0 + c0), .int .i64 (a1 + b1 + c1), .int .i64 0, .int .i64 (a0), .int .i64 (a1), .int .i64 0]) := by subst hr2; exact GPr2'
      have HBr2 : Hid (Below w.heap.size w r2) := by subst hr2; exact Lib.hid (bw_set (bw_set (bw_set (bw_set (bw_set HBs1.out HGP.out _) HGP.out _) HGP.out _) HGP.out _) HGP.out _)
      go_wp2_with fail
      rw [rounds_succ]
      go_upto_region 7 with (fail)
      rw [← hr2]
      clear hr2 GPr2' GQs1 GXs1 GYs1 GPs1 HBs1 cy0 cy1 cy2 cy3 cy4 cf0 cf1 cf2 cf3 cf4
      refine wp_region_till (S := fun w' => w'.cell? ⟨gq, 0, none⟩ = some (.int .i64 o0) ∧ w'.cell? ⟨gq, 1, none⟩ = some (.int .i64 o1) ∧ w'.cell? ⟨gq, 2, none⟩ = some (.int .i64 o2) ∧ w'.cell? ⟨gx, 0, none⟩ = some (.int .i64 x0) ∧ w'.cell? ⟨gx, 1, none⟩ = some (.int .i64 x1) ∧ w'.cell? ⟨gx, 2, none⟩ = some (.int .i64 x2) ∧ w'.cell? ⟨gy, 0, none⟩ = some (.int .i64 y0) ∧ w'.cell? ⟨gy, 1, none⟩ = some (.int .i64 y1) ∧ w'.cell? ⟨gy, 2, none⟩ = some (.int .i64 y2)) 14 (by kernel_rfl) ⟨(pt_facts GQr2.out.drew).1, (pt_facts GQr2.out.drew).2.1, (pt_facts GQr2.out.drew).2.2.1, (pt_facts GXr2.out.drew).1, (pt_facts GXr2.out.drew).2.1, (pt_facts GXr2.out.drew).2.2.1, (pt_facts GYr2.out.drew).1, (pt_facts GYr2.out.drew).2.1, (pt_facts GYr2.out.drew).2.2.1⟩ (fun hHeld => ?_)
      refine Till.take (i := 0) (v := ?vt29) rfl (by kernel_rfl) (by kernel_rfl) (by kernel_rfl) (by kernel_rfl) (fun _ _ _ h => h) (Or.inl ⟨by rfl, ?ht29⟩) (by assumption) ?restt29
      case ht29 => (intro w hSw; (try dsimp only at hSw); go_simp; try with_reducible rfl)
      (try simp only [Act.put, List.setIfInBounds_toArray, List.set_cons_zero, List.set_cons_succ])
      refine Till.take (i := 1) (v := ?vt30) rfl (by kernel_rfl) (by kernel_rfl) (by kernel_rfl) (by kernel_rfl) (fun _ _ _ h => h) (Or.inl ⟨by rfl, ?ht30⟩) (by assumption) ?restt30
      case ht30 => (intro w hSw; (try dsimp only at hSw); go_simp; try with_reducible rfl)
      (try simp only [Act.put, List.setIfInBounds_toArray, List.set_cons_zero, List.set_cons_succ])
      refine Till.take (i := 2) (v := ?vt31) rfl (by kernel_rfl) (by kernel_rfl) (by kernel_rfl) (by kernel_rfl) (fun _ _ _ h => h) (Or.inl ⟨by rfl, ?ht31⟩) (by assumption) ?restt31
      case ht31 => (intro w hSw; (try dsimp only at hSw); go_simp; try with_reducible rfl)
      (try simp only [Act.put, List.setIfInBounds_toArray, List.set_cons_zero, List.set_cons_succ])
      refine Till.take (i := 3) (v := ?vt32) rfl (by kernel_rfl) (by kernel_rfl) (by kernel_rfl) (by kernel_rfl) (fun _ _ _ h => h) (Or.inl ⟨by rfl, ?ht32⟩) (by assumption) ?restt32
      case ht32 => (intro w hSw; (try dsimp only at hSw); go_simp; try with_reducible rfl)
      (try simp only [Act.put, List.setIfInBounds_toArray, List.set_cons_zero, List.set_cons_succ])
      refine Till.take (i := 4) (v := ?vt33) rfl (by kernel_rfl) (by kernel_rfl) (by kernel_rfl) (by kernel_rfl) (fun _ _ _ h => h) (Or.inl ⟨by rfl, ?ht33⟩) (by assumption) ?restt33
      case ht33 => (intro w hSw; (try dsimp only at hSw); go_simp; try with_reducible rfl)
      (try simp only [Act.put, List.setIfInBounds_toArray, List.set_cons_zero, List.set_cons_succ])
      refine Till.take (i := 5) (v := ?vt34) rfl (by kernel_rfl) (by kernel_rfl) (by kernel_rfl) (by kernel_rfl) (fun _ _ _ h => h) (Or.inl ⟨by rfl, ?ht34⟩) (by assumption) ?restt34
      case ht34 => (intro w hSw; (try dsimp only at hSw); go_simp; try with_reducible rfl)
      (try simp only [Act.put, List.setIfInBounds_toArray, List.set_cons_zero, List.set_cons_succ])
      refine Till.take (i := 6) (v := ?vt35) rfl (by kernel_rfl) (by kernel_rfl) (by kernel_rfl) (by kernel_rfl) (fun _ _ _ h => h) (Or.inl ⟨by rfl, ?ht35⟩) (by assumption) ?restt35
      case ht35 => (intro w hSw; (try dsimp only at hSw); go_simp; try with_reducible rfl)
      (try simp only [Act.put, List.setIfInBounds_toArray, List.set_cons_zero, List.set_cons_succ])
      refine Till.take (i := 7) (v := ?vt36) rfl (by kernel_rfl) (by kernel_rfl) (by kernel_rfl) (by kernel_rfl) (fun _ _ _ h => h) (Or.inl ⟨by rfl, ?ht36⟩) (by assumption) ?restt36
      case ht36 => (intro w hSw; (try dsimp only at hSw); go_simp; try with_reducible rfl)
      (try simp only [Act.put, List.setIfInBounds_toArray, List.set_cons_zero, List.set_cons_succ])
      refine Till.take (i := 8) (v := ?vt37) rfl (by kernel_rfl) (by kernel_rfl) (by kernel_rfl) (by kernel_rfl) (fun _ _ _ h => h) (Or.inl ⟨by rfl, ?ht37⟩) (by assumption) ?restt37
      case ht37 => (intro w hSw; (try dsimp only at hSw); go_simp; try with_reducible rfl)
      (try simp only [Act.put, List.setIfInBounds_toArray, List.set_cons_zero, List.set_cons_succ])
      refine Till.take (i := 9) (v := ?vt38) rfl (by kernel_rfl) (by kernel_rfl) (by kernel_rfl) (by kernel_rfl) (fun _ _ _ h => h) (Or.inl ⟨by rfl, ?ht38⟩) (by assumption) ?restt38
      case ht38 => (intro w hSw; (try dsimp only at hSw); go_simp; try with_reducible rfl)
      (try simp only [Act.put, List.setIfInBounds_toArray, List.set_cons_zero, List.set_cons_succ])
      refine Till.take (i := 10) (v := ?vt39) rfl (by kernel_rfl) (by kernel_rfl) (by kernel_rfl) (by kernel_rfl) (fun _ _ _ h => h) (Or.inl ⟨by rfl, ?ht39⟩) (by assumption) ?restt39
      case ht39 => (intro w hSw; (try dsimp only at hSw); go_simp; try with_reducible rfl)
      (try simp only [Act.put, List.setIfInBounds_toArray, List.set_cons_zero, List.set_cons_succ])
      refine Till.take (i := 11) (v := ?vt40) rfl (by kernel_rfl) (by kernel_rfl) (by kernel_rfl) (by kernel_rfl) (fun _ _ _ h => h) (Or.inl ⟨by rfl, ?ht40⟩) (by assumption) ?restt40
      case ht40 => (intro w hSw; (try dsimp only at hSw); go_simp; try with_reducible rfl)
      (try simp only [Act.put, List.setIfInBounds_toArray, List.set_cons_zero, List.set_cons_succ])
      refine Till.take (i := 12) (v := ?vt41) rfl (by kernel_rfl) (by kernel_rfl) (by kernel_rfl) (by kernel_rfl) (fun _ _ _ h => h) (Or.inl ⟨by rfl, ?ht41⟩) (by assumption) ?restt41
      case ht41 => (intro w hSw; (try dsimp only at hSw); go_simp; try with_reducible rfl)
      (try simp only [Act.put, List.setIfInBounds_toArray, List.set_cons_zero, List.set_cons_succ])
      refine Till.take (i := 13) (v := ?vt42) rfl (by kernel_rfl) (by kernel_rfl) (by kernel_rfl) (by kernel_rfl) (fun _ _ _ h => h) (Or.inl ⟨by rfl, ?ht42⟩) (by assumption) ?restt42
      case ht42 => (intro w hSw; (try dsimp only at hSw); go_simp; try with_reducible rfl)
      (try simp only [Act.put, List.setIfInBounds_toArray, List.set_cons_zero, List.set_cons_succ])
      refine Till.ready (rs := [14]) (by kernel_rfl) (by simp) ?_
      refine TillEach.last rfl (fun K hK => ?_)
      · go_simp
        refine hK.out _ _ ?_
        clear hK K
        (try simp only [Act.put, List.setIfInBounds_toArray, List.set_cons_zero, List.set_cons_succ])
        refine Till.done (by kernel_rfl) ?_ _
        obtain ⟨s2, hs2⟩ : ∃ s2, s2 = r2.drew := ⟨_, rfl⟩
        have GQs2 := Lib.hid (GQr2.out.drew)
        have GXs2 := Lib.hid (GXr2.out.drew)
        have GYs2 := Lib.hid (GYr2.out.drew)
        have GPs2 := Lib.hid (GPr2.out.drew)
        have HBs2 := Lib.hid (bw_drew HBr2.out)
        rw [← hs2] at GQs2 GXs2 GYs2 GPs2 HBs2 ⊢
        clear hs2 GQr2 GXr2 GYr2 GPr2 HBr2
        have cy0 := GPs2.out.cell 2
        have cy1 := GPs2.out.cell 5
        have cy2 := GPs2.out.cell 8
        have cy3 := GPs2.out.cell 11
        have cy4 := GPs2.out.cell 14
        simp at cy0 cy1 cy2 cy3 cy4
        have cf0 := GPs2.out.frozen 2
        have cf1 := GPs2.out.frozen 5
        have cf2 := GPs2.out.frozen 8
        have cf3 := GPs2.out.frozen 11
        have cf4 := GPs2.out.frozen 14
        have GPr3' := Lib.hid (((((GPs2.out.set_ 2 (.int .i64 (a2))).set_ 5 (.int .i64 (a2 + b2))).set_ 8 (.int .i64 (a2 + c2))).set_ 11 (.int .i64 (a2 + b2 + c2))).set_ 14 (.int .i64 (a2)))
        simp only [List.setIfInBounds_toArray, List.set_cons_zero, List.set_cons_succ] at GPr3'
        obtain ⟨r3, hr3⟩ : ∃ r3, r3 = (((((s2.setCell ⟨gp, 2, none⟩ (.int .i64 (a2))).setCell ⟨gp, 5, none⟩ (.int .i64 (a2 + b2))).setCell ⟨gp, 8, none⟩ (.int .i64 (a2 + c2))).setCell ⟨gp, 11, none⟩ (.int .i64 (a2 + b2 + c2))).setCell ⟨gp, 14, none⟩ (.int .i64 (a2))) := ⟨_, rfl⟩
        have GQr3 : Hid (Blk r3 gq 36 #[.int .i64 o0, .int .i64 o1, .int .i64 o2]) := by subst hr3; exact Lib.hid (GQs2.out.far5 HN.out.1 _ _ _ _ _)
        have GXr3 : Hid (Blk r3 gx 36 #[.int .i64 x0, .int .i64 x1, .int .i64 x2]) := by subst hr3; exact Lib.hid (GXs2.out.far5 HN.out.2.1 _ _ _ _ _)
        have GYr3 : Hid (Blk r3 gy 36 #[.int .i64 y0, .int .i64 y1, .int .i64 y2]) := by subst hr3; exact Lib.hid (GYs2.out.far5 HN.out.2.2 _ _ _ _ _)
        have GPr3 : Hid (Blk r3 gp 43 #[.int .i64 (a0), .int .i64 (a1), .int .i64 (a2), .int .i64 (a0 + b0), .int .i64 (a1 + b1), .int .i64 (a2 + b2), .int .i64 (a0 + c0), .int .i64 (a1 + c1), .int .i64 (a2 + c2), .int .i64 (a0 + b0 + c0), .int .i64 (a1 + b1 + c1), .int .i64 (a2 + b2 + c2), .int .i64 (a0), .int .i64 (a1), .int .i64 (a2)]) := by subst hr3; exact GPr3'
        have HBr3 : Hid (Below w.heap.size w r3) := by subst hr3; exact Lib.hid (bw_set (bw_set (bw_set (bw_set (bw_set HBs2.out HGP.out _) HGP.out _) HGP.out _) HGP.out _) HGP.out _)
        go_wp2_with fail
        rw [rounds_succ]
        go_upto_region 13 with (fail)
        rw [← hr3]
        have hz : s2.heap.size = r3.heap.size := by subst hr3; simp
        rw [hz]
        clear hr3 GPr3' GQs2 GXs2 GYs2 GPs2 HBs2 cy0 cy1 cy2 cy3 cy4 cf0 cf1 cf2 cf3 cf4
        have EA : ∃ w9, w9 = (r3.alloc (.cells #[.int .i64 2, .int .i64 1, .int .i64 2, .int .i64 0, .int .i64 (-1)] 32)).alloc (.cells #[.int .i64 2, .int .i64 1, .int .i64 2, .int .i64 0, .int .i64 4] 32) := ⟨_, rfl⟩
        obtain ⟨w9, hw9⟩ := EA
        have GDw9 : Hid (Blk w9 r3.heap.size 32 #[.int .i64 2, .int .i64 1, .int .i64 2, .int .i64 0, .int .i64 (-1)]) := by subst hw9; exact Lib.hid ((Blk.new _ _ _).alloc _)
        have GEw9 : Hid (Blk w9 (r3.heap.size + 1) 32 #[.int .i64 2, .int .i64 1, .int .i64 2, .int .i64 0, .int .i64 4]) := by subst hw9; exact Lib.hid (blk_new1 _ _ _ _)
        have GPw9 : Hid (Blk w9 gp 43 #[.int .i64 (a0), .int .i64 (a1), .int .i64 (a2), .int .i64 (a0 + b0), .int .i64 (a1 + b1), .int .i64 (a2 + b2), .int .i64 (a0 + c0), .int .i64 (a1 + c1), .int .i64 (a2 + c2), .int .i64 (a0 + b0 + c0), .int .i64 (a1 + b1 + c1), .int .i64 (a2 + b2 + c2), .int .i64 (a0), .int .i64 (a1), .int .i64 (a2)]) := by subst hw9; exact Lib.hid ((GPr3.out.alloc _).alloc _)
        have HBw9 : Hid (Below w.heap.size w w9) := by subst hw9; exact Lib.hid (bw_alloc (bw_alloc HBr3.out _) _)
        rw [← hw9]
        clear hz
        generalize r3.heap.size + 1 = ge at *
        generalize r3.heap.size = gd at *
        clear hw9 GPr3 HBr3 GQr3 GXr3 GYr3
        have HL := Lib.hid (plane_law la0 la1 la2 lb0 lb1 lb2 lc0 lc1 lc2)
        have HC1 : Hid (∀ (W : World), Blk W gp 43 #[.int .i64 (a0), .int .i64 (a1), .int .i64 (a2), .int .i64 (a0 + b0), .int .i64 (a1 + b1), .int .i64 (a2 + b2), .int .i64 (a0 + c0), .int .i64 (a1 + c1), .int .i64 (a2 + c2), .int .i64 (a0 + b0 + c0), .int .i64 (a1 + b1 + c1), .int .i64 (a2 + b2 + c2), .int .i64 (a0), .int .i64 (a1), .int .i64 (a2)] → Calls Try.prog 13 #[.int .i64 2, .agg #[.int .i64 2, .int .i64 1, .int .i64 2, .int .i64 0, .int .i64 (-1)], .slice (some ⟨gp, 0, none⟩) 3 5] W (Pt3 W (a0 + b0 + c0) (a1 + b1 + c1) (a2 + b2 + c2))) := Lib.hid fun W h => by
          have h1 := point_any 2 2 1 2 0 (-1) (some ⟨gp, 0, none⟩) 3 5 _ W (by decide) (plane_row3 h)
          unfold PtPost at h1
          rw [(HL.out 0 (by omega)).1, (HL.out 1 (by omega)).1, (HL.out 2 (by omega)).1] at h1
          exact h1
        have HC2 : Hid (∀ (W : World), Blk W gp 43 #[.int .i64 (a0), .int .i64 (a1), .int .i64 (a2), .int .i64 (a0 + b0), .int .i64 (a1 + b1), .int .i64 (a2 + b2), .int .i64 (a0 + c0), .int .i64 (a1 + c1), .int .i64 (a2 + c2), .int .i64 (a0 + b0 + c0), .int .i64 (a1 + b1 + c1), .int .i64 (a2 + b2 + c2), .int .i64 (a0), .int .i64 (a1), .int .i64 (a2)] → Calls Try.prog 13 #[.int .i64 3, .agg #[.int .i64 2, .int .i64 1, .int .i64 2, .int .i64 0, .int .i64 (-1)], .slice (some ⟨gp, 0, none⟩) 3 5] W (Pt3 W (a0 + b0 + c0) (a1 + b1 + c1) (a2 + b2 + c2))) := Lib.hid fun W h => by
          have h1 := point_any 3 2 1 2 0 (-1) (some ⟨gp, 0, none⟩) 3 5 _ W (by decide) (plane_row3 h)
          unfold PtPost at h1
          rw [(HL.out 0 (by omega)).2.1, (HL.out 1 (by omega)).2.1, (HL.out 2 (by omega)).2.1] at h1
          exact h1
        have HC3 : Hid (∀ (W : World), Blk W gp 43 #[.int .i64 (a0), .int .i64 (a1), .int .i64 (a2), .int .i64 (a0 + b0), .int .i64 (a1 + b1), .int .i64 (a2 + b2), .int .i64 (a0 + c0), .int .i64 (a1 + c1), .int .i64 (a2 + c2), .int .i64 (a0 + b0 + c0), .int .i64 (a1 + b1 + c1), .int .i64 (a2 + b2 + c2), .int .i64 (a0), .int .i64 (a1), .int .i64 (a2)] → Calls Try.prog 13 #[.int .i64 3, .agg #[.int .i64 2, .int .i64 1, .int .i64 2, .int .i64 0, .int .i64 4], .slice (some ⟨gp, 0, none⟩) 5 5] W (Pt3 W (a0 + b0 + c0) (a1 + b1 + c1) (a2 + b2 + c2))) := Lib.hid fun W h => by
          have h1 := point_any 3 2 1 2 0 4 (some ⟨gp, 0, none⟩) 5 5 _ W (by decide) (plane_row5 h)
          unfold PtPost at h1
          rw [(HL.out 0 (by omega)).2.2, (HL.out 1 (by omega)).2.2, (HL.out 2 (by omega)).2.2] at h1
          exact h1
        clear HL
        have hq := run_eq_pt (a0 + b0 + c0) (a1 + b1 + c1) (a2 + b2 + c2) (a0 + b0 + c0) (a1 + b1 + c1) (a2 + b2 + c2)
        simp only [beq_self_eq_true, Bool.and_self] at hq
        refine wp_region_till (S := fun w' => w'.cell? ⟨gd, 0, none⟩ = some (.int .i64 2) ∧ w'.cell? ⟨gd, 1, none⟩ = some (.int .i64 1) ∧ w'.cell? ⟨gd, 2, none⟩ = some (.int .i64 2) ∧ w'.cell? ⟨gd, 3, none⟩ = some (.int .i64 0) ∧ w'.cell? ⟨gd, 4, none⟩ = some (.int .i64 (-1)) ∧ w'.cell? ⟨ge, 0, none⟩ = some (.int .i64 2) ∧ w'.cell? ⟨ge, 1, none⟩ = some (.int .i64 1) ∧ w'.cell? ⟨ge, 2, none⟩ = some (.int .i64 2) ∧ w'.cell? ⟨ge, 3, none⟩ = some (.int .i64 0) ∧ w'.cell? ⟨ge, 4, none⟩ = some (.int .i64 4) ∧ w'.cell? ⟨gp, 9, none⟩ = some (.int .i64 (a0 + b0 + c0)) ∧ w'.cell? ⟨gp, 10, none⟩ = some (.int .i64 (a1 + b1 + c1)) ∧ w'.cell? ⟨gp, 11, none⟩ = some (.int .i64 (a2 + b2 + c2))) 22 (by kernel_rfl) ⟨(ar_facts GDw9.out.drew).1, (ar_facts GDw9.out.drew).2.1, (ar_facts GDw9.out.drew).2.2.1, (ar_facts GDw9.out.drew).2.2.2.1, (ar_facts GDw9.out.drew).2.2.2.2, (ar_facts GEw9.out.drew).1, (ar_facts GEw9.out.drew).2.1, (ar_facts GEw9.out.drew).2.2.1, (ar_facts GEw9.out.drew).2.2.2.1, (ar_facts GEw9.out.drew).2.2.2.2, (GPw9.out.drew.cell 9), (GPw9.out.drew.cell 10), (GPw9.out.drew.cell 11)⟩ (fun hHeld => ?_)
        refine Till.take (i := 0) (v := ?vt43) rfl (by kernel_rfl) (by kernel_rfl) (by kernel_rfl) (by kernel_rfl) (fun _ _ _ h => h) (Or.inl ⟨by rfl, ?ht43⟩) (by assumption) ?restt43
        case ht43 => (intro w hSw; (try dsimp only at hSw); go_simp; try with_reducible rfl)
        (try simp only [Act.put, List.setIfInBounds_toArray, List.set_cons_zero, List.set_cons_succ])
        refine Till.take (i := 1) (v := ?vt44) rfl (by kernel_rfl) (by kernel_rfl) (by kernel_rfl) (by kernel_rfl) (fun _ _ _ h => h) (Or.inl ⟨by rfl, ?ht44⟩) (by assumption) ?restt44
        case ht44 => (intro w hSw; (try dsimp only at hSw); go_simp; try with_reducible rfl)
        (try simp only [Act.put, List.setIfInBounds_toArray, List.set_cons_zero, List.set_cons_succ])
        refine Till.take (i := 3) (v := ?vt45) rfl (by kernel_rfl) (by kernel_rfl) (by kernel_rfl) (by kernel_rfl) (fun _ _ _ h => h) (Or.inl ⟨by rfl, ?ht45⟩) (by assumption) ?restt45
        case ht45 => (intro w hSw; (try dsimp only at hSw); go_simp; try with_reducible rfl)
        (try simp only [Act.put, List.setIfInBounds_toArray, List.set_cons_zero, List.set_cons_succ])
        refine Till.take (i := 4) (v := ?vt46) rfl (by kernel_rfl) (by kernel_rfl) (by kernel_rfl) (by kernel_rfl) (fun _ _ _ h => h) (Or.inl ⟨by rfl, ?ht46⟩) (by assumption) ?restt46
        case ht46 => (intro w hSw; (try dsimp only at hSw); go_simp; try with_reducible rfl)
        (try simp only [Act.put, List.setIfInBounds_toArray, List.set_cons_zero, List.set_cons_succ])
        refine Till.ready (rs := [2]) (by kernel_rfl) (by simp) ?_
        refine TillEach.cons rfl (fun K hK => ?_) ?_
        · go_simp
          go_wp2_with (go_at_call 13; refine (HC1.out w9.drew GPw9.out.drew).mono ?_; rintro e v10 ⟨rfl, hb⟩)
          have GDv10 := Lib.hid (blk_call GDw9.out.drew hb)
          have GEv10 := Lib.hid (blk_call GEw9.out.drew hb)
          have GPv10 := Lib.hid (blk_call GPw9.out.drew hb)
          have HBv10 := Lib.hid (bw_call (bw_drew HBw9.out) hb)
          clear hb
          refine hK.out _ _ ?_ (fun hHeld => ?_)
          · exact ⟨(ar_facts GDv10.out).1, (ar_facts GDv10.out).2.1, (ar_facts GDv10.out).2.2.1, (ar_facts GDv10.out).2.2.2.1, (ar_facts GDv10.out).2.2.2.2, (ar_facts GEv10.out).1, (ar_facts GEv10.out).2.1, (ar_facts GEv10.out).2.2.1, (ar_facts GEv10.out).2.2.2.1, (ar_facts GEv10.out).2.2.2.2, (GPv10.out.cell 9), (GPv10.out.cell 10), (GPv10.out.cell 11)⟩
          clear hK K
          (try simp only [Act.put, List.setIfInBounds_toArray, List.set_cons_zero, List.set_cons_succ])
          refine Till.take (i := 5) (v := ?vt47) rfl (by kernel_rfl) (by kernel_rfl) (by kernel_rfl) (by kernel_rfl) (fun _ _ _ h => h) (Or.inl ⟨by rfl, ?ht47⟩) (by assumption) ?restt47
          case ht47 => (intro w hSw; (try dsimp only at hSw); go_simp; try with_reducible rfl)
          (try simp only [Act.put, List.setIfInBounds_toArray, List.set_cons_zero, List.set_cons_succ])
          refine Till.take (i := 6) (v := ?vt48) rfl (by kernel_rfl) (by kernel_rfl) (by kernel_rfl) (by kernel_rfl) (fun _ _ _ h => h) (Or.inl ⟨by rfl, ?ht48⟩) (by assumption) ?restt48
          case ht48 => (intro w hSw; (try dsimp only at hSw); go_simp; try with_reducible rfl)
          (try simp only [Act.put, List.setIfInBounds_toArray, List.set_cons_zero, List.set_cons_succ])
          refine Till.take (i := 7) (v := ?vt49) rfl (by kernel_rfl) (by kernel_rfl) (by kernel_rfl) (by kernel_rfl) (fun _ _ _ h => h) (Or.inl ⟨by rfl, ?ht49⟩) (by assumption) ?restt49
          case ht49 => (intro w hSw; (try dsimp only at hSw); go_simp; try with_reducible rfl)
          (try simp only [Act.put, List.setIfInBounds_toArray, List.set_cons_zero, List.set_cons_succ])
          refine Till.take (i := 8) (v := ?vt50) rfl (by kernel_rfl) (by kernel_rfl) (by kernel_rfl) (by kernel_rfl) (fun _ _ _ h => h) (Or.inl ⟨by rfl, ?ht50⟩) (by assumption) ?restt50
          case ht50 => (intro w hSw; (try dsimp only at hSw); go_simp; try with_reducible rfl)
          (try simp only [Act.put, List.setIfInBounds_toArray, List.set_cons_zero, List.set_cons_succ])
          refine Till.take (i := 10) (v := ?vt51) rfl (by kernel_rfl) (by kernel_rfl) (by kernel_rfl) (by kernel_rfl) (fun _ _ _ h => h) (Or.inl ⟨by rfl, ?ht51⟩) (by assumption) ?restt51
          case ht51 => (intro w hSw; (try dsimp only at hSw); go_simp; try with_reducible rfl)
          (try simp only [Act.put, List.setIfInBounds_toArray, List.set_cons_zero, List.set_cons_succ])
          refine Till.take (i := 11) (v := ?vt52) rfl (by kernel_rfl) (by kernel_rfl) (by kernel_rfl) (by kernel_rfl) (fun _ _ _ h => h) (Or.inl ⟨by rfl, ?ht52⟩) (by assumption) ?restt52
          case ht52 => (intro w hSw; (try dsimp only at hSw); go_simp; try with_reducible rfl)
          (try simp only [Act.put, List.setIfInBounds_toArray, List.set_cons_zero, List.set_cons_succ])
          refine Till.ready (rs := [9]) (by kernel_rfl) (by simp) ?_
          refine TillEach.cons rfl (fun K hK => ?_) ?_
          · go_simp
            go_wp2_with (go_at_call 13; refine (HC2.out v10 GPv10.out).mono ?_; rintro e v11 ⟨rfl, hb⟩)
            have GDv11 := Lib.hid (blk_call GDv10.out hb)
            have GEv11 := Lib.hid (blk_call GEv10.out hb)
            have GPv11 := Lib.hid (blk_call GPv10.out hb)
            have HBv11 := Lib.hid (bw_call HBv10.out hb)
            clear hb GDv10 GEv10 GPv10 HBv10
            refine hK.out _ _ ?_ (fun hHeld => ?_)
            · exact ⟨(ar_facts GDv11.out).1, (ar_facts GDv11.out).2.1, (ar_facts GDv11.out).2.2.1, (ar_facts GDv11.out).2.2.2.1, (ar_facts GDv11.out).2.2.2.2, (ar_facts GEv11.out).1, (ar_facts GEv11.out).2.1, (ar_facts GEv11.out).2.2.1, (ar_facts GEv11.out).2.2.2.1, (ar_facts GEv11.out).2.2.2.2, (GPv11.out.cell 9), (GPv11.out.cell 10), (GPv11.out.cell 11)⟩
            clear hK K
            (try simp only [Act.put, List.setIfInBounds_toArray, List.set_cons_zero, List.set_cons_succ])
            refine Till.take (i := 12) (v := ?vt53) rfl (by kernel_rfl) (by kernel_rfl) (by kernel_rfl) (by kernel_rfl) (fun _ _ _ h => h) (Or.inl ⟨by rfl, ?ht53⟩) (by assumption) ?restt53
            case ht53 => (intro w hSw; (try dsimp only at hSw); go_simp; try with_reducible rfl)
            (try simp only [Act.put, List.setIfInBounds_toArray, List.set_cons_zero, List.set_cons_succ])
            refine Till.take (i := 13) (v := ?vt54) rfl (by kernel_rfl) (by kernel_rfl) (by kernel_rfl) (by kernel_rfl) (fun _ _ _ h => h) (Or.inl ⟨by rfl, ?ht54⟩) (by assumption) ?restt54
            case ht54 => (intro w hSw; (try dsimp only at hSw); go_simp; try with_reducible rfl)
            (try simp only [Act.put, List.setIfInBounds_toArray, List.set_cons_zero, List.set_cons_succ])
            refine Till.take (i := 14) (v := ?vt55) rfl (by kernel_rfl) (by kernel_rfl) (by kernel_rfl) (by kernel_rfl) (fun _ _ _ h => h) (Or.inl ⟨by rfl, ?ht55⟩) (by assumption) ?restt55
            case ht55 => (intro w hSw; (try dsimp only at hSw); go_simp; try with_reducible rfl)
            (try simp only [Act.put, List.setIfInBounds_toArray, List.set_cons_zero, List.set_cons_succ])
            refine Till.take (i := 15) (v := ?vt56) rfl (by kernel_rfl) (by kernel_rfl) (by kernel_rfl) (by kernel_rfl) (fun _ _ _ h => h) (Or.inl ⟨by rfl, ?ht56⟩) (by assumption) ?restt56
            case ht56 => (intro w hSw; (try dsimp only at hSw); go_simp; try with_reducible rfl)
            (try simp only [Act.put, List.setIfInBounds_toArray, List.set_cons_zero, List.set_cons_succ])
            refine Till.take (i := 16) (v := ?vt57) rfl (by kernel_rfl) (by kernel_rfl) (by kernel_rfl) (by kernel_rfl) (fun _ _ _ h => h) (Or.inl ⟨by rfl, ?ht57⟩) (by assumption) ?restt57
            case ht57 => (intro w hSw; (try dsimp only at hSw); go_simp; try with_reducible rfl)
            (try simp only [Act.put, List.setIfInBounds_toArray, List.set_cons_zero, List.set_cons_succ])
            refine Till.take (i := 18) (v := ?vt58) rfl (by kernel_rfl) (by kernel_rfl) (by kernel_rfl) (by kernel_rfl) (fun _ _ _ h => h) (Or.inl ⟨by rfl, ?ht58⟩) (by assumption) ?restt58
            case ht58 => (intro w hSw; (try dsimp only at hSw); go_simp; try with_reducible rfl)
            (try simp only [Act.put, List.setIfInBounds_toArray, List.set_cons_zero, List.set_cons_succ])
            refine Till.take (i := 19) (v := ?vt59) rfl (by kernel_rfl) (by kernel_rfl) (by kernel_rfl) (by kernel_rfl) (fun _ _ _ h => h) (Or.inl ⟨by rfl, ?ht59⟩) (by assumption) ?restt59
            case ht59 => (intro w hSw; (try dsimp only at hSw); go_simp; try with_reducible rfl)
            (try simp only [Act.put, List.setIfInBounds_toArray, List.set_cons_zero, List.set_cons_succ])
            refine Till.ready (rs := [17]) (by kernel_rfl) (by simp) ?_
            refine TillEach.cons rfl (fun K hK => ?_) ?_
            · go_simp
              go_wp2_with (go_at_call 13; refine (HC3.out v11 GPv11.out).mono ?_; rintro e v12 ⟨rfl, hb⟩)
              have GDv12 := Lib.hid (blk_call GDv11.out hb)
              have GEv12 := Lib.hid (blk_call GEv11.out hb)
              have GPv12 := Lib.hid (blk_call GPv11.out hb)
              have HBv12 := Lib.hid (bw_call HBv11.out hb)
              clear hb GDv11 GEv11 GPv11 HBv11
              refine hK.out _ _ ?_ (fun hHeld => ?_)
              · exact ⟨(ar_facts GDv12.out).1, (ar_facts GDv12.out).2.1, (ar_facts GDv12.out).2.2.1, (ar_facts GDv12.out).2.2.2.1, (ar_facts GDv12.out).2.2.2.2, (ar_facts GEv12.out).1, (ar_facts GEv12.out).2.1, (ar_facts GEv12.out).2.2.1, (ar_facts GEv12.out).2.2.2.1, (ar_facts GEv12.out).2.2.2.2, (GPv12.out.cell 9), (GPv12.out.cell 10), (GPv12.out.cell 11)⟩
              clear hK K
              (try simp only [Act.put, List.setIfInBounds_toArray, List.set_cons_zero, List.set_cons_succ])
              refine Till.take (i := 20) (v := ?vt60) rfl (by kernel_rfl) (by kernel_rfl) (by kernel_rfl) (by kernel_rfl) (fun _ _ _ h => h) (Or.inl ⟨by rfl, ?ht60⟩) (by assumption) ?restt60
              case ht60 => (intro w hSw; (try dsimp only at hSw); go_simp; try with_reducible rfl)
              (try simp only [Act.put, List.setIfInBounds_toArray, List.set_cons_zero, List.set_cons_succ])
              refine Till.take (i := 21) (v := ?vt61) rfl (by kernel_rfl) (by kernel_rfl) (by kernel_rfl) (by kernel_rfl) (fun _ _ _ h => h) (Or.inl ⟨by rfl, ?ht61⟩) (by assumption) ?restt61
              case ht61 => (intro w hSw; (try dsimp only at hSw); go_simp; try with_reducible rfl)
              (try simp only [Act.put, List.setIfInBounds_toArray, List.set_cons_zero, List.set_cons_succ])
              refine Till.ready (rs := [22]) (by kernel_rfl) (by simp) ?_
              refine TillEach.last rfl (fun K hK => ?_)
              · go_simp
                refine hK.out _ _ ?_
                clear hK K
                (try simp only [Act.put, List.setIfInBounds_toArray, List.set_cons_zero, List.set_cons_succ])
                refine Till.done (by kernel_rfl) ?_ _
                go_wp2_with fail
                go_ret
                exact ⟨rfl, HBv12.out⟩
            exact TillEach.nil
          exact TillEach.nil
        exact TillEach.nil
end Go.Proofs.Ytcpfolojfdnojaa
