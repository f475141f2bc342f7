/- gypsumref28.Known, walked. No condition but sizes. -/
import Derived.Test.YtcpfolojfdnojaaArRow
import Derived.Test.YtcpfolojfdnojaaThird
import Derived.Test.YtcpfolojfdnojaaIsW15
namespace Go.Proofs.Ytcpfolojfdnojaa
open Go.RowKit

set_option linter.unusedSimpArgs false
set_option linter.unusedVariables false
/-- The reference's answer: none, or a row of what is around. -/
def AOwn (w : World) (B : Nat) (A : Option Addr) (c k : Nat) (f : Nat → Ar) : Prop := w.ownsRow B 31 5 (.slice A k c) k (arL f k)
section
variable {w w' : World} {B c k : Nat} {A : Option Addr} {f : Nat → Ar}
theorem AOwn.below (h : AOwn w B A c k f) (hb : Below w.heap.size w w') : AOwn w' B A c k f := own_same h fun k hk => hb.block k (World.ownsRow.lt h k hk).2
theorem AOwn.alloc (h : AOwn w B A c k f) (o : Obj) : AOwn (w.alloc o) B A c k f := h.below ((Below.refl _ _).alloc (Nat.le_refl _) _)
theorem AOwn.owns (h : AOwn w B A c k f) : w.ownsRow B 31 5 (.slice A k c) k (arL f k) := h
theorem AOwn.of_ (h : w.ownsRow B 31 5 (.slice A k c) k (arL f k)) : AOwn w B A c k f := h
theorem AOwn.drew (h : AOwn w B A c k f) : AOwn w.drew B A c k f := h
theorem AOwn.lt (h : AOwn w B A c k f) (q : Nat) (hq : (Value.slice A k c).ownBlock = some q) : B ≤ q ∧ q < w.heap.size := World.ownsRow.lt h q hq
theorem AOwn.far (h : AOwn w B A c k f) {g : Nat} (hn : ∀ q, (Value.slice A k c).ownBlock = some q → q < g) (i : Nat) (u : Value) : AOwn (w.setCell ⟨g, i, none⟩ u) B A c k f :=
  own_same h fun q hq => Below.heap_setCell _ _ _ _ (by have := hn q hq; show q ≠ g; omega)
theorem kar_facts {w : World} {g : Nat} {a b c d e : Value} (h : Blk w g 31 #[a, b, c, d, e]) : w.cell? ⟨g, 0, none⟩ = some a ∧ w.cell? ⟨g, 1, none⟩ = some b ∧ w.cell? ⟨g, 2, none⟩ = some c ∧ w.cell? ⟨g, 3, none⟩ = some d ∧ w.cell? ⟨g, 4, none⟩ = some e := ⟨h.cell 0, h.cell 1, h.cell 2, h.cell 3, h.cell 4⟩
theorem AOwn.nil (w : World) (B : Nat) (f : Nat → Ar) : AOwn w B none 0 0 f := ⟨rfl, .inl ⟨rfl, rfl⟩⟩
end
def KrPost (w : World) (N : Int) (T : List Tri) (e : Ending) (w' : World) : Prop :=
  (checkR N T ≠ (0, 0, 0) ∧ e = .returned (.slice none 0 0) ∧ Below w.heap.size w w') ∨
  (∃ (m : Nat) (A' : Option Addr) (c' : Nat), N = (m : Int) ∧ checkR N T = (0, 0, 0) ∧ e = .returned (.slice A' m c') ∧ AOwn w' w.heap.size A' c' m (known T) ∧ Below w.heap.size w w')
attribute [local irreducible] Blk LRow World.alloc World.setCell World.cell? World.frozen? MapV AOwn
set_option maxRecDepth 100000 in
set_option maxHeartbeats 8000000 in
theorem knRef_any (N : Int) (A : Option Addr) (n c : Nat) (T : List Tri) (w : World) (hn : n ≤ 1000) (ht : TrisAt w w.heap.size A n T) :
    Calls Try.prog 12 #[.agg #[.int .i64 N, .slice A n c]] w (KrPost w N T) := by
  obtain rfl : n = T.length := ht.len.symm
  have HT := Lib.hid ht
  clear ht
  obtain ⟨i0, hi0, hz0, hz1, hz2⟩ := info_parts refAr_info
  obtain ⟨V, hV⟩ : ∃ V, V = w.alloc (.cells #[.int .i64 N, .slice A T.length c] 24) := ⟨_, rfl⟩
  have GA0 : Hid (Blk V w.heap.size 24 #[.int .i64 N, .slice A T.length c]) := by subst hV; exact Lib.hid (Blk.new _ _ _)
  have HB0 : Hid (Below w.heap.size w V) := by subst hV; exact Lib.hid (bw_alloc (Below.refl _ _) _)
  go_enter Try.func12, Try.ntmps12
  go_upto_region 1 with (fail)
  rw [← hV]
  clear hV
  obtain ⟨ga, hga⟩ : ∃ g, g = w.heap.size := ⟨_, rfl⟩
  rw [← hga] at GA0
  simp only [← hga]
  clear hga
  obtain ⟨s0, s1, _, _, _⟩ := soup_facts GA0.out
  go_wp2_with fail
  clear s0 s1
  refine (is15_any N A c T V hn ((HT.out.below HB0.out).more HB0.out.size)).mono ?_
  rintro e w1 ⟨rfl, hb⟩
  have GA1 := Lib.hid (blk_call GA0.out hb)
  have HB1 := Lib.hid (bw_call HB0.out hb)
  clear hb GA0 HB0
  by_cases hck : checkR N T = (0, 0, 0)
  rotate_left
  · rw [decide_eq_false hck]
    go_wp2_with fail
    go_ret
    exact .inl ⟨hck, rfl, HB1.out⟩
  rw [decide_eq_true hck]
  obtain ⟨m, rfl, hse⟩ := chk_iff.1 hck
  have HCK := Lib.hid hck
  have hm1 : m ≤ 4096 := hse.m1
  have HKD := Lib.hid (fun v => known_dn hse.ok v)
  clear hck hse
  have HO1 : Hid (AOwn w1 w.heap.size none 0 0 (known T)) := Lib.hid (AOwn.nil _ _ _)
  go_wp2_with fail
  go_loopw [3, 4] (fun rv iv wr => ∃ (v : Nat) (A' : Option Addr) (c' : Nat), v ≤ m ∧ rv = .slice A' v c' ∧ iv = .int .i64 v ∧ Hid (Blk wr ga 24 #[.int .i64 (m : Int), .slice A T.length c]) ∧ Hid (AOwn wr w.heap.size A' c' v (known T)) ∧ Hid (Below w.heap.size w wr)) (fun _ iv _ => m - (intOf iv).toNat)
  case atStart => exact ⟨0, none, 0, by omega, rfl, rfl, GA1, HO1, HB1⟩
  case round =>
    obtain ⟨v, A', c', hv, rfl, rfl, GAv, HOv, HBv⟩ := hrel
    obtain ⟨wB, hwB⟩ : ∃ wB : World, wB = wr := ⟨_, rfl⟩
    rw [← hwB] at GAv HOv HBv ⊢
    clear hwB GA1 HO1 HB1
    obtain ⟨s0, s1, _, _, _⟩ := soup_facts GAv.out
    by_cases hvm : v < m
    rotate_left
    · obtain rfl : v = m := by omega
      go_wp2_with fail
      go_ret
      exact .inr ⟨v, A', c', rfl, HCK.out, rfl, HOv.out, HBv.out⟩
    have hvi : (v : Int) < (m : Int) := by omega
    have hw1 : IntKind.i64.wrap ((v : Int) - 1) = (v : Int) - 1 := IntWalk.i64_in _ (by omega)
    have hw3 : IntKind.i64.wrap (3 * (T.length : Int)) = 3 * (T.length : Int) := IntWalk.i64_in _ (by omega)
    have hw4 : IntKind.i64.wrap (3 * (T.length : Int) - 1) = 3 * (T.length : Int) - 1 := IntWalk.i64_in _ (by omega)
    obtain ⟨W0, hW0⟩ : ∃ W, W = wB.alloc (.cells #[.int .i64 ((v : Int) - 1), .int .i64 (-1), .int .i64 (-1), .int .i64 (-1), .int .i64 (-1)] 31) := ⟨_, rfl⟩
    have GX0 : Hid (Blk W0 wB.heap.size 31 #[.int .i64 ((v : Int) - 1), .int .i64 (-1), .int .i64 (-1), .int .i64 (-1), .int .i64 (-1)]) := by subst hW0; exact Lib.hid (Blk.new _ _ _)
    have GA0 : Hid (Blk W0 ga 24 #[.int .i64 (m : Int), .slice A T.length c]) := by subst hW0; exact Lib.hid (GAv.out.alloc _)
    have HO0 : Hid (AOwn W0 w.heap.size A' c' v (known T)) := by subst hW0; exact Lib.hid (HOv.out.alloc _)
    have HB0 : Hid (Below w.heap.size w W0) := by subst hW0; exact Lib.hid (bw_alloc HBv.out _)
    have HNX : Hid (∀ q, (Value.slice A' v c').ownBlock = some q → q < wB.heap.size) := Lib.hid fun q hq => (HOv.out.lt q hq).2
    have HGX : Hid (w.heap.size ≤ wB.heap.size) := Lib.hid HBv.out.size
    have GX0 : Hid (Blk W0 wB.heap.size 31 #[.int .i64 ((v : Int) - 1), .int .i64 (dnA T (v : Int) (3 * T.length)), .int .i64 (dnB T (v : Int) (3 * T.length)), .int .i64 (-1), .int .i64 (-1)]) := by rw [(dn_end T (v : Int)).1, (dn_end T (v : Int)).2]; exact GX0
    go_upto_region 9 with (fail)
    rw [← hW0]
    generalize wB.heap.size = gx at *
    clear hW0 GAv HOv HBv s0 s1
    go_loopw [6] (fun iv wr => ∃ (k : Nat) (q : Int), k ≤ 3 * T.length ∧ q = (k : Int) - 1 ∧ iv = .int .i64 q ∧ Hid (Blk wr gx 31 #[.int .i64 ((v : Int) - 1), .int .i64 (dnA T (v : Int) k), .int .i64 (dnB T (v : Int) k), .int .i64 (-1), .int .i64 (-1)]) ∧ Hid (Blk wr ga 24 #[.int .i64 (m : Int), .slice A T.length c]) ∧ Hid (AOwn wr w.heap.size A' c' v (known T)) ∧ Hid (Below w.heap.size w wr)) (fun iv _ => (intOf iv + 1).toNat)
    case atStart => exact ⟨3 * T.length, 3 * (T.length : Int) - 1, by omega, by omega, rfl, GX0, GA0, HO0, HB0⟩
    case round =>
      obtain ⟨k, q, hk, hq, rfl, GXwC, GAwC, HOwC, HBwC⟩ := hrel
      obtain ⟨wC, hwC⟩ : ∃ wC : World, wC = wr := ⟨_, rfl⟩
      rw [← hwC] at GXwC GAwC HOwC HBwC ⊢
      clear hwC GX0 GA0 HO0 HB0
      obtain ⟨s0, s1, _, _, _⟩ := soup_facts GAwC.out
      cases k with
      | zero =>
        obtain rfl : q = -1 := by omega
        clear hq hk
        rcases HKD.out v with ⟨ha0, hb0, hkn⟩ | ⟨ha0, hkn⟩
        · have HK := Lib.hid hkn
          unfold ar0 at HK
          rw [ha0, hb0] at GXwC
          clear hkn ha0 hb0
          obtain ⟨x0, x1, x2, x3, x4⟩ := kar_facts GXwC.out
          obtain ⟨x0, x1, x2, x3, x4⟩ := kar_facts GXwC.out
          have HBE : Hid (Below w.heap.size w (wC.alloc (.cells #[.int .i64 ((v : Int) - 1), .int .i64 (-1), .int .i64 (-1), .int .i64 (-1), .int .i64 (-1)] 31))) := Lib.hid (bw_alloc HBwC.out _)
          have HOE : Hid (AOwn (wC.alloc (.cells #[.int .i64 ((v : Int) - 1), .int .i64 (-1), .int .i64 (-1), .int .i64 (-1), .int .i64 (-1)] 31)) w.heap.size A' c' v (known T)) := Lib.hid (HOwC.out.alloc _)
          have HL5 : Hid (arL (known T) v ++ [.int .i64 ((v : Int) - 1), .int .i64 (-1), .int .i64 (-1), .int .i64 (-1), .int .i64 (-1)] = arL (known T) (v + 1)) := Lib.hid (by show _ = arL (known T) v ++ _; rw [HK.out])
          go_upto_region 6 with (at_builtin; go_must (refine wpList_append_sl _ rfl (.tmp 90) (.tmp 92) _ rfl w.heap.size 31 i0 _ 5 40 Try.underlying28 hi0 hz0 hz1 hz2 rfl (by omega) (.slice A' v c') v (arL (known T) v) rfl HOE.out.owns (wC.heap.size + 1) (some ⟨wC.heap.size, 0, none⟩) 1 1 [.int .i64 ((v : Int) - 1), .int .i64 (-1), .int .i64 (-1), .int .i64 (-1), .int .i64 (-1)] rfl (reads_new wC #[.int .i64 ((v : Int) - 1), .int .i64 (-1), .int .i64 (-1), .int .i64 (-1), .int .i64 (-1)] 31 1 5 rfl) (by intro u hu; simp at hu; rcases hu with rfl | rfl | rfl | rfl | rfl <;> rfl) (by simp only [maxLen]; omega) (by omega) (bw_size HBE.out) ?_); intro A5 c5 w5 hown5 hg5 hat5)
          have GAn : Hid (Blk w5 ga 24 #[.int .i64 (m : Int), .slice A T.length c]) := Lib.hid ((GAwC.out.alloc _).grown hg5 (fun e => own_blk_ne HOE.out.owns (GAwC.out.alloc _) (by decide) e.symm))
          have HBn : Hid (Below w.heap.size w w5) := Lib.hid (bw_grow HBE.out hg5 (fun q hq => (HOE.out.lt q hq).1))
          have HOn : Hid (AOwn w5 w.heap.size A5 c5 (v + 1) (known T)) := Lib.hid (AOwn.of_ (by rw [← HL5.out]; exact hown5))
          clear hown5 hg5 hat5 HBE HOE GXwC GAwC HOwC HBwC x0 x1 x2 x3 x4 HL5 HNX HGX HK
          go_wp2_with fail
          exact ⟨⟨v + 1, A5, c5, by omega, rfl, by go_num, GAn, HOn, HBn⟩, by simp [intOf]; omega⟩
        generalize dnA T (v : Int) 0 = ta at *
        generalize dnB T (v : Int) 0 = tb at *
        have HK := Lib.hid hkn
        clear hkn
        obtain ⟨xv, HXV⟩ : ∃ xv, Hid (overI T tb ta (v : Int) = xv) := ⟨_, Lib.hid rfl⟩
        rw [HXV.out] at HK
        obtain ⟨x0, x1, x2, x3, x4⟩ := kar_facts GXwC.out
        go_wp2_with fail
        refine (third_any (m : Int) A c T tb ta (v : Int) wC (by omega) ((HT.out.below HBwC.out).more HBwC.out.size)).mono ?_
        rw [HXV.out]
        rintro e w7 ⟨rfl, hb⟩
        have GAw7 := Lib.hid (blk_call GAwC.out hb)
        have GXw7 := Lib.hid (blk_call GXwC.out hb)
        have HOw7 := Lib.hid (HOwC.out.below hb)
        have HBw7 := Lib.hid (bw_call HBwC.out hb)
        clear hb GAwC GXwC HOwC HBwC x0 x1 x2 x3 x4 s0 s1
        obtain ⟨x0, x1, x2, x3, x4⟩ := kar_facts GXw7.out
        have f3 := GXw7.out.frozen 3
        obtain ⟨w8, hw8⟩ : ∃ u, u = w7.setCell ⟨gx, 3, none⟩ (.int .i64 xv) := ⟨_, rfl⟩
        have GXw8 : Hid (Blk w8 gx 31 #[.int .i64 ((v : Int) - 1), .int .i64 ta, .int .i64 tb, .int .i64 xv, .int .i64 (-1)]) := by subst hw8; exact Lib.hid (GXw7.out.set_ 3 (.int .i64 xv))
        have GAw8 : Hid (Blk w8 ga 24 #[.int .i64 (m : Int), .slice A T.length c]) := by subst hw8; exact Lib.hid (GAw7.out.far (GAw7.out.ne_ GXw7.out (by decide)) _ (p := ⟨gx, 3, none⟩))
        have HOw8 : Hid (AOwn w8 w.heap.size A' c' v (known T)) := by subst hw8; exact Lib.hid (HOw7.out.far HNX.out 3 _)
        have HBw8 : Hid (Below w.heap.size w w8) := by subst hw8; exact Lib.hid (bw_set HBw7.out HGX.out _ (p := ⟨gx, 3, none⟩))
        go_upto_region 16 with (fail)
        rw [← hw8]
        clear hw8 GXw7 GAw7 HOw7 HBw7 f3 x0 x1 x2 x3 x4
        obtain ⟨x0, x1, x2, x3, x4⟩ := kar_facts GXw8.out
        obtain ⟨s0, s1, _, _, _⟩ := soup_facts GAw8.out
        by_cases hx0 : xv < 0
        · rw [if_pos hx0] at HK
          obtain ⟨x0, x1, x2, x3, x4⟩ := kar_facts GXw8.out
          have HBE : Hid (Below w.heap.size w (w8.alloc (.cells #[.int .i64 ((v : Int) - 1), .int .i64 ta, .int .i64 tb, .int .i64 xv, .int .i64 (-1)] 31))) := Lib.hid (bw_alloc HBw8.out _)
          have HOE : Hid (AOwn (w8.alloc (.cells #[.int .i64 ((v : Int) - 1), .int .i64 ta, .int .i64 tb, .int .i64 xv, .int .i64 (-1)] 31)) w.heap.size A' c' v (known T)) := Lib.hid (HOw8.out.alloc _)
          have HL5 : Hid (arL (known T) v ++ [.int .i64 ((v : Int) - 1), .int .i64 ta, .int .i64 tb, .int .i64 xv, .int .i64 (-1)] = arL (known T) (v + 1)) := Lib.hid (by show _ = arL (known T) v ++ _; rw [HK.out])
          go_upto_region 6 with (at_builtin; go_must (refine wpList_append_sl _ rfl (.tmp 90) (.tmp 92) _ rfl w.heap.size 31 i0 _ 5 40 Try.underlying28 hi0 hz0 hz1 hz2 rfl (by omega) (.slice A' v c') v (arL (known T) v) rfl HOE.out.owns (w8.heap.size + 1) (some ⟨w8.heap.size, 0, none⟩) 1 1 [.int .i64 ((v : Int) - 1), .int .i64 ta, .int .i64 tb, .int .i64 xv, .int .i64 (-1)] rfl (reads_new w8 #[.int .i64 ((v : Int) - 1), .int .i64 ta, .int .i64 tb, .int .i64 xv, .int .i64 (-1)] 31 1 5 rfl) (by intro u hu; simp at hu; rcases hu with rfl | rfl | rfl | rfl | rfl <;> rfl) (by simp only [maxLen]; omega) (by omega) (bw_size HBE.out) ?_); intro A5 c5 w5 hown5 hg5 hat5)
          have GAn : Hid (Blk w5 ga 24 #[.int .i64 (m : Int), .slice A T.length c]) := Lib.hid ((GAw8.out.alloc _).grown hg5 (fun e => own_blk_ne HOE.out.owns (GAw8.out.alloc _) (by decide) e.symm))
          have HBn : Hid (Below w.heap.size w w5) := Lib.hid (bw_grow HBE.out hg5 (fun q hq => (HOE.out.lt q hq).1))
          have HOn : Hid (AOwn w5 w.heap.size A5 c5 (v + 1) (known T)) := Lib.hid (AOwn.of_ (by rw [← HL5.out]; exact hown5))
          clear hown5 hg5 hat5 HBE HOE GXw8 GAw8 HOw8 HBw8 x0 x1 x2 x3 x4 HL5 HNX HGX HK
          go_wp2_with fail
          exact ⟨⟨v + 1, A5, c5, by omega, rfl, by go_num, GAn, HOn, HBn⟩, by simp [intOf]; omega⟩
        rw [if_neg hx0] at HK
        obtain ⟨yv, HYV⟩ : ∃ yv, Hid (overI T tb xv (v : Int) = yv) := ⟨_, Lib.hid rfl⟩
        rw [HYV.out] at HK
        go_wp2_with fail
        refine (third_any (m : Int) A c T tb xv (v : Int) w8 (by omega) ((HT.out.below HBw8.out).more HBw8.out.size)).mono ?_
        rw [HYV.out]
        rintro e w9 ⟨rfl, hb⟩
        have GAw9 := Lib.hid (blk_call GAw8.out hb)
        have GXw9 := Lib.hid (blk_call GXw8.out hb)
        have HOw9 := Lib.hid (HOw8.out.below hb)
        have HBw9 := Lib.hid (bw_call HBw8.out hb)
        clear hb GAw8 GXw8 HOw8 HBw8 x0 x1 x2 x3 x4 s0 s1
        obtain ⟨x0, x1, x2, x3, x4⟩ := kar_facts GXw9.out
        have f3 := GXw9.out.frozen 4
        obtain ⟨w10, hw10⟩ : ∃ u, u = w9.setCell ⟨gx, 4, none⟩ (.int .i64 yv) := ⟨_, rfl⟩
        have GXw10 : Hid (Blk w10 gx 31 #[.int .i64 ((v : Int) - 1), .int .i64 ta, .int .i64 tb, .int .i64 xv, .int .i64 yv]) := by subst hw10; exact Lib.hid (GXw9.out.set_ 4 (.int .i64 yv))
        have GAw10 : Hid (Blk w10 ga 24 #[.int .i64 (m : Int), .slice A T.length c]) := by subst hw10; exact Lib.hid (GAw9.out.far (GAw9.out.ne_ GXw9.out (by decide)) _ (p := ⟨gx, 4, none⟩))
        have HOw10 : Hid (AOwn w10 w.heap.size A' c' v (known T)) := by subst hw10; exact Lib.hid (HOw9.out.far HNX.out 4 _)
        have HBw10 : Hid (Below w.heap.size w w10) := by subst hw10; exact Lib.hid (bw_set HBw9.out HGX.out _ (p := ⟨gx, 4, none⟩))
        go_upto_region 18 with (fail)
        rw [← hw10]
        clear hw10 GXw9 GAw9 HOw9 HBw9 f3 x0 x1 x2 x3 x4
        obtain ⟨x0, x1, x2, x3, x4⟩ := kar_facts GXw10.out
        obtain ⟨s0, s1, _, _, _⟩ := soup_facts GAw10.out
        by_cases hy0 : yv < 0
        rotate_left
        · rw [if_neg hy0] at HK
          obtain ⟨x0, x1, x2, x3, x4⟩ := kar_facts GXw10.out
          have HBE : Hid (Below w.heap.size w (w10.alloc (.cells #[.int .i64 ((v : Int) - 1), .int .i64 ta, .int .i64 tb, .int .i64 xv, .int .i64 yv] 31))) := Lib.hid (bw_alloc HBw10.out _)
          have HOE : Hid (AOwn (w10.alloc (.cells #[.int .i64 ((v : Int) - 1), .int .i64 ta, .int .i64 tb, .int .i64 xv, .int .i64 yv] 31)) w.heap.size A' c' v (known T)) := Lib.hid (HOw10.out.alloc _)
          have HL5 : Hid (arL (known T) v ++ [.int .i64 ((v : Int) - 1), .int .i64 ta, .int .i64 tb, .int .i64 xv, .int .i64 yv] = arL (known T) (v + 1)) := Lib.hid (by show _ = arL (known T) v ++ _; rw [HK.out])
          go_upto_region 6 with (at_builtin; go_must (refine wpList_append_sl _ rfl (.tmp 90) (.tmp 92) _ rfl w.heap.size 31 i0 _ 5 40 Try.underlying28 hi0 hz0 hz1 hz2 rfl (by omega) (.slice A' v c') v (arL (known T) v) rfl HOE.out.owns (w10.heap.size + 1) (some ⟨w10.heap.size, 0, none⟩) 1 1 [.int .i64 ((v : Int) - 1), .int .i64 ta, .int .i64 tb, .int .i64 xv, .int .i64 yv] rfl (reads_new w10 #[.int .i64 ((v : Int) - 1), .int .i64 ta, .int .i64 tb, .int .i64 xv, .int .i64 yv] 31 1 5 rfl) (by intro u hu; simp at hu; rcases hu with rfl | rfl | rfl | rfl | rfl <;> rfl) (by simp only [maxLen]; omega) (by omega) (bw_size HBE.out) ?_); intro A5 c5 w5 hown5 hg5 hat5)
          have GAn : Hid (Blk w5 ga 24 #[.int .i64 (m : Int), .slice A T.length c]) := Lib.hid ((GAw10.out.alloc _).grown hg5 (fun e => own_blk_ne HOE.out.owns (GAw10.out.alloc _) (by decide) e.symm))
          have HBn : Hid (Below w.heap.size w w5) := Lib.hid (bw_grow HBE.out hg5 (fun q hq => (HOE.out.lt q hq).1))
          have HOn : Hid (AOwn w5 w.heap.size A5 c5 (v + 1) (known T)) := Lib.hid (AOwn.of_ (by rw [← HL5.out]; exact hown5))
          clear hown5 hg5 hat5 HBE HOE GXw10 GAw10 HOw10 HBw10 x0 x1 x2 x3 x4 HL5 HNX HGX HK
          go_wp2_with fail
          exact ⟨⟨v + 1, A5, c5, by omega, rfl, by go_num, GAn, HOn, HBn⟩, by simp [intOf]; omega⟩
        rw [if_pos hy0] at HK
        obtain ⟨zv, HZV⟩ : ∃ zv, Hid (overI T xv ta (v : Int) = zv) := ⟨_, Lib.hid rfl⟩
        rw [HZV.out] at HK
        go_wp2_with fail
        refine (third_any (m : Int) A c T xv ta (v : Int) w10 (by omega) ((HT.out.below HBw10.out).more HBw10.out.size)).mono ?_
        rw [HZV.out]
        rintro e w11 ⟨rfl, hb⟩
        have GAw11 := Lib.hid (blk_call GAw10.out hb)
        have GXw11 := Lib.hid (blk_call GXw10.out hb)
        have HOw11 := Lib.hid (HOw10.out.below hb)
        have HBw11 := Lib.hid (bw_call HBw10.out hb)
        clear hb GAw10 GXw10 HOw10 HBw10 x0 x1 x2 x3 x4 s0 s1
        obtain ⟨x0, x1, x2, x3, x4⟩ := kar_facts GXw11.out
        have f3 := GXw11.out.frozen 4
        obtain ⟨w12, hw12⟩ : ∃ u, u = w11.setCell ⟨gx, 4, none⟩ (.int .i64 zv) := ⟨_, rfl⟩
        have GXw12 : Hid (Blk w12 gx 31 #[.int .i64 ((v : Int) - 1), .int .i64 ta, .int .i64 tb, .int .i64 xv, .int .i64 zv]) := by subst hw12; exact Lib.hid (GXw11.out.set_ 4 (.int .i64 zv))
        have GAw12 : Hid (Blk w12 ga 24 #[.int .i64 (m : Int), .slice A T.length c]) := by subst hw12; exact Lib.hid (GAw11.out.far (GAw11.out.ne_ GXw11.out (by decide)) _ (p := ⟨gx, 4, none⟩))
        have HOw12 : Hid (AOwn w12 w.heap.size A' c' v (known T)) := by subst hw12; exact Lib.hid (HOw11.out.far HNX.out 4 _)
        have HBw12 : Hid (Below w.heap.size w w12) := by subst hw12; exact Lib.hid (bw_set HBw11.out HGX.out _ (p := ⟨gx, 4, none⟩))
        go_upto_region 20 with (fail)
        rw [← hw12]
        clear hw12 GXw11 GAw11 HOw11 HBw11 f3 x0 x1 x2 x3 x4
        obtain ⟨x0, x1, x2, x3, x4⟩ := kar_facts GXw12.out
        obtain ⟨s0, s1, _, _, _⟩ := soup_facts GAw12.out
        obtain ⟨x0, x1, x2, x3, x4⟩ := kar_facts GXw12.out
        have HBE : Hid (Below w.heap.size w (w12.alloc (.cells #[.int .i64 ((v : Int) - 1), .int .i64 ta, .int .i64 tb, .int .i64 xv, .int .i64 zv] 31))) := Lib.hid (bw_alloc HBw12.out _)
        have HOE : Hid (AOwn (w12.alloc (.cells #[.int .i64 ((v : Int) - 1), .int .i64 ta, .int .i64 tb, .int .i64 xv, .int .i64 zv] 31)) w.heap.size A' c' v (known T)) := Lib.hid (HOw12.out.alloc _)
        have HL5 : Hid (arL (known T) v ++ [.int .i64 ((v : Int) - 1), .int .i64 ta, .int .i64 tb, .int .i64 xv, .int .i64 zv] = arL (known T) (v + 1)) := Lib.hid (by show _ = arL (known T) v ++ _; rw [HK.out])
        go_upto_region 6 with (at_builtin; go_must (refine wpList_append_sl _ rfl (.tmp 90) (.tmp 92) _ rfl w.heap.size 31 i0 _ 5 40 Try.underlying28 hi0 hz0 hz1 hz2 rfl (by omega) (.slice A' v c') v (arL (known T) v) rfl HOE.out.owns (w12.heap.size + 1) (some ⟨w12.heap.size, 0, none⟩) 1 1 [.int .i64 ((v : Int) - 1), .int .i64 ta, .int .i64 tb, .int .i64 xv, .int .i64 zv] rfl (reads_new w12 #[.int .i64 ((v : Int) - 1), .int .i64 ta, .int .i64 tb, .int .i64 xv, .int .i64 zv] 31 1 5 rfl) (by intro u hu; simp at hu; rcases hu with rfl | rfl | rfl | rfl | rfl <;> rfl) (by simp only [maxLen]; omega) (by omega) (bw_size HBE.out) ?_); intro A5 c5 w5 hown5 hg5 hat5)
        have GAn : Hid (Blk w5 ga 24 #[.int .i64 (m : Int), .slice A T.length c]) := Lib.hid ((GAw12.out.alloc _).grown hg5 (fun e => own_blk_ne HOE.out.owns (GAw12.out.alloc _) (by decide) e.symm))
        have HBn : Hid (Below w.heap.size w w5) := Lib.hid (bw_grow HBE.out hg5 (fun q hq => (HOE.out.lt q hq).1))
        have HOn : Hid (AOwn w5 w.heap.size A5 c5 (v + 1) (known T)) := Lib.hid (AOwn.of_ (by rw [← HL5.out]; exact hown5))
        clear hown5 hg5 hat5 HBE HOE GXw12 GAw12 HOw12 HBw12 x0 x1 x2 x3 x4 HL5 HNX HGX HK
        go_wp2_with fail
        exact ⟨⟨v + 1, A5, c5, by omega, rfl, by go_num, GAn, HOn, HBn⟩, by simp [intOf]; omega⟩
      | succ k =>
        obtain rfl : q = (k : Int) := by omega
        clear hq
        have hlt : k < 3 * T.length := by omega
        have HN : Hid (∀ (W : World), Calls Try.prog 25 #[.int .i64 (k : Int)] W (IntPost W (nxc k : Int))) := Lib.hid fun W => (r15Next_any k W (by omega)).mono fun e w' h => ⟨h.1, h.2 ▸ Below.refl _ _⟩
        have HP : Hid (∀ (W : World), Calls Try.prog 26 #[.int .i64 (k : Int)] W (IntPost W (pvc k : Int))) := Lib.hid fun W => (r15Prev_any k W (by omega)).mono fun e w' h => ⟨h.1, h.2 ▸ Below.refl _ _⟩
        have HV1 : Hid (∀ (W : World) (h : Below w.heap.size w W), Calls Try.prog 24 #[.agg #[.int .i64 (m : Int), .slice A T.length c], .int .i64 (nxc k : Int)] W (IntPost W (cv T (nxc k)))) := Lib.hid fun W h => r15V_any (m : Int) A c T (nxc k) W (by omega) (nxc_lt hlt) ((HT.out.below h).more h.size)
        have HV2 : Hid (∀ (W : World) (h : Below w.heap.size w W), Calls Try.prog 24 #[.agg #[.int .i64 (m : Int), .slice A T.length c], .int .i64 (pvc k : Int)] W (IntPost W (cv T (pvc k)))) := Lib.hid fun W h => r15V_any (m : Int) A c T (pvc k) W (by omega) (pvc_lt hlt) ((HT.out.below h).more h.size)
        have HV0 : Hid (∀ (W : World) (h : Below w.heap.size w W), Calls Try.prog 24 #[.agg #[.int .i64 (m : Int), .slice A T.length c], .int .i64 (k : Int)] W (IntPost W (cv T k))) := Lib.hid fun W h => r15V_any (m : Int) A c T k W (by omega) hlt ((HT.out.below h).more h.size)
        have HYES : Hid (cv T k = (v : Int) ∧ cv T (nxc k) < (v : Int) ∧ cv T (pvc k) < (v : Int) → dnA T (v : Int) k = cv T (nxc k) ∧ dnB T (v : Int) k = cv T (pvc k)) := Lib.hid fun h => dn_yes hlt (decide_eq_true h)
        have HNO : Hid (¬ (cv T k = (v : Int) ∧ cv T (nxc k) < (v : Int) ∧ cv T (pvc k) < (v : Int)) → dnA T (v : Int) k = dnA T (v : Int) (k + 1) ∧ dnB T (v : Int) k = dnB T (v : Int) (k + 1)) := Lib.hid fun h => dn_no hlt (decide_eq_false h)
        have hk0 : (0 : Int) ≤ (k : Int) := by omega
        have hw5 : IntKind.i64.wrap ((k : Int) - 1) = (k : Int) - 1 := IntWalk.i64_in _ (by omega)
        go_upto_region 11 with (fail)
        refine wp_region_till (S := fun w' => w'.cell? ⟨ga, 0, none⟩ = some (.int .i64 (m : Int)) ∧ w'.cell? ⟨ga, 1, none⟩ = some (.slice A T.length c)) 9 (by kernel_rfl) ⟨(soup_facts GAwC.out.drew).1, (soup_facts GAwC.out.drew).2.1⟩ (fun hHeld => ?_)
        refine Till.take (i := 0) (v := ?vt1) rfl (by kernel_rfl) (by kernel_rfl) (by kernel_rfl) (by kernel_rfl) (fun _ _ _ h => h) (Or.inl ⟨by rfl, ?ht1⟩) (by assumption) ?restt1
        case ht1 => (intro w hSw; (try dsimp only at hSw); go_simp; try with_reducible rfl)
        (try simp only [Act.put, List.setIfInBounds_toArray, List.set_cons_zero, List.set_cons_succ])
        refine Till.take (i := 1) (v := ?vt2) rfl (by kernel_rfl) (by kernel_rfl) (by kernel_rfl) (by kernel_rfl) (fun _ _ _ h => h) (Or.inl ⟨by rfl, ?ht2⟩) (by assumption) ?restt2
        case ht2 => (intro w hSw; (try dsimp only at hSw); go_simp; try with_reducible rfl)
        (try simp only [Act.put, List.setIfInBounds_toArray, List.set_cons_zero, List.set_cons_succ])
        refine Till.take (i := 4) (v := ?vt3) rfl (by kernel_rfl) (by kernel_rfl) (by kernel_rfl) (by kernel_rfl) (fun _ _ _ h => h) (Or.inl ⟨by rfl, ?ht3⟩) (by assumption) ?restt3
        case ht3 => (intro w hSw; (try dsimp only at hSw); go_simp; try with_reducible rfl)
        (try simp only [Act.put, List.setIfInBounds_toArray, List.set_cons_zero, List.set_cons_succ])
        refine Till.take (i := 5) (v := ?vt4) rfl (by kernel_rfl) (by kernel_rfl) (by kernel_rfl) (by kernel_rfl) (fun _ _ _ h => h) (Or.inl ⟨by rfl, ?ht4⟩) (by assumption) ?restt4
        case ht4 => (intro w hSw; (try dsimp only at hSw); go_simp; try with_reducible rfl)
        (try simp only [Act.put, List.setIfInBounds_toArray, List.set_cons_zero, List.set_cons_succ])
        refine Till.ready (rs := [2]) (by kernel_rfl) (by simp) ?_
        refine TillEach.cons rfl (fun K hK => ?_) ?_
        · go_simp
          go_wp2_with (go_at_call 25; refine (HN.out wC.drew).mono ?_; rintro e v3 ⟨rfl, hb⟩)
          have GAv3 := Lib.hid (blk_call GAwC.out.drew hb)
          have GXv3 := Lib.hid (blk_call GXwC.out.drew hb)
          have HOv3 := Lib.hid (HOwC.out.drew.below hb)
          have HBv3 := Lib.hid (bw_call (bw_drew HBwC.out) hb)
          clear hb
          refine hK.out _ _ ?_ (fun hHeld => ?_)
          · exact ⟨(soup_facts GAv3.out).1, (soup_facts GAv3.out).2.1⟩
          clear hK K
          (try simp only [Act.put, List.setIfInBounds_toArray, List.set_cons_zero, List.set_cons_succ])
          refine Till.ready (rs := [3]) (by kernel_rfl) (by simp) ?_
          refine TillEach.cons rfl (fun K hK => ?_) ?_
          · go_simp
            go_wp2_with (go_at_call 24; refine (HV1.out v3 HBv3.out).mono ?_; rintro e v4 ⟨rfl, hb⟩)
            have GAv4 := Lib.hid (blk_call GAv3.out hb)
            have GXv4 := Lib.hid (blk_call GXv3.out hb)
            have HOv4 := Lib.hid (HOv3.out.below hb)
            have HBv4 := Lib.hid (bw_call HBv3.out hb)
            clear hb GAv3 GXv3 HOv3 HBv3
            refine hK.out _ _ ?_ (fun hHeld => ?_)
            · exact ⟨(soup_facts GAv4.out).1, (soup_facts GAv4.out).2.1⟩
            clear hK K
            (try simp only [Act.put, List.setIfInBounds_toArray, List.set_cons_zero, List.set_cons_succ])
            refine Till.ready (rs := [6]) (by kernel_rfl) (by simp) ?_
            refine TillEach.cons rfl (fun K hK => ?_) ?_
            · go_simp
              go_wp2_with (go_at_call 26; refine (HP.out v4).mono ?_; rintro e v5 ⟨rfl, hb⟩)
              have GAv5 := Lib.hid (blk_call GAv4.out hb)
              have GXv5 := Lib.hid (blk_call GXv4.out hb)
              have HOv5 := Lib.hid (HOv4.out.below hb)
              have HBv5 := Lib.hid (bw_call HBv4.out hb)
              clear hb GAv4 GXv4 HOv4 HBv4
              refine hK.out _ _ ?_ (fun hHeld => ?_)
              · exact ⟨(soup_facts GAv5.out).1, (soup_facts GAv5.out).2.1⟩
              clear hK K
              (try simp only [Act.put, List.setIfInBounds_toArray, List.set_cons_zero, List.set_cons_succ])
              refine Till.ready (rs := [7]) (by kernel_rfl) (by simp) ?_
              refine TillEach.cons rfl (fun K hK => ?_) ?_
              · go_simp
                go_wp2_with (go_at_call 24; refine (HV2.out v5 HBv5.out).mono ?_; rintro e v6 ⟨rfl, hb⟩)
                have GAv6 := Lib.hid (blk_call GAv5.out hb)
                have GXv6 := Lib.hid (blk_call GXv5.out hb)
                have HOv6 := Lib.hid (HOv5.out.below hb)
                have HBv6 := Lib.hid (bw_call HBv5.out hb)
                clear hb GAv5 GXv5 HOv5 HBv5
                refine hK.out _ _ ?_ (fun hHeld => ?_)
                · exact ⟨(soup_facts GAv6.out).1, (soup_facts GAv6.out).2.1⟩
                clear hK K
                (try simp only [Act.put, List.setIfInBounds_toArray, List.set_cons_zero, List.set_cons_succ])
                refine Till.take (i := 8) (v := ?vt5) rfl (by kernel_rfl) (by kernel_rfl) (by kernel_rfl) (by kernel_rfl) (fun _ _ _ h => h) (Or.inl ⟨by rfl, ?ht5⟩) (by assumption) ?restt5
                case ht5 => (intro w hSw; (try dsimp only at hSw); go_simp; try with_reducible rfl)
                (try simp only [Act.put, List.setIfInBounds_toArray, List.set_cons_zero, List.set_cons_succ])
                refine Till.ready (rs := [9]) (by kernel_rfl) (by simp) ?_
                refine TillEach.last rfl (fun K hK => ?_)
                · go_simp
                  refine hK.out _ _ ?_
                  clear hK K
                  (try simp only [Act.put, List.setIfInBounds_toArray, List.set_cons_zero, List.set_cons_succ])
                  refine Till.done (by kernel_rfl) ?_ _
                  go_wp2_with fail
                  clear s0 s1 HN HP HV1 HV2
                  refine (HV0.out v6 HBv6.out).mono ?_
                  rintro e w6 ⟨rfl, hb⟩
                  have GA6 := Lib.hid (blk_call GAv6.out hb)
                  have GX6 := Lib.hid (blk_call GXv6.out hb)
                  have HO6 := Lib.hid (HOv6.out.below hb)
                  have HB6 := Lib.hid (bw_call HBv6.out hb)
                  clear hb GAv6 GXv6 HOv6 HBv6 HV0
                  generalize cv T k = ck at *
                  generalize cv T (nxc k) = ka at *
                  generalize cv T (pvc k) = kb at *
                  by_cases h1 : ck = (v : Int)
                  rotate_left
                  · have h1b : (ck == (v : Int)) = false := by simpa using h1
                    have GX6 := Lib.hid (GX6.out)
                    rw [← (HNO.out (fun h => h1 h.1)).1, ← (HNO.out (fun h => h1 h.1)).2] at GX6
                    clear HNO HYES h1
                    go_wp2_with fail
                    exact ⟨⟨k, (k : Int) - 1, by omega, rfl, by go_num, GX6, GA6, HO6, HB6⟩, by simp [intOf]⟩
                  by_cases h2 : ka < (v : Int)
                  rotate_left
                  · rw [← (HNO.out (fun h => h2 h.2.1)).1, ← (HNO.out (fun h => h2 h.2.1)).2] at GX6
                    clear HNO HYES
                    subst h1
                    go_wp2_with fail
                    exact ⟨⟨k, (k : Int) - 1, by omega, rfl, by go_num, GX6, GA6, HO6, HB6⟩, by simp [intOf]⟩
                  by_cases h3 : kb < (v : Int)
                  rotate_left
                  · rw [← (HNO.out (fun h => h3 h.2.2)).1, ← (HNO.out (fun h => h3 h.2.2)).2] at GX6
                    clear HNO HYES
                    subst h1
                    go_wp2_with fail
                    exact ⟨⟨k, (k : Int) - 1, by omega, rfl, by go_num, GX6, GA6, HO6, HB6⟩, by simp [intOf]⟩
                  have HY := Lib.hid (HYES.out ⟨h1, h2, h3⟩)
                  clear HNO HYES
                  subst h1
                  have GX7 := Lib.hid (GX6.out.set_ 1 (.int .i64 ka))
                  have GX8 := Lib.hid (GX7.out.set_ 2 (.int .i64 kb))
                  have GX9 : Hid (Blk ((w6.setCell ⟨gx, 1, none⟩ (.int .i64 ka)).setCell ⟨gx, 2, none⟩ (.int .i64 kb)) gx 31 #[.int .i64 ((v : Int) - 1), .int .i64 (dnA T (v : Int) k), .int .i64 (dnB T (v : Int) k), .int .i64 (-1), .int .i64 (-1)]) := by rw [HY.out.1, HY.out.2]; exact GX8
                  have GA7 := Lib.hid (GA6.out.far (GA6.out.ne_ GX6.out (by decide)) (.int .i64 ka) (p := ⟨gx, 1, none⟩))
                  have GA9 := Lib.hid (GA7.out.far (GA7.out.ne_ GX7.out (by decide)) (.int .i64 kb) (p := ⟨gx, 2, none⟩))
                  have HO9 := Lib.hid ((HO6.out.far HNX.out 1 (.int .i64 ka)).far HNX.out 2 (.int .i64 kb))
                  have HB9 := Lib.hid (bw_set (bw_set HB6.out HGX.out (.int .i64 ka) (p := ⟨gx, 1, none⟩)) HGX.out (.int .i64 kb) (p := ⟨gx, 2, none⟩))
                  obtain ⟨x0, x1, x2, x3, x4⟩ := kar_facts GX6.out
                  have f1 := GX6.out.frozen 1
                  have f2 := GX6.out.frozen 2
                  clear GX6 GX7 GX8 GA6 GA7 HO6 HB6
                  go_wp2_with fail
                  exact ⟨⟨k, (k : Int) - 1, by omega, rfl, by go_num, GX9, GA9, HO9, HB9⟩, by simp [intOf]⟩
              exact TillEach.nil
            exact TillEach.nil
          exact TillEach.nil
        exact TillEach.nil
end Go.Proofs.Ytcpfolojfdnojaa
