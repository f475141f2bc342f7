/- SoupPicks, walked. No condition. -/
import Derived.Test.YtmmjonpkpeanpaaWake8
namespace Go.Proofs.Ytmmjonpkpeanpaa
open Go.RowKit

theorem pick_len (N : Int) (T : List Tri) (l : List Int) : (pickL N T l).2.1.length ≤ l.length := by
  unfold pickL
  split
  · simp
  · split
    · simp
    · simp
theorem part_len (N : Int) (T : List Tri) (l : List Int) : (partL N T l).1.2.length ≤ l.length ∧ (partL N T l).2.1.length ≤ 4096 := by
  unfold partL
  split
  · simp
  · rename_i hf
    split
    · simp
    · split
      · simp
      · refine ⟨by simp, ?_⟩
        have h2 := fit_N (N := N) (T := T) (by simpa using hf)
        have h : (oldL N T l).length ≤ ((List.range N.toNat).map fun i : Nat => (i : Int)).length := List.length_filter_le _ _
        simp at h
        show (oldL N T l).length ≤ 4096
        omega
set_option linter.unusedSimpArgs false
set_option linter.unusedVariables false
attribute [local irreducible] Blk LRow IRow World.alloc World.setCell World.cell? World.frozen?
set_option maxRecDepth 100000 in
set_option maxHeartbeats 8000000 in
theorem picksLaw_any (N : Int) (A : Option Addr) (n c : Nat) (T : List Tri) (Al : Option Addr) (m cl : Nat) (l : List Int) (w : World) (ht : TrisAt w w.heap.size A n T) (hl : Reads w w.heap.size 1 Al m (ZL l)) :
    Calls Try.prog 3 #[.agg #[.int .i64 N, .slice A n c], .slice Al m cl] w (BoolPost w true) := by
  obtain rfl : n = T.length := ht.len.symm
  obtain rfl : m = l.length := by have := hl.1; simp [ZL] at this; exact this.symm
  have HT := Lib.hid ht
  have HL := Lib.hid hl
  clear ht hl
  go_enter Try.func3, Try.ntmps3
  go_wp2_with fail
  obtain ⟨V, hV⟩ : ∃ V, V = w.alloc (.cells #[.int .i64 N, .slice A T.length c] 24) := ⟨_, rfl⟩
  have H0 : Hid (Blk V w.heap.size 24 #[.int .i64 N, .slice A T.length c]) := by subst hV; exact Lib.hid (Blk.new _ _ _)
  have HB : Hid (Below w.heap.size w V) := by subst hV; exact Lib.hid (bw_alloc (Below.refl _ _) _)
  rw [← hV]
  clear hV
  obtain ⟨g0, hg0⟩ : ∃ g, g = w.heap.size := ⟨_, rfl⟩
  rw [← hg0] at H0
  simp only [← hg0]
  clear hg0
  refine (awake_any _).mono ?_
  rintro e w1 ⟨rfl, hb⟩
  have H1 := Lib.hid (blk_call H0.out hb)
  have HB1 := Lib.hid (bw_call HB.out hb)
  clear hb H0 HB
  obtain ⟨s0, s1, _, _, _⟩ := soup_facts H1.out
  go_wp2_with fail
  refine (great_any _ _ _ _ _).mono ?_
  rintro e w2 ⟨rfl, hb⟩
  have H2 := Lib.hid (blk_call H1.out hb)
  have HB2 := Lib.hid (bw_call HB1.out hb)
  clear hb H1 HB1 s0 s1
  by_cases hg : 40 < T.length
  · rw [decide_eq_true hg]
    go_wp2_with fail
    go_ret
    exact ⟨rfl, HB2.out⟩
  rw [decide_eq_false hg]
  by_cases hm : 40 < l.length
  · have hm' : (40 : Int) < (l.length : Int) := by omega
    go_wp2_with fail
    go_ret
    exact ⟨rfl, HB2.out⟩
  have hm' : ¬ (40 : Int) < (l.length : Int) := by omega
  obtain ⟨s0, s1, _, _, _⟩ := soup_facts H2.out
  have hp1 := pick_len N T l
  have hp2 := part_len N T l
  have HC1 := Lib.hid (fun (W : World) (h : Below w.heap.size w W) => pick_any N A T.length c T Al l.length cl l W (by omega) (by omega) ((HT.out.below h).more h.size) ((HL.out.below h).more h.size))
  have HC2 := Lib.hid (fun (W : World) (h : Below w.heap.size w W) => refPick_any N A T.length c T Al l.length cl l W (by omega) (by omega) ((HT.out.below h).more h.size) ((HL.out.below h).more h.size))
  have HC3 := Lib.hid (fun (W : World) (h : Below w.heap.size w W) => part_any N A T.length c T Al l.length cl l W (by omega) (by omega) ((HT.out.below h).more h.size) ((HL.out.below h).more h.size))
  have HC4 := Lib.hid (fun (W : World) (h : Below w.heap.size w W) => refPart_any N A T.length c T Al l.length cl l W (by omega) (by omega) ((HT.out.below h).more h.size) ((HL.out.below h).more h.size))
  generalize pickL N T l = r at *
  generalize partL N T l = p at *
  obtain ⟨rn, rT, re⟩ := r
  obtain ⟨⟨pn, pT⟩, po, pe⟩ := p
  simp only at hp1 hp2
  go_wp2_with fail
  refine (HC1.out _ HB2.out).mono ?_
  rintro e w3 ⟨A1, c1, rfl, hr, hb⟩
  simp only at hr
  have HX3 : Hid (LRow w3 0 A1 c1 rT) := Lib.hid (LRow.base hr (Nat.zero_le _))
  have H3 := Lib.hid (blk_call H2.out hb)
  have HB3 := Lib.hid (bw_call HB2.out hb)
  clear hr hb H2 HB2 s0 s1 HC1
  obtain ⟨w4, hw4⟩ : ∃ w4, w4 = w3.alloc (.cells #[.int .i64 rn, .slice A1 rT.length c1] 24) := ⟨_, rfl⟩
  have HXB : Hid (Blk w4 w3.heap.size 24 #[.int .i64 rn, .slice A1 rT.length c1]) := by subst hw4; exact Lib.hid (Blk.new _ _ _)
  have HX4 : Hid (LRow w4 0 A1 c1 rT) := by subst hw4; exact Lib.hid (HX3.out.alloc _)
  have H4 : Hid (Blk w4 g0 24 #[.int .i64 N, .slice A T.length c]) := by subst hw4; exact Lib.hid (H3.out.alloc _)
  have HB4 : Hid (Below w.heap.size w w4) := by subst hw4; exact Lib.hid (bw_alloc HB3.out _)
  have F4 : w4.cell? ⟨g0, 0, none⟩ = some (.int .i64 N) ∧ w4.cell? ⟨g0, 1, none⟩ = some (.slice A T.length c) := ⟨(soup_facts H4.out).1, (soup_facts H4.out).2.1⟩
  rw [hw4] at F4
  obtain ⟨s0, s1⟩ := F4
  go_wp2_with fail
  rw [← hw4]
  generalize w3.heap.size = g1 at *
  clear hw4 HX3 H3 HB3 s0 s1
  have XB4 := HXB
  have XR4 := HX4
  clear HXB HX4
  refine (HC2.out _ HB4.out).mono ?_
  rintro e w5 ⟨A2, c2, rfl, hr, hb⟩
  simp only at hr
  have YR5 : Hid (LRow w5 0 A2 c2 rT) := Lib.hid (LRow.base hr (Nat.zero_le _))
  have H5 := Lib.hid (blk_call H4.out hb)
  have XB5 := Lib.hid (blk_call XB4.out hb)
  have XR5 := Lib.hid (XR4.out.below hb)
  have HB5 := Lib.hid (bw_call HB4.out hb)
  clear hr hb H4 XB4 XR4 HB4 HC2
  obtain ⟨w6, hw6⟩ : ∃ W, W = w5.alloc (.cells #[.int .i64 rn, .slice A2 rT.length c2] 24) := ⟨_, rfl⟩
  have YB6 : Hid (Blk w6 w5.heap.size 24 #[.int .i64 rn, .slice A2 rT.length c2]) := by subst hw6; exact Lib.hid (Blk.new _ _ _)
  have H6 : Hid (Blk w6 g0 24 #[.int .i64 N, .slice A T.length c]) := by subst hw6; exact Lib.hid (H5.out.alloc _)
  have XB6 : Hid (Blk w6 g1 24 #[.int .i64 rn, .slice A1 rT.length c1]) := by subst hw6; exact Lib.hid (XB5.out.alloc _)
  have XR6 : Hid (LRow w6 0 A1 c1 rT) := by subst hw6; exact Lib.hid (XR5.out.alloc _)
  have YR6 : Hid (LRow w6 0 A2 c2 rT) := by subst hw6; exact Lib.hid (YR5.out.alloc _)
  have HB6 : Hid (Below w.heap.size w w6) := by subst hw6; exact Lib.hid (bw_alloc HB5.out _)
  have F : w6.cell? ⟨g0, 0, none⟩ = some (.int .i64 N) ∧ w6.cell? ⟨g0, 1, none⟩ = some (.slice A T.length c) := ⟨(soup_facts H6.out).1, (soup_facts H6.out).2.1⟩
  rw [hw6] at F
  obtain ⟨s0, s1⟩ := F
  go_wp2_with fail
  rw [← hw6]
  generalize w5.heap.size = g2 at *
  clear hw6 H5 XB5 XR5 YR5 HB5 s0 s1
  refine (HC3.out _ HB6.out).mono ?_
  rintro e w7 ⟨A3, c3, Ao, co, rfl, hr, hi, hb⟩
  simp only at hr
  simp only at hi
  have PR7 : Hid (LRow w7 0 A3 c3 pT) := Lib.hid (LRow.base hr (Nat.zero_le _))
  have OI7 : Hid (IRow w7 0 Ao co po) := Lib.hid (IRow.base hi (Nat.zero_le _))
  have H7 := Lib.hid (blk_call H6.out hb)
  have XB7 := Lib.hid (blk_call XB6.out hb)
  have YB7 := Lib.hid (blk_call YB6.out hb)
  have XR7 := Lib.hid (XR6.out.below hb)
  have YR7 := Lib.hid (YR6.out.below hb)
  have HB7 := Lib.hid (bw_call HB6.out hb)
  clear hr hi hb H6 XB6 YB6 XR6 YR6 HB6 HC3
  obtain ⟨w8, hw8⟩ : ∃ W, W = w7.alloc (.cells #[.int .i64 pn, .slice A3 pT.length c3] 24) := ⟨_, rfl⟩
  have PB8 : Hid (Blk w8 w7.heap.size 24 #[.int .i64 pn, .slice A3 pT.length c3]) := by subst hw8; exact Lib.hid (Blk.new _ _ _)
  have H8 : Hid (Blk w8 g0 24 #[.int .i64 N, .slice A T.length c]) := by subst hw8; exact Lib.hid (H7.out.alloc _)
  have XB8 : Hid (Blk w8 g1 24 #[.int .i64 rn, .slice A1 rT.length c1]) := by subst hw8; exact Lib.hid (XB7.out.alloc _)
  have YB8 : Hid (Blk w8 g2 24 #[.int .i64 rn, .slice A2 rT.length c2]) := by subst hw8; exact Lib.hid (YB7.out.alloc _)
  have XR8 : Hid (LRow w8 0 A1 c1 rT) := by subst hw8; exact Lib.hid (XR7.out.alloc _)
  have YR8 : Hid (LRow w8 0 A2 c2 rT) := by subst hw8; exact Lib.hid (YR7.out.alloc _)
  have PR8 : Hid (LRow w8 0 A3 c3 pT) := by subst hw8; exact Lib.hid (PR7.out.alloc _)
  have OI8 : Hid (IRow w8 0 Ao co po) := by subst hw8; exact Lib.hid (OI7.out.alloc _)
  have HB8 : Hid (Below w.heap.size w w8) := by subst hw8; exact Lib.hid (bw_alloc HB7.out _)
  have F : w8.cell? ⟨g0, 0, none⟩ = some (.int .i64 N) ∧ w8.cell? ⟨g0, 1, none⟩ = some (.slice A T.length c) := ⟨(soup_facts H8.out).1, (soup_facts H8.out).2.1⟩
  rw [hw8] at F
  obtain ⟨s0, s1⟩ := F
  go_wp2_with fail
  rw [← hw8]
  generalize w7.heap.size = g3 at *
  clear hw8 H7 XB7 YB7 XR7 YR7 PR7 OI7 HB7 s0 s1
  refine (HC4.out _ HB8.out).mono ?_
  rintro e w9 ⟨A4, c4, Aw, cw, rfl, hr, hi, hb⟩
  simp only at hr
  simp only at hi
  have QR9 : Hid (LRow w9 0 A4 c4 pT) := Lib.hid (LRow.base hr (Nat.zero_le _))
  have WI9 : Hid (IRow w9 0 Aw cw po) := Lib.hid (IRow.base hi (Nat.zero_le _))
  have H9 := Lib.hid (blk_call H8.out hb)
  have XB9 := Lib.hid (blk_call XB8.out hb)
  have YB9 := Lib.hid (blk_call YB8.out hb)
  have PB9 := Lib.hid (blk_call PB8.out hb)
  have XR9 := Lib.hid (XR8.out.below hb)
  have YR9 := Lib.hid (YR8.out.below hb)
  have PR9 := Lib.hid (PR8.out.below hb)
  have OI9 := Lib.hid (OI8.out.below hb)
  have HB9 := Lib.hid (bw_call HB8.out hb)
  clear hr hi hb H8 XB8 YB8 PB8 XR8 YR8 PR8 OI8 HB8 HC4
  obtain ⟨w10, hw10⟩ : ∃ W, W = w9.alloc (.cells #[.int .i64 pn, .slice A4 pT.length c4] 24) := ⟨_, rfl⟩
  have QB10 : Hid (Blk w10 w9.heap.size 24 #[.int .i64 pn, .slice A4 pT.length c4]) := by subst hw10; exact Lib.hid (Blk.new _ _ _)
  have H10 : Hid (Blk w10 g0 24 #[.int .i64 N, .slice A T.length c]) := by subst hw10; exact Lib.hid (H9.out.alloc _)
  have XB10 : Hid (Blk w10 g1 24 #[.int .i64 rn, .slice A1 rT.length c1]) := by subst hw10; exact Lib.hid (XB9.out.alloc _)
  have YB10 : Hid (Blk w10 g2 24 #[.int .i64 rn, .slice A2 rT.length c2]) := by subst hw10; exact Lib.hid (YB9.out.alloc _)
  have PB10 : Hid (Blk w10 g3 24 #[.int .i64 pn, .slice A3 pT.length c3]) := by subst hw10; exact Lib.hid (PB9.out.alloc _)
  have XR10 : Hid (LRow w10 0 A1 c1 rT) := by subst hw10; exact Lib.hid (XR9.out.alloc _)
  have YR10 : Hid (LRow w10 0 A2 c2 rT) := by subst hw10; exact Lib.hid (YR9.out.alloc _)
  have PR10 : Hid (LRow w10 0 A3 c3 pT) := by subst hw10; exact Lib.hid (PR9.out.alloc _)
  have QR10 : Hid (LRow w10 0 A4 c4 pT) := by subst hw10; exact Lib.hid (QR9.out.alloc _)
  have OI10 : Hid (IRow w10 0 Ao co po) := by subst hw10; exact Lib.hid (OI9.out.alloc _)
  have WI10 : Hid (IRow w10 0 Aw cw po) := by subst hw10; exact Lib.hid (WI9.out.alloc _)
  have HB10 : Hid (Below w.heap.size w w10) := by subst hw10; exact Lib.hid (bw_alloc HB9.out _)
  have F : w10.cell? ⟨g0, 0, none⟩ = some (.int .i64 N) ∧ w10.cell? ⟨g0, 1, none⟩ = some (.slice A T.length c) := ⟨(soup_facts H10.out).1, (soup_facts H10.out).2.1⟩
  clear F
  have FX : w10.cell? ⟨g1, 0, none⟩ = some (.int .i64 rn) ∧ w10.cell? ⟨g1, 1, none⟩ = some (.slice A1 rT.length c1) ∧ w10.cell? ⟨g2, 0, none⟩ = some (.int .i64 rn) ∧ w10.cell? ⟨g2, 1, none⟩ = some (.slice A2 rT.length c2) := ⟨(soup_facts XB10.out).1, (soup_facts XB10.out).2.1, (soup_facts YB10.out).1, (soup_facts YB10.out).2.1⟩
  rw [hw10] at FX
  obtain ⟨x0, x1, y0, y1⟩ := FX
  go_wp2_with fail
  rw [← hw10]
  generalize w9.heap.size = g4 at *
  clear hw10 H9 XB9 YB9 PB9 XR9 YR9 PR9 QR9 OI9 WI9 HB9 x0 x1 y0 y1
  refine (refSame_any rn rT A1 A2 rT.length c1 c2 w10 (by omega) XR10.out.tris YR10.out.tris).mono ?_
  rintro e w11 ⟨rfl, hb⟩
  have PB11 := Lib.hid (blk_call PB10.out hb)
  have QB11 := Lib.hid (blk_call QB10.out hb)
  have PR11 := Lib.hid (PR10.out.below hb)
  have QR11 := Lib.hid (QR10.out.below hb)
  have OI11 := Lib.hid (OI10.out.below hb)
  have WI11 := Lib.hid (WI10.out.below hb)
  have HB11 := Lib.hid (bw_call HB10.out hb)
  clear hb H10 XB10 YB10 PB10 QB10 XR10 YR10 PR10 QR10 OI10 WI10 HB10
  obtain ⟨p0, p1, _, _, _⟩ := soup_facts PB11.out
  obtain ⟨q0, q1, _, _, _⟩ := soup_facts QB11.out
  go_wp2_with fail
  refine (refSame_any pn pT A3 A4 pT.length c3 c4 w11 (by omega) PR11.out.tris QR11.out.tris).mono ?_
  rintro e w12 ⟨rfl, hb⟩
  have OI12 := Lib.hid (OI11.out.below hb)
  have WI12 := Lib.hid (WI11.out.below hb)
  have HB12 := Lib.hid (bw_call HB11.out hb)
  clear hb PB11 QB11 PR11 QR11 OI11 WI11 HB11 p0 p1 q0 q1
  go_wp2_with fail
  refine (refInts_any po Ao Aw po.length co cw w12 (by omega) OI12.out.reads WI12.out.reads).mono ?_
  rintro e w13 ⟨rfl, hb⟩
  have HB13 := Lib.hid (bw_call HB12.out hb)
  clear hb OI12 WI12 HB12
  go_wp2_with fail
  go_ret
  exact ⟨rfl, HB13.out⟩
end Go.Proofs.Ytmmjonpkpeanpaa
