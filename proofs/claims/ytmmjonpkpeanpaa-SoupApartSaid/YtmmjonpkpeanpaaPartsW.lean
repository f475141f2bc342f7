/- SoupParts, walked. No condition. -/
import Derived.Test.YtmmjonpkpeanpaaPartsP
import Derived.Test.YtmmjonpkpeanpaaJoin8
import Derived.Test.YtmmjonpkpeanpaaSame8
import Derived.Deep.CutBlock
namespace Go.Proofs.Ytmmjonpkpeanpaa
open Go.RowKit

set_option linter.unusedSimpArgs false
set_option linter.unusedVariables false
/-- Two soups' boxes. -/
structure Two (w0 w : World) (ga gb : Nat) (N : Int) (A : Option Addr) (n c : Nat) (M : Int) (A' : Option Addr) (n' c' : Nat) : Prop where
  a : Blk w ga 24 #[.int .i64 N, .slice A n c]
  b : Blk w gb 24 #[.int .i64 M, .slice A' n' c']
  l : Below w0.heap.size w0 w
section
variable {w0 w w' : World} {ga gb : Nat} {N M : Int} {A A' : Option Addr} {n c n' c' : Nat}
theorem Two.on (h : Two w0 w ga gb N A n c M A' n' c') (hb : Below w.heap.size w w') : Two w0 w' ga gb N A n c M A' n' c' := ⟨blk_call h.a hb, blk_call h.b hb, bw_call h.l hb⟩
theorem Two.alloc (h : Two w0 w ga gb N A n c M A' n' c') (o : Obj) : Two w0 (w.alloc o) ga gb N A n c M A' n' c' := ⟨h.a.alloc o, h.b.alloc o, bw_alloc h.l o⟩
theorem Two.drewN (h : Two w0 w ga gb N A n c M A' n' c') (k : Nat) : Two w0 (w.drewN k) ga gb N A n c M A' n' c' := ⟨h.a.drewN k, h.b.drewN k, below_drewN h.l k⟩
theorem Two.cells (h : Two w0 w ga gb N A n c M A' n' c') : w.cell? ⟨ga, 0, none⟩ = some (.int .i64 N) ∧ w.cell? ⟨ga, 1, none⟩ = some (.slice A n c) ∧ w.cell? ⟨gb, 0, none⟩ = some (.int .i64 M) ∧ w.cell? ⟨gb, 1, none⟩ = some (.slice A' n' c') :=
  ⟨(soup_facts h.a).1, (soup_facts h.a).2.1, (soup_facts h.b).1, (soup_facts h.b).2.1⟩
theorem Two.grown (h : Two w0 w ga gb N A n c M A' n' c') {A1 : Option Addr} {c1 : Nat} {L : List Int} (hr : IRow w w0.heap.size A1 c1 L) (hg : w.grownBy w' (Value.slice A1 L.length c1).ownBlock) : Two w0 w' ga gb N A n c M A' n' c' :=
  ⟨h.a.grown hg (fun e => hr.ne_blk h.a (by decide) ga e.symm rfl), h.b.grown hg (fun e => hr.ne_blk h.b (by decide) gb e.symm rfl), bw_grow h.l hg (fun k hk => (hr.lt_ k hk).1)⟩
end
def Apart2 (A1 : Option Addr) (n1 c1 : Nat) (A2 : Option Addr) (n2 c2 : Nat) : Prop := ∀ k, (Value.slice A1 n1 c1).ownBlock = some k → (Value.slice A2 n2 c2).ownBlock ≠ some k
theorem IRow.drewN {w : World} {B : Nat} {A : Option Addr} {c : Nat} {L : List Int} (h : IRow w B A c L) (n : Nat) : IRow (w.drewN n) B A c L := h
theorem Below.z {w w' : World} (h : Below w.heap.size w w') : Below w.heap.size w w' := h
theorem f_step1 {t a : Nat} (h : t < a) : seqL 0 (min (t + 1) a) = seqL 0 (min t a) ++ [(t : Int)] := by
  rw [Nat.min_eq_left (by omega), Nat.min_eq_left (by omega), seqL_succ]
  simp
theorem g_step1 {t a : Nat} (h : t < a) : seqL a (t + 1 - a) = seqL a (t - a) := by rw [show t + 1 - a = t - a by omega]
theorem f_step2 {t a : Nat} (h : ¬ t < a) : seqL 0 (min (t + 1) a) = seqL 0 (min t a) := by rw [Nat.min_eq_right (by omega), Nat.min_eq_right (by omega)]
theorem g_step2 {t a : Nat} (h : ¬ t < a) : seqL a (t + 1 - a) = seqL a (t - a) ++ [(t : Int)] := by
  rw [show t + 1 - a = t - a + 1 by omega, seqL_succ]
  congr 2
  omega
theorem soups_two {V : World} {g : Nat} {a b : Sp} (hV : Blk V g 24 #[.int .i64 a.N, .slice a.A a.T.length a.c, .int .i64 b.N, .slice b.A b.T.length b.c]) (ha : TrisAt V V.heap.size a.A a.T.length a.T) (hb : TrisAt V V.heap.size b.A b.T.length b.T) : SoupsAt V V.heap.size (some ⟨g, 0, none⟩) 2 [a, b] :=
  ⟨⟨rfl, fun _ => ⟨⟨g, 0, none⟩, rfl, hV.lt, fun j u hj => by
    rw [show (⟨g, 0, none⟩ : Addr).add j = ⟨g, j, none⟩ by simp only [Addr.add]; split <;> simp_all, hV.cell]
    simpa [Sp.cells] using hj⟩⟩, fun s hs => by
    simp only [List.mem_cons, List.not_mem_nil, or_false] at hs
    rcases hs with rfl | rfl
    · exact ha
    · exact hb⟩
theorem part_three {N : Int} {T : List Tri} {l : List Int} (hf : fitL N T = true) : (∃ e, (e = 2 ∨ e = 9) ∧ partL N T l = ((0, []), [], e)) ∨ ((∀ x ∈ l, 0 ≤ x ∧ x < (T.length : Int)) ∧ l.Nodup) := by
  by_cases h1 : l.any (outOf T.length) = true
  · exact .inl ⟨2, .inl rfl, by unfold partL; rw [if_neg (by rw [hf]; simp), if_pos h1]⟩
  · by_cases h2 : twiceL l = true
    · exact .inl ⟨9, .inr rfl, by unfold partL; rw [if_neg (by rw [hf]; simp), if_neg h1, if_pos h2]⟩
    · refine .inr ⟨fun x hx => in_all (by simpa using h1) hx, ?_⟩
      unfold twiceL at h2
      simpa using h2
theorem pairwise_at {L : List Int} (h : L.Pairwise (· < ·)) {j : Nat} {x y : Int} (h0 : L[j]? = some x) (h1 : L[j + 1]? = some y) : x < y := by
  obtain ⟨l0, rfl⟩ := List.getElem?_eq_some_iff.1 h0
  obtain ⟨l1, rfl⟩ := List.getElem?_eq_some_iff.1 h1
  exact List.pairwise_iff_getElem.1 h j (j + 1) l0 l1 (by omega)
theorem int_infoP : (Try.prog.info? 3).map (fun i => (i.zero, i.size, i.bytes)) = some (some (.int .i64 0), 1, 8) := by kernel_rfl
theorem same_true {N : Int} {T : List Tri} {A A' : Option Addr} {c c' : Nat} {w : World} (hn : T.length ≤ 1000) (h1 : TrisAt w w.heap.size A T.length T) (h2 : TrisAt w w.heap.size A' T.length T) :
    Calls Try.prog 26 #[.agg #[.int .i64 N, .slice A T.length c], .agg #[.int .i64 N, .slice A' T.length c']] w (BoolPost w true) := by
  have h := soupSame_dec N N T T A A' T.length T.length c c' w (by omega) (by omega) h1 h2
  rwa [decide_eq_true ⟨rfl, rfl⟩] at h
attribute [local irreducible] Blk LRow IRow World.alloc World.setCell World.cell? World.frozen?
set_option maxRecDepth 100000 in
set_option maxHeartbeats 8000000 in
theorem partsLaw_any (N : Int) (A : Option Addr) (n c : Nat) (T : List Tri) (M : Int) (A' : Option Addr) (n' c' : Nat) (U : List Tri) (Al : Option Addr) (m cl : Nat) (l : List Int) (w : World) (ht : TrisAt w w.heap.size A n T) (hu : TrisAt w w.heap.size A' n' U) (hl : Reads w w.heap.size 1 Al m (ZL l)) :
    Calls Try.prog 8 #[.agg #[.int .i64 N, .slice A n c], .agg #[.int .i64 M, .slice A' n' c'], .slice Al m cl] w (BoolPost w true) := by
  obtain rfl : n = T.length := ht.len.symm
  obtain rfl : n' = U.length := hu.len.symm
  obtain rfl : m = l.length := by have := hl.1; simp [ZL] at this; exact this.symm
  have HT := Lib.hid ht
  have HU := Lib.hid hu
  have HL := Lib.hid hl
  clear ht hu hl
  obtain ⟨i1, hii, hy0, hy1, hy2⟩ := info_parts int_infoP
  go_enter Try.func8, Try.ntmps8
  go_wp2_with fail
  obtain ⟨V, hV⟩ : ∃ V, V = (w.alloc (.cells #[.int .i64 N, .slice A T.length c] 24)).alloc (.cells #[.int .i64 M, .slice A' U.length c'] 24) := ⟨_, rfl⟩
  have H0 : Hid (Two w V w.heap.size (w.heap.size + 1) N A T.length c M A' U.length c') := by subst hV; exact Lib.hid ⟨(Blk.new _ _ _).alloc _, blk_new1 _ _ _ _, bw_alloc (bw_alloc (Below.refl _ _) _) _⟩
  rw [← hV]
  clear hV
  obtain ⟨ga, hga⟩ : ∃ g, g = w.heap.size := ⟨_, rfl⟩
  obtain ⟨gb, hgb⟩ : ∃ g, g = w.heap.size + 1 := ⟨_, rfl⟩
  have H0 : Hid (Two w V ga gb N A T.length c M A' U.length c') := by rw [hga, hgb]; exact H0
  rw [← hgb]
  simp only [← hga]
  clear hga hgb
  refine (awake_any _).mono ?_
  rintro e w1 ⟨rfl, hb⟩
  have H1 := Lib.hid (H0.out.on hb)
  clear hb H0
  obtain ⟨s0, s1, t0, t1⟩ := H1.out.cells
  go_wp2_with fail
  refine (great_any _ _ _ _ _).mono ?_
  rintro e w2 ⟨rfl, hb⟩
  have H2 := Lib.hid (H1.out.on hb)
  clear hb H1 s0 s1 t0 t1
  by_cases hg : 40 < T.length
  · rw [decide_eq_true hg]
    go_wp2_with fail
    go_ret
    exact ⟨rfl, H2.out.l⟩
  rw [decide_eq_false hg]
  obtain ⟨s0, s1, t0, t1⟩ := H2.out.cells
  go_wp2_with fail
  refine (great_any _ _ _ _ _).mono ?_
  rintro e w3 ⟨rfl, hb⟩
  have H3 := Lib.hid (H2.out.on hb)
  clear hb H2 s0 s1 t0 t1
  by_cases hg2 : 40 < U.length
  · rw [decide_eq_true hg2]
    go_wp2_with fail
    go_ret
    exact ⟨rfl, H3.out.l⟩
  rw [decide_eq_false hg2]
  by_cases hm : 40 < l.length
  · have hm' : (40 : Int) < (l.length : Int) := by omega
    go_wp2_with fail
    go_ret
    exact ⟨rfl, H3.out.l⟩
  have hm' : ¬ (40 : Int) < (l.length : Int) := by omega
  obtain ⟨s0, s1, t0, t1⟩ := H3.out.cells
  go_wp2_with fail
  refine (fits_any N A T.length c T w3 (by omega) ((HT.out.below H3.out.l).more H3.out.l.size)).mono ?_
  rintro e w4 ⟨rfl, hb⟩
  have H4 := Lib.hid (H3.out.on hb)
  clear hb H3 s0 s1 t0 t1
  obtain ⟨s0, s1, t0, t1⟩ := H4.out.cells
  cases hf : fitL N T with
  | false =>
    go_wp2_with fail
    go_ret
    exact ⟨rfl, H4.out.l⟩
  | true =>
  go_wp2_with fail
  refine (fits_any M A' U.length c' U w4 (by omega) ((HU.out.below H4.out.l).more H4.out.l.size)).mono ?_
  rintro e w5 ⟨rfl, hb⟩
  have H5 := Lib.hid (H4.out.on hb)
  clear hb H4 s0 s1 t0 t1
  obtain ⟨s0, s1, t0, t1⟩ := H5.out.cells
  cases hf2 : fitL M U with
  | false =>
    go_wp2_with fail
    go_ret
    exact ⟨rfl, H5.out.l⟩
  | true =>
  have hT40 : T.length ≤ 40 := by omega
  have hU40 : U.length ≤ 40 := by omega
  have hl40 : l.length ≤ 40 := by omega
  have HF1 := Lib.hid hf
  have HF2 := Lib.hid hf2
  clear hf hf2 hg hg2 hm hm'
  have HC := Lib.hid (part_three (l := l) HF1.out)
  have HQ := Lib.hid (part_any N A T.length c T Al l.length cl l w5 (by omega) (by omega) ((HT.out.below H5.out.l).more H5.out.l.size) ((HL.out.below H5.out.l).more H5.out.l.size))
  obtain ⟨r, HR⟩ : ∃ r, Hid (partL N T l = r) := ⟨_, Lib.hid rfl⟩
  rw [HR.out] at HQ
  obtain ⟨⟨rn, rX⟩, rO, re⟩ := r
  go_wp2_with fail
  refine HQ.out.mono ?_
  rintro e w6 ⟨Ap, cp, Ao, co, rfl, hr, hi, hb⟩
  simp only at hr hi
  have H6 := Lib.hid (H5.out.on hb)
  have RX6 : Hid (LRow w6 0 Ap cp rX) := Lib.hid (LRow.base hr (Nat.zero_le _))
  have RO6 : Hid (IRow w6 0 Ao co rO) := Lib.hid (IRow.base hi (Nat.zero_le _))
  clear hr hi hb H5 HQ s0 s1 t0 t1
  obtain ⟨w7, hw7⟩ : ∃ w7, w7 = w6.alloc (.cells #[.int .i64 rn, .slice Ap rX.length cp] 24) := ⟨_, rfl⟩
  have H7 : Hid (Two w w7 ga gb N A T.length c M A' U.length c') := by subst hw7; exact Lib.hid (H6.out.alloc _)
  have GP7 : Hid (Blk w7 w6.heap.size 24 #[.int .i64 rn, .slice Ap rX.length cp]) := by subst hw7; exact Lib.hid (Blk.new _ _ _)
  have RX7 : Hid (LRow w7 0 Ap cp rX) := by subst hw7; exact Lib.hid (RX6.out.alloc _)
  have RO7 : Hid (IRow w7 0 Ao co rO) := by subst hw7; exact Lib.hid (RO6.out.alloc _)
  go_upto_if 57 with (fail)
  rw [← hw7]
  generalize w6.heap.size = gp at *
  clear hw7 H6 RX6 RO6
  go_cut [] (fun wx => Hid (Two w wx ga gb N A T.length c M A' U.length c'))
  case first =>
    rcases HC.out with ⟨e, he, h⟩ | ⟨hin, hnd⟩
    · rw [HR.out] at h
      cases h
      rcases he with rfl | rfl
      · go_wp2_with fail
        go_meet
        exact H7
      · go_wp2_with fail
        go_meet
        exact H7
    · have h := part_ok HF1.out hin hnd
      rw [HR.out] at h
      have HIN := Lib.hid hin
      have HXL : Hid (rX.length = l.length) := Lib.hid (by cases h; simp)
      have HPF : Hid (fitL rO.length rX = true) := Lib.hid (by cases h; exact part_fits HF1.out HIN.out)
      have HPT : Hid (∀ (i : Nat) (x : Int), l[i]? = some x → ∃ ka kb kc : Nat, rX[i]? = some ⟨ka, kb, kc⟩ ∧ rO[ka]? = some (tri T x.toNat).a ∧ rO[kb]? = some (tri T x.toNat).b ∧ rO[kc]? = some (tri T x.toNat).c) := Lib.hid (by cases h; exact fun i x hx => part_tri HF1.out HIN.out hx)
      have HSO : Hid (rO.Pairwise (· < ·)) := Lib.hid (by cases h; exact old_sorted N T l)
      obtain rfl : re = 0 := by cases h; rfl
      obtain rfl : rn = rO.length := by cases h; rfl
      clear h hin hnd HC HR
      rw [HXL.out] at GP7 ⊢
      obtain ⟨p0, p1, _, _, _⟩ := soup_facts GP7.out
      go_wp2_with fail
      refine (fits_any rO.length Ap l.length cp rX w7 (by omega) (by have h := RX7.out.tris; rwa [HXL.out] at h)).mono ?_
      rw [HPF.out]
      rintro e w8 ⟨rfl, hb⟩
      have H8 := Lib.hid (H7.out.on hb)
      have GP8 := Lib.hid (blk_call GP7.out hb)
      have RX8 := Lib.hid (RX7.out.below hb)
      have RO8 := Lib.hid (RO7.out.below hb)
      have hOl := (fit_N HPF.out).2
      clear hb H7 GP7 RX7 RO7 HPF p0 p1
      go_wp2_with fail
      go_loopw [10] (fun iv wr => ∃ i : Nat, i ≤ l.length ∧ iv = .int .i64 i ∧ Hid (Two w wr ga gb N A T.length c M A' U.length c') ∧ Hid (Blk wr gp 24 #[.int .i64 (rO.length : Int), .slice Ap l.length cp]) ∧ Hid (LRow wr 0 Ap cp rX) ∧ Hid (IRow wr 0 Ao co rO)) (fun iv _ => l.length - (intOf iv).toNat)
      case atStart => exact ⟨0, by omega, rfl, H8, GP8, RX8, RO8⟩
      case round =>
        obtain ⟨i, hi, rfl, Hi, GPi, RXi, ROi⟩ := hrel
        obtain ⟨wB, hwB⟩ : ∃ wB : World, wB = wr := ⟨_, rfl⟩
        rw [← hwB] at Hi GPi RXi ROi ⊢
        clear hwB H8 GP8 RX8 RO8
        obtain ⟨p0, p1, _, _, _⟩ := soup_facts GPi.out
        by_cases hlt : i < l.length
        · obtain ⟨ad, u, eA, had, hu, hc⟩ := (HL.out.below Hi.out.l).at_ hlt
          obtain ⟨x, hx, rfl⟩ := zl_at hu
          have hin := HIN.out x (List.mem_of_getElem? hx)
          obtain ⟨xn, rfl⟩ := Int.eq_ofNat_of_zero_le hin.1
          have hxn : xn < T.length := by omega
          obtain ⟨ka, kb, kc, hXi, oa, ob, oc⟩ := HPT.out i _ hx
          rw [show ((xn : Int)).toNat = xn from rfl] at oa ob oc
          obtain ⟨ad2, t2, e2, ht2, _, had2, hc2⟩ := RXi.out.tris.at_ (k := i) (by rw [HXL.out]; exact hlt)
          rw [hXi] at ht2
          injection ht2 with ht2
          subst ht2
          obtain ⟨ad3, t3, e3, ht3, _, had3, hc3⟩ := (HT.out.below Hi.out.l).at_ hxn
          have et : tri T xn = t3 := tri_of ht3
          rw [et] at oa ob oc
          have hka : ka < rO.length := (List.getElem?_eq_some_iff.1 oa).1
          have hkb : kb < rO.length := (List.getElem?_eq_some_iff.1 ob).1
          have hkc : kc < rO.length := (List.getElem?_eq_some_iff.1 oc).1
          obtain ⟨ad4, u4, e4, had4, hu4, hc4⟩ := ROi.out.reads.at_ hka
          obtain ⟨ad5, u5, e5, had5, hu5, hc5⟩ := ROi.out.reads.at_ hkb
          obtain ⟨ad6, u6, e6, had6, hu6, hc6⟩ := ROi.out.reads.at_ hkc
          obtain ⟨_, hz4, rfl⟩ := zl_at hu4
          obtain ⟨_, hz5, rfl⟩ := zl_at hu5
          obtain ⟨_, hz6, rfl⟩ := zl_at hu6
          rw [oa] at hz4
          rw [ob] at hz5
          rw [oc] at hz6
          injection hz4 with hz4
          injection hz5 with hz5
          injection hz6 with hz6
          subst hz4 hz5 hz6
          subst eA e2 e3 e4
          injection e5 with e5
          injection e6 with e6
          subst e5 e6
          obtain ⟨ta, tb, tc⟩ := t3
          obtain ⟨d0, d1, d2, d3, d4, d5⟩ := hc2
          simp only at d0 d1 d2 d3 d4 d5 hc3 hc4 hc5 hc6
          have HC3 := Lib.hid hc3
          clear hc3
          have hi0 : (0 : Int) ≤ (i : Int) := by omega
          have hi1 : (i : Int) < (l.length : Int) := by omega
          have hxi : (xn : Int) < (T.length : Int) := by omega
          have hai : (ka : Int) < (rO.length : Int) := by omega
          have hbi : (kb : Int) < (rO.length : Int) := by omega
          have hci : (kc : Int) < (rO.length : Int) := by omega
          clear hu hx ht3 et hXi hu4 hu5 hu6 oa ob oc
          obtain ⟨w9, hw9⟩ : ∃ w9, w9 = wB.alloc (.cells #[.int .i64 (ka : Int), .int .i64 (kb : Int), .int .i64 (kc : Int)] 51) := ⟨_, rfl⟩
          have GT9 : Hid (Blk w9 wB.heap.size 51 #[.int .i64 (ka : Int), .int .i64 (kb : Int), .int .i64 (kc : Int)]) := by subst hw9; exact Lib.hid (Blk.new _ _ _)
          have H9 : Hid (Two w w9 ga gb N (some ad3) T.length c M A' U.length c') := by subst hw9; exact Lib.hid (Hi.out.alloc _)
          have GP9 : Hid (Blk w9 gp 24 #[.int .i64 (rO.length : Int), .slice (some ad2) l.length cp]) := by subst hw9; exact Lib.hid (GPi.out.alloc _)
          have RX9 : Hid (LRow w9 0 (some ad2) cp rX) := by subst hw9; exact Lib.hid (RXi.out.alloc _)
          have RO9 : Hid (IRow w9 0 (some ad4) co rO) := by subst hw9; exact Lib.hid (ROi.out.alloc _)
          have HBn : Hid (Below wB.heap.size wB w9) := by subst hw9; exact Lib.hid (bw_alloc (Below.refl _ _) _)
          go_upto_region 13 with (fail)
          rw [← hw9]
          obtain ⟨s0, s1, _, _⟩ := H9.out.cells
          obtain ⟨x0, x1, x2⟩ := tri_cells GT9.out
          have q0 := (HBn.out.cell (p := ad.add i) (by rw [block_of_add]; have := Hi.out.l.size; omega)).trans hc
          have q1 := (HBn.out.cell (p := ad4.add ka) (by rw [block_of_add]; omega)).trans hc4
          have q2 := (HBn.out.cell (p := ad4.add kb) (by rw [block_of_add]; omega)).trans hc5
          have q3 := (HBn.out.cell (p := ad4.add kc) (by rw [block_of_add]; omega)).trans hc6
          obtain ⟨f0, f1, f2, f3, f4, f5⟩ := HC3.out.below HBn.out (by rw [block_of_add]; have := Hi.out.l.size; omega)
          have hne := run_nq_tri ta tb tc ta tb tc
          simp only [beq_self_eq_true, Bool.and_self, Bool.not_true] at hne
          generalize wB.heap.size = gt at *
          clear hw9 Hi GPi RXi ROi HC3 GT9 hc hc4 hc5 hc6 d0 d1 d2 d3 d4 d5 p0 p1 had had2 had3 had4 had5 had6
          go_quiet (fail)
          go_wp2_with fail
          exact ⟨⟨i + 1, by omega, by go_num, Lib.hid (H9.out.drewN _), Lib.hid (GP9.out.drewN _), Lib.hid (RX9.out.drewN _), Lib.hid (RO9.out.drewN _)⟩, by simp [intOf]; omega⟩
        · obtain rfl : i = l.length := by omega
          go_wp2_with fail
          go_loopw [12] (fun jv wr => ∃ j : Nat, 1 ≤ j ∧ jv = .int .i64 j ∧ Hid (Two w wr ga gb N A T.length c M A' U.length c') ∧ Hid (IRow wr 0 Ao co rO)) (fun jv _ => rO.length - (intOf jv).toNat)
          case atStart => exact ⟨1, by omega, rfl, Hi, ROi⟩
          case round =>
            obtain ⟨j, hj, rfl, Hj, ROj⟩ := hrel
            obtain ⟨wB, hwB⟩ : ∃ wB : World, wB = wr := ⟨_, rfl⟩
            rw [← hwB] at Hj ROj ⊢
            clear hwB Hi GPi RXi ROi p0 p1
            by_cases hjl : j < rO.length
            · obtain ⟨j0, hj0⟩ : ∃ k, j = k + 1 := ⟨j - 1, by omega⟩
              obtain ⟨ad4, u4, e4, had4, hu4, hc4⟩ := ROj.out.reads.at_ hjl
              obtain ⟨ad5, u5, e5, had5, hu5, hc5⟩ := ROj.out.reads.at_ (k := j0) (by omega)
              obtain ⟨y, hy, rfl⟩ := zl_at hu4
              obtain ⟨x, hx, rfl⟩ := zl_at hu5
              have hxy := pairwise_at HSO.out hx (hj0 ▸ hy)
              subst e4
              injection e5 with e5
              subst e5
              have hjl' : (j : Int) < (rO.length : Int) := by omega
              have hj1 : (j : Int) - 1 = (j0 : Int) := by omega
              have hj2 : (0 : Int) ≤ (j0 : Int) := by omega
              have hj3 : (j0 : Int) < (rO.length : Int) := by omega
              have hxy' : ¬ y ≤ x := by omega
              clear hu4 hu5 hx hy hj0
              go_wp2_with fail
              go_quiet (fail)
              go_wp2_with fail
              exact ⟨⟨j + 1, by omega, by go_num, Lib.hid (Hj.out.drewN _), Lib.hid (ROj.out.drewN _)⟩, by simp [intOf]; omega⟩
            · have hjl' : ¬ (j : Int) < (rO.length : Int) := by omega
              go_wp2_with fail
              go_meet
              exact Hj
  case rest =>
    have H8 := hcut
    obtain ⟨w8, hw8⟩ : ∃ w8 : World, w8 = wc := ⟨_, rfl⟩
    rw [← hw8] at H8 ⊢
    clear hw8 H7 GP7 RX7 RO7 HC HR
    have hN := fit_N HF1.out
    have hM := fit_N HF2.out
    obtain ⟨s0, s1, t0, t1⟩ := H8.out.cells
    obtain ⟨w9, hw9⟩ : ∃ w9, w9 = w8.alloc (.cells #[.int .i64 N, .slice A T.length c, .int .i64 M, .slice A' U.length c'] 24) := ⟨_, rfl⟩
    have H9 : Hid (Two w w9 ga gb N A T.length c M A' U.length c') := by subst hw9; exact Lib.hid (H8.out.alloc _)
    have GR9 : Hid (Blk w9 w8.heap.size 24 #[.int .i64 N, .slice A T.length c, .int .i64 M, .slice A' U.length c']) := by subst hw9; exact Lib.hid (Blk.new _ _ _)
    have HJ : Hid (Calls Try.prog 22 #[.slice (some ⟨w8.heap.size, 0, none⟩) 2 2] w9 (PickPost w9 (joinL [⟨N, A, c, T⟩, ⟨M, A', c', U⟩]))) := Lib.hid (join_any (some ⟨w8.heap.size, 0, none⟩) 2 2 [⟨N, A, c, T⟩, ⟨M, A', c', U⟩] w9 (by omega) (fun s hs => by
      simp only [List.mem_cons, List.not_mem_nil, or_false] at hs
      rcases hs with rfl | rfl
      · show T.length ≤ 1000
        omega
      · show U.length ≤ 1000
        omega) (soups_two (a := ⟨N, A, c, T⟩) (b := ⟨M, A', c', U⟩) GR9.out ((HT.out.below H9.out.l).more H9.out.l.size) ((HU.out.below H9.out.l).more H9.out.l.size)))
    rw [join_two (a := ⟨N, A, c, T⟩) (b := ⟨M, A', c', U⟩) HF1.out HF2.out] at HJ
    clear GR9
    by_cases hb4 : 4096 < N + M
    · rw [if_pos hb4] at HJ
      go_wp2_with fail
      rw [← hw9]
      refine HJ.out.mono ?_
      rintro e w10 ⟨Aj, cj, rfl, hr, hb⟩
      have H10 := Lib.hid ((H9.out.on hb).alloc (.cells #[.int .i64 0, .slice Aj 0 cj] 24))
      clear hr hb H9 HJ s0 s1 t0 t1 hw9
      obtain ⟨s0, s1, t0, t1⟩ := H10.out.cells
      have hb4' : (4096 : Int) < N + M := hb4
      go_wp2_with fail
      go_ret
      exact ⟨rfl, H10.out.l⟩
    · rw [if_neg hb4] at HJ
      go_wp2_with fail
      rw [← hw9]
      refine HJ.out.mono ?_
      rintro e w10 ⟨Aj, cj, rfl, hr, hb⟩
      simp only at hr
      have HFJ := Lib.hid (fit_join HF1.out HF2.out (by omega))
      have HJL := Lib.hid (jT_len N T U)
      have HP1 := Lib.hid (first_part HF1.out HF2.out (by omega))
      have HP2 := Lib.hid (second_part HF1.out HF2.out (by omega))
      obtain ⟨J, HJJ⟩ : ∃ J, Hid (J = jT N T U) := ⟨_, Lib.hid rfl⟩
      simp only
      rw [← HJJ.out] at hr HFJ HJL HP1 HP2 ⊢
      have H10 := Lib.hid (H9.out.on hb)
      have RJ10 : Hid (LRow w10 0 Aj cj J) := Lib.hid (LRow.base hr (Nat.zero_le _))
      clear hr hb H8 H9 HJ s0 s1 t0 t1 hw9
      obtain ⟨w11, hw11⟩ : ∃ w11, w11 = w10.alloc (.cells #[.int .i64 (N + M), .slice Aj J.length cj] 24) := ⟨_, rfl⟩
      have H11 : Hid (Two w w11 ga gb N A T.length c M A' U.length c') := by subst hw11; exact Lib.hid (H10.out.alloc _)
      have GJ11 : Hid (Blk w11 w10.heap.size 24 #[.int .i64 (N + M), .slice Aj J.length cj]) := by subst hw11; exact Lib.hid (Blk.new _ _ _)
      have RJ11 : Hid (LRow w11 0 Aj cj J) := by subst hw11; exact Lib.hid (RJ10.out.alloc _)
      obtain ⟨s0, s1, t0, t1⟩ := (H10.out.alloc (.cells #[.int .i64 (N + M), .slice Aj J.length cj] 24)).cells
      go_wp2_with fail
      rw [← hw11]
      generalize w10.heap.size = gj at *
      clear hw11 H10 RJ10 s0 s1 t0 t1
      go_loopw [15, 16, 17] (fun fv sv tv wr => ∃ (t : Nat) (A1 : Option Addr) (c1 : Nat) (A2 : Option Addr) (c2 : Nat), t ≤ J.length ∧ tv = .int .i64 t ∧ fv = .slice A1 (seqL 0 (min t T.length)).length c1 ∧ sv = .slice A2 (seqL T.length (t - T.length)).length c2 ∧ Hid (IRow wr w.heap.size A1 c1 (seqL 0 (min t T.length))) ∧ Hid (IRow wr w.heap.size A2 c2 (seqL T.length (t - T.length))) ∧ Hid (Apart2 A1 (seqL 0 (min t T.length)).length c1 A2 (seqL T.length (t - T.length)).length c2) ∧ Hid (Two w wr ga gb N A T.length c M A' U.length c') ∧ Hid (Blk wr gj 24 #[.int .i64 (N + M), .slice Aj J.length cj]) ∧ Hid (LRow wr 0 Aj cj J)) (fun _ _ tv _ => J.length - (intOf tv).toNat)
      case atStart =>
        have e1 : seqL 0 (min 0 T.length) = [] := by simp [seqL]
        have e2 : seqL (T.length : Int) (0 - T.length) = [] := by simp [seqL]
        exact ⟨0, none, 0, none, 0, by omega, rfl, by rw [e1]; rfl, by rw [e2]; rfl, by rw [e1]; exact Lib.hid (IRow.nil _ _), by rw [e2]; exact Lib.hid (IRow.nil _ _), Lib.hid (fun k h => by cases h), H11, GJ11, RJ11⟩
      case round =>
        obtain ⟨t, A1, c1, A2, c2, ht, rfl, rfl, rfl, HI1, HI2, HAP, Ht, GJt, RJt⟩ := hrel
        obtain ⟨wB, hwB⟩ : ∃ wB : World, wB = wr := ⟨_, rfl⟩
        rw [← hwB] at HI1 HI2 Ht GJt RJt ⊢
        clear hwB H11 GJ11 RJ11
        obtain ⟨s0, s1, t0, t1⟩ := Ht.out.cells
        obtain ⟨j0, j1, _, _, _⟩ := soup_facts GJt.out
        have hJ80 : J.length ≤ 80 := by have := HJL.out; omega
        by_cases hlt : t < J.length
        · have hti : (t : Int) < (J.length : Int) := by omega
          have hF40 : (seqL 0 (min t T.length)).length ≤ 40 := by rw [seqL_len]; omega
          have hG40 : (seqL T.length (t - T.length)).length ≤ 80 := by rw [seqL_len]; have := HJL.out; omega
          by_cases hta : t < T.length
          · have hta' : (t : Int) < (T.length : Int) := by omega
            have E1 := Lib.hid (f_step1 hta)
            have E2 := Lib.hid (g_step1 hta)
            generalize seqL 0 (min t T.length) = F at *
            generalize seqL (T.length : Int) (t - T.length) = G at *
            go_wp2_with (at_builtin; go_must (refine wpList_append_sl _ rfl (.tmp 168) (.tmp 170) _ rfl w.heap.size 3 i1 _ 1 8 Try.underlying25 hii hy0 hy1 hy2 rfl (by omega) (.slice A1 F.length c1) F.length (ZL F) rfl (HI1.out.alloc _).owns_ (wB.heap.size + 1) (some ⟨wB.heap.size, 0, none⟩) 1 1 [.int .i64 (t : Int)] rfl (reads_newN _ _ _ 1 1 rfl rfl) (by simp [Value.oneCell']) (by simp only [maxLen]; omega) (by omega) (bw_size (bw_alloc Ht.out.l (.cells #[.int .i64 (t : Int)] 3))) ?_); intro A5 c5 w9 hown5 hg5 hat5)
            have hT := (Ht.out.alloc (.cells #[.int .i64 (t : Int)] 3)).grown (HI1.out.alloc _) hg5
            have hI := (HI2.out.alloc (.cells #[.int .i64 (t : Int)] 3)).grown hg5 (fun k hk e => HAP.out k e.symm hk)
            have hG := (GJt.out.alloc (.cells #[.int .i64 (t : Int)] 3)).grown hg5 (fun e => (HI1.out.alloc (.cells #[.int .i64 (t : Int)] 3)).ne_blk (GJt.out.alloc _) (by decide) gj e.symm rfl)
            have hR := (RJt.out.alloc (.cells #[.int .i64 (t : Int)] 3)).grown hg5 (fun k hk e => IRow.ne_row (HI1.out.alloc (.cells #[.int .i64 (t : Int)] 3)) (RJt.out.alloc _) k e.symm hk.symm)
            have hA : Apart2 A5 (F.length + 1) c5 A2 G.length c2 := fun k hk hk2 => by
              rcases hat5 with h | h
              · exact HAP.out k (h ▸ hk) hk2
              · rw [h] at hk
                injection hk with hk
                have h2 := (HI2.out.lt_ k hk2).2
                simp only [World.size_alloc] at hk
                omega
            exact ⟨⟨t + 1, A5, c5, A2, c2, by omega, by go_num, by rw [E1.out]; simp, by rw [E2.out], by rw [E1.out]; exact Lib.hid (irow_snoc hown5), by rw [E2.out]; exact Lib.hid hI, by rw [E1.out, E2.out, List.length_append]; exact Lib.hid hA, Lib.hid hT, Lib.hid hG, Lib.hid hR⟩, by simp [intOf]; omega⟩
          · have hta' : ¬ (t : Int) < (T.length : Int) := by omega
            have E1 := Lib.hid (f_step2 hta)
            have E2 := Lib.hid (g_step2 hta)
            generalize seqL 0 (min t T.length) = F at *
            generalize seqL (T.length : Int) (t - T.length) = G at *
            go_wp2_with (at_builtin; go_must (refine wpList_append_sl _ rfl (.tmp 172) (.tmp 174) _ rfl w.heap.size 3 i1 _ 1 8 Try.underlying25 hii hy0 hy1 hy2 rfl (by omega) (.slice A2 G.length c2) G.length (ZL G) rfl (HI2.out.alloc _).owns_ (wB.heap.size + 1) (some ⟨wB.heap.size, 0, none⟩) 1 1 [.int .i64 (t : Int)] rfl (reads_newN _ _ _ 1 1 rfl rfl) (by simp [Value.oneCell']) (by simp only [maxLen]; omega) (by omega) (bw_size (bw_alloc Ht.out.l (.cells #[.int .i64 (t : Int)] 3))) ?_); intro A5 c5 w9 hown5 hg5 hat5)
            have hT := (Ht.out.alloc (.cells #[.int .i64 (t : Int)] 3)).grown (HI2.out.alloc _) hg5
            have hI := (HI1.out.alloc (.cells #[.int .i64 (t : Int)] 3)).grown hg5 (fun k hk e => HAP.out k hk e.symm)
            have hG := (GJt.out.alloc (.cells #[.int .i64 (t : Int)] 3)).grown hg5 (fun e => (HI2.out.alloc (.cells #[.int .i64 (t : Int)] 3)).ne_blk (GJt.out.alloc _) (by decide) gj e.symm rfl)
            have hR := (RJt.out.alloc (.cells #[.int .i64 (t : Int)] 3)).grown hg5 (fun k hk e => IRow.ne_row (HI2.out.alloc (.cells #[.int .i64 (t : Int)] 3)) (RJt.out.alloc _) k e.symm hk.symm)
            have hA : Apart2 A1 F.length c1 A5 (G.length + 1) c5 := fun k hk hk2 => by
              rcases hat5 with h | h
              · exact HAP.out k hk (h ▸ hk2)
              · rw [h] at hk2
                injection hk2 with hk2
                have h2 := (HI1.out.lt_ k hk).2
                simp only [World.size_alloc] at hk2
                omega
            exact ⟨⟨t + 1, A1, c1, A5, c5, by omega, by go_num, by rw [E1.out], by rw [E2.out]; simp, by rw [E1.out]; exact Lib.hid hI, by rw [E2.out]; exact Lib.hid (irow_snoc hown5), by rw [E1.out, E2.out, List.length_append]; exact Lib.hid hA, Lib.hid hT, Lib.hid hG, Lib.hid hR⟩, by simp [intOf]; omega⟩
        · obtain rfl : t = J.length := by omega
          have hm1 : min J.length T.length = T.length := by have := HJL.out; omega
          have hm2 : J.length - T.length = U.length := by have := HJL.out; omega
          rw [hm1] at HI1 ⊢
          rw [hm2] at HI2 ⊢
          obtain ⟨of, X, hp1, hx1, ho1, he1⟩ := HP1.out
          obtain ⟨at_, Y, hp2, hx2, ho2, he2⟩ := HP2.out
          have hl1 := seqL_len 0 T.length
          have hl2 := seqL_len T.length U.length
          have HPA := Lib.hid (part_any (N + M) Aj J.length cj J A1 (seqL 0 T.length).length c1 (seqL 0 T.length) wB (by have := HJL.out; omega) (by omega) RJt.out.tris HI1.out.reads)
          have HPB := Lib.hid (fun (W : World) (hr : LRow W 0 Aj cj J) (hi : IRow W w.heap.size A2 c2 (seqL T.length U.length)) => part_any (N + M) Aj J.length cj J A2 (seqL T.length U.length).length c2 (seqL T.length U.length) W (by have := HJL.out; omega) (by omega) hr.tris hi.reads)
          rw [hp1] at HPA
          rw [hp2] at HPB
          have HE1 := Lib.hid he1
          have HE2 := Lib.hid he2
          have HX1 := Lib.hid hx1
          have HX2 := Lib.hid hx2
          clear hp1 hp2 hl1 hl2 he1 he2 hx1 hx2 HP1 HP2 hm1 hm2 HAP HI1
          generalize seqL 0 T.length = F at *
          generalize seqL (T.length : Int) U.length = G at *
          go_wp2_with fail
          refine HPA.out.mono ?_
          rintro e w12 ⟨Ax, cx, Ao1, co1, rfl, hr, hi, hb⟩
          simp only at hr hi
          have H12 := Lib.hid (Ht.out.on hb)
          have GJ12 := Lib.hid (blk_call GJt.out hb)
          have RJ12 := Lib.hid (RJt.out.below hb)
          have HI12 := Lib.hid (HI2.out.below hb)
          have RX12 : Hid (LRow w12 0 Ax cx X) := Lib.hid (LRow.base hr (Nat.zero_le _))
          clear hr hi hb Ht GJt RJt HI2 HPA s0 s1 t0 t1 j0 j1
          obtain ⟨w13, hw13⟩ : ∃ w13, w13 = w12.alloc (.cells #[.int .i64 (of.length : Int), .slice Ax X.length cx] 24) := ⟨_, rfl⟩
          have H13 : Hid (Two w w13 ga gb N A T.length c M A' U.length c') := by subst hw13; exact Lib.hid (H12.out.alloc _)
          have GX13 : Hid (Blk w13 w12.heap.size 24 #[.int .i64 (of.length : Int), .slice Ax X.length cx]) := by subst hw13; exact Lib.hid (Blk.new _ _ _)
          have GJ13 : Hid (Blk w13 gj 24 #[.int .i64 (N + M), .slice Aj J.length cj]) := by subst hw13; exact Lib.hid (GJ12.out.alloc _)
          have RJ13 : Hid (LRow w13 0 Aj cj J) := by subst hw13; exact Lib.hid (RJ12.out.alloc _)
          have RX13 : Hid (LRow w13 0 Ax cx X) := by subst hw13; exact Lib.hid (RX12.out.alloc _)
          have HI13 : Hid (IRow w13 w.heap.size A2 c2 G) := by subst hw13; exact Lib.hid (HI12.out.alloc _)
          go_upto_region 33 with (fail)
          rw [← hw13]
          generalize w12.heap.size = gx at *
          clear hw13 H12 GJ12 RJ12 HI12 RX12
          obtain ⟨j0, j1, _, _, _⟩ := soup_facts GJ13.out
          go_wp2_with fail
          refine (HPB.out _ RJ13.out HI13.out).mono ?_
          rintro e w14 ⟨Ay, cy, Ao2, co2, rfl, hr, hi, hb⟩
          simp only at hr hi
          have H14 := Lib.hid (H13.out.on hb)
          have GJ14 := Lib.hid (blk_call GJ13.out hb)
          have GX14 := Lib.hid (blk_call GX13.out hb)
          have RJ14 := Lib.hid (RJ13.out.below hb)
          have RX14 := Lib.hid (RX13.out.below hb)
          have RY14 : Hid (LRow w14 0 Ay cy Y) := Lib.hid (LRow.base hr (Nat.zero_le _))
          clear hr hi hb H13 GJ13 GX13 RJ13 RX13 HI13 HPB j0 j1
          obtain ⟨w15, hw15⟩ : ∃ w15, w15 = w14.alloc (.cells #[.int .i64 (at_.length : Int), .slice Ay Y.length cy] 24) := ⟨_, rfl⟩
          have H15 : Hid (Two w w15 ga gb N A T.length c M A' U.length c') := by subst hw15; exact Lib.hid (H14.out.alloc _)
          have GY15 : Hid (Blk w15 w14.heap.size 24 #[.int .i64 (at_.length : Int), .slice Ay Y.length cy]) := by subst hw15; exact Lib.hid (Blk.new _ _ _)
          have GJ15 : Hid (Blk w15 gj 24 #[.int .i64 (N + M), .slice Aj J.length cj]) := by subst hw15; exact Lib.hid (GJ14.out.alloc _)
          have GX15 : Hid (Blk w15 gx 24 #[.int .i64 (of.length : Int), .slice Ax X.length cx]) := by subst hw15; exact Lib.hid (GX14.out.alloc _)
          have RJ15 : Hid (LRow w15 0 Aj cj J) := by subst hw15; exact Lib.hid (RJ14.out.alloc _)
          have RX15 : Hid (LRow w15 0 Ax cx X) := by subst hw15; exact Lib.hid (RX14.out.alloc _)
          have RY15 : Hid (LRow w15 0 Ay cy Y) := by subst hw15; exact Lib.hid (RY14.out.alloc _)
          go_upto_region 34 with (fail)
          rw [← hw15]
          generalize w14.heap.size = gy at *
          clear hw15 H14 GJ14 GX14 RJ14 RX14 RY14
          obtain ⟨s0, s1, t0, t1⟩ := H15.out.cells
          by_cases hof : (of.length : Int) = N
          · by_cases hat : (at_.length : Int) = M
            · have hX := (HE1.out hof).symm
              subst hX
              have hY := (HE2.out hat).symm
              subst hY
              rw [hof] at GX15 ⊢
              rw [hat] at GY15 ⊢
              have hofb : ((of.length : Int) == N) = true := by simp [hof]
              have hatb : ((at_.length : Int) == M) = true := by simp [hat]
              clear HE1 HE2 ho1 ho2 hof hat
              obtain ⟨x0, x1, _, _, _⟩ := soup_facts GX15.out
              obtain ⟨y0, y1, _, _, _⟩ := soup_facts GY15.out
              obtain ⟨w16, hw16⟩ : ∃ w16, w16 = w15.alloc (.cells #[.int .i64 N, .slice Ax T.length cx, .int .i64 M, .slice Ay U.length cy] 24) := ⟨_, rfl⟩
              have H16 : Hid (Two w w16 ga gb N A T.length c M A' U.length c') := by subst hw16; exact Lib.hid (H15.out.alloc _)
              have GJ16 : Hid (Blk w16 gj 24 #[.int .i64 (N + M), .slice Aj J.length cj]) := by subst hw16; exact Lib.hid (GJ15.out.alloc _)
              have GX16 : Hid (Blk w16 gx 24 #[.int .i64 N, .slice Ax T.length cx]) := by subst hw16; exact Lib.hid (GX15.out.alloc _)
              have GY16 : Hid (Blk w16 gy 24 #[.int .i64 M, .slice Ay U.length cy]) := by subst hw16; exact Lib.hid (GY15.out.alloc _)
              have RJ16 : Hid (LRow w16 0 Aj cj J) := by subst hw16; exact Lib.hid (RJ15.out.alloc _)
              have RX16 : Hid (LRow w16 0 Ax cx T) := by subst hw16; exact Lib.hid (RX15.out.alloc _)
              have RY16 : Hid (LRow w16 0 Ay cy U) := by subst hw16; exact Lib.hid (RY15.out.alloc _)
              have GR16 : Hid (Blk w16 w15.heap.size 24 #[.int .i64 N, .slice Ax T.length cx, .int .i64 M, .slice Ay U.length cy]) := by subst hw16; exact Lib.hid (Blk.new _ _ _)
              have HJ : Hid (Calls Try.prog 22 #[.slice (some ⟨w15.heap.size, 0, none⟩) 2 2] w16 (PickPost w16 (joinL [⟨N, Ax, cx, T⟩, ⟨M, Ay, cy, U⟩]))) := Lib.hid (join_any (some ⟨w15.heap.size, 0, none⟩) 2 2 [⟨N, Ax, cx, T⟩, ⟨M, Ay, cy, U⟩] w16 (by omega) (fun s hs => by
                simp only [List.mem_cons, List.not_mem_nil, or_false] at hs
                rcases hs with rfl | rfl
                · show T.length ≤ 1000
                  omega
                · show U.length ≤ 1000
                  omega) (soups_two (a := ⟨N, Ax, cx, T⟩) (b := ⟨M, Ay, cy, U⟩) GR16.out RX16.out.tris RY16.out.tris))
              rw [join_two (a := ⟨N, Ax, cx, T⟩) (b := ⟨M, Ay, cy, U⟩) HF1.out HF2.out, if_neg (show ¬ 4096 < N + M by omega)] at HJ
              simp only at HJ
              rw [← HJJ.out] at HJ
              go_wp2_with fail
              rw [← hw16]
              refine HJ.out.mono ?_
              rintro e w17 ⟨Az, cz, rfl, hr, hb⟩
              simp only at hr
              have H17 := Lib.hid (H16.out.on hb)
              have GJ17 := Lib.hid (blk_call GJ16.out hb)
              have GX17 := Lib.hid (blk_call GX16.out hb)
              have GY17 := Lib.hid (blk_call GY16.out hb)
              have RJ17 := Lib.hid (RJ16.out.below hb)
              have RX17 := Lib.hid (RX16.out.below hb)
              have RY17 := Lib.hid (RY16.out.below hb)
              have RZ17 : Hid (LRow w17 0 Az cz J) := Lib.hid (LRow.base hr (Nat.zero_le _))
              clear hr hb H16 GJ16 GX16 GY16 GR16 RJ16 RX16 RY16 H15 GJ15 GX15 GY15 RJ15 RX15 RY15 HJ hw16 s0 s1 t0 t1 x0 x1 y0 y1
              obtain ⟨w18, hw18⟩ : ∃ w18, w18 = w17.alloc (.cells #[.int .i64 (N + M), .slice Az J.length cz] 24) := ⟨_, rfl⟩
              have H18 : Hid (Two w w18 ga gb N A T.length c M A' U.length c') := by subst hw18; exact Lib.hid (H17.out.alloc _)
              have GZ18 : Hid (Blk w18 w17.heap.size 24 #[.int .i64 (N + M), .slice Az J.length cz]) := by subst hw18; exact Lib.hid (Blk.new _ _ _)
              have GJ18 : Hid (Blk w18 gj 24 #[.int .i64 (N + M), .slice Aj J.length cj]) := by subst hw18; exact Lib.hid (GJ17.out.alloc _)
              have GX18 : Hid (Blk w18 gx 24 #[.int .i64 N, .slice Ax T.length cx]) := by subst hw18; exact Lib.hid (GX17.out.alloc _)
              have GY18 : Hid (Blk w18 gy 24 #[.int .i64 M, .slice Ay U.length cy]) := by subst hw18; exact Lib.hid (GY17.out.alloc _)
              have RJ18 : Hid (LRow w18 0 Aj cj J) := by subst hw18; exact Lib.hid (RJ17.out.alloc _)
              have RX18 : Hid (LRow w18 0 Ax cx T) := by subst hw18; exact Lib.hid (RX17.out.alloc _)
              have RY18 : Hid (LRow w18 0 Ay cy U) := by subst hw18; exact Lib.hid (RY17.out.alloc _)
              have RZ18 : Hid (LRow w18 0 Az cz J) := by subst hw18; exact Lib.hid (RZ17.out.alloc _)
              go_upto_region 38 with (fail)
              rw [← hw18]
              generalize w17.heap.size = gz at *
              clear hw18 H17 GJ17 GX17 GY17 RJ17 RX17 RY17 RZ17
              obtain ⟨s0, s1, t0, t1⟩ := H18.out.cells
              obtain ⟨x0, x1, _, _, _⟩ := soup_facts GX18.out
              go_wp2_with fail
              refine (same_true (by omega) RX18.out.tris ((HT.out.below H18.out.l).more H18.out.l.size)).mono ?_
              rintro e w19 ⟨rfl, hb⟩
              have H19 := Lib.hid (H18.out.on hb)
              have GJ19 := Lib.hid (blk_call GJ18.out hb)
              have GY19 := Lib.hid (blk_call GY18.out hb)
              have GZ19 := Lib.hid (blk_call GZ18.out hb)
              have RJ19 := Lib.hid (RJ18.out.below hb)
              have RY19 := Lib.hid (RY18.out.below hb)
              have RZ19 := Lib.hid (RZ18.out.below hb)
              clear hb H18 GJ18 GX18 GY18 GZ18 RJ18 RX18 RY18 RZ18 s0 s1 t0 t1 x0 x1
              obtain ⟨s0, s1, t0, t1⟩ := H19.out.cells
              obtain ⟨y0, y1, _, _, _⟩ := soup_facts GY19.out
              go_wp2_with fail
              refine (same_true (by omega) RY19.out.tris ((HU.out.below H19.out.l).more H19.out.l.size)).mono ?_
              rintro e w20 ⟨rfl, hb⟩
              have H20 := Lib.hid (H19.out.on hb)
              have GJ20 := Lib.hid (blk_call GJ19.out hb)
              have GZ20 := Lib.hid (blk_call GZ19.out hb)
              have RJ20 := Lib.hid (RJ19.out.below hb)
              have RZ20 := Lib.hid (RZ19.out.below hb)
              clear hb H19 GJ19 GY19 GZ19 RJ19 RY19 RZ19 s0 s1 t0 t1 y0 y1
              obtain ⟨j0, j1, _, _, _⟩ := soup_facts GJ20.out
              obtain ⟨z0, z1, _, _, _⟩ := soup_facts GZ20.out
              go_wp2_with fail
              refine (same_true (by have := HJL.out; omega) RZ20.out.tris RJ20.out.tris).mono ?_
              rintro e w21 ⟨rfl, hb⟩
              have H21 := Lib.hid (H20.out.on hb)
              clear hb
              go_wp2_with fail
              go_ret
              exact ⟨rfl, H21.out.l⟩
            · have hatb : ((at_.length : Int) == M) = false := by simp [hat]
              have hofb : ((of.length : Int) == N) = true := by simp [hof]
              go_wp2_with fail
              go_ret
              exact ⟨rfl, H15.out.l⟩
          · have hofb : ((of.length : Int) == N) = false := by simp [hof]
            go_wp2_with fail
            go_ret
            exact ⟨rfl, H15.out.l⟩
end Go.Proofs.Ytmmjonpkpeanpaa
