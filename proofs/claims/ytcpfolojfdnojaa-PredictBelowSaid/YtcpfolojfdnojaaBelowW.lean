/- PredictBelow, walked. No condition. -/
import Derived.Test.YtcpfolojfdnojaaWake28
import Derived.Test.YtcpfolojfdnojaaPointC
import Derived.Test.YtcpfolojfdnojaaRowP
import Derived.Test.YtcpfolojfdnojaaKnP
import Derived.Deep.CutRange
import Derived.Deep.DeepCutAuto
namespace Go.Proofs.Ytcpfolojfdnojaa
open Go.RowKit

set_option linter.unusedSimpArgs false
set_option linter.unusedVariables false
theorem point_info : (Try.prog.info? 36).map (fun i => (i.zero, i.size, i.bytes)) = some (some (.agg #[.int .i64 0, .int .i64 0, .int .i64 0]), 3, 24) := by kernel_rfl
theorem pt_facts {w : World} {g : Nat} {a b c : Value} (h : Blk w g 36 #[a, b, c]) : w.cell? ⟨g, 0, none⟩ = some a ∧ w.cell? ⟨g, 1, none⟩ = some b ∧ w.cell? ⟨g, 2, none⟩ = some c ∧ True := ⟨h.cell 0, h.cell 1, h.cell 2, trivial⟩
attribute [local irreducible] Blk LRow World.alloc World.setCell World.cell? World.frozen? MapV
set_option maxRecDepth 100000 in
set_option maxHeartbeats 8000000 in
theorem belowLaw_any (N : Int) (A : Option Addr) (n c : Nat) (T : List Tri) (Ap : Option Addr) (np cp : Nat) (P : List Tri) (o0 o1 o2 : Int) (w : World) (ht : TrisAt w w.heap.size A n T) (hcp : np ≤ cp) (hcm : cp ≤ maxLen) (hp : TrisAt w w.heap.size Ap np P) :
    Calls Try.prog 5 #[.agg #[.int .i64 N, .slice A n c], .slice Ap np cp, .agg #[.int .i64 o0, .int .i64 o1, .int .i64 o2]] w (BoolPost w true) := by
  obtain rfl : n = T.length := ht.len.symm
  have HT := Lib.hid ht
  have HP := Lib.hid hp
  have HPL : Hid (P.length = np) := Lib.hid hp.len
  clear ht hp
  obtain ⟨i0, hi0, hz0, hz1, hz2⟩ := info_parts point_info
  obtain ⟨V, hV⟩ : ∃ V, V = (w.alloc (.cells #[.int .i64 N, .slice A T.length c] 24)).alloc (.cells #[.int .i64 o0, .int .i64 o1, .int .i64 o2] 36) := ⟨_, rfl⟩
  have GA0 : Hid (Blk V w.heap.size 24 #[.int .i64 N, .slice A T.length c]) := by subst hV; exact Lib.hid ((Blk.new _ _ _).alloc _)
  have GQ0 : Hid (Blk V (w.heap.size + 1) 36 #[.int .i64 o0, .int .i64 o1, .int .i64 o2]) := by subst hV; exact Lib.hid (blk_new1 _ _ _ _)
  have HB0 : Hid (Below w.heap.size w V) := by subst hV; exact Lib.hid (bw_alloc (bw_alloc (Below.refl _ _) _) _)
  go_enter Try.func5, Try.ntmps5
  go_upto_region 1 with (fail)
  rw [← hV]
  clear hV
  obtain ⟨ga, hga⟩ : ∃ g, g = w.heap.size := ⟨_, rfl⟩
  obtain ⟨gq, hgq⟩ : ∃ g, g = w.heap.size + 1 := ⟨_, rfl⟩
  rw [← hgq] at GQ0 ⊢
  rw [← hga] at GA0
  simp only [← hga]
  clear hga hgq
  go_wp2_with fail
  refine (awake_any _).mono ?_
  rintro e w1 ⟨rfl, hb⟩
  have GA1 := Lib.hid (blk_call GA0.out hb)
  have GQ1 := Lib.hid (blk_call GQ0.out hb)
  have HB1 := Lib.hid (bw_call HB0.out hb)
  clear hb HB0 GA0 GQ0
  obtain ⟨s0, s1, _, _, _⟩ := soup_facts GA1.out
  by_cases hT40 : 40 < T.length
  · have hT40' : (40 : Int) < (T.length : Int) := by omega
    go_wp2_with fail
    go_ret
    exact ⟨rfl, HB1.out⟩
  have hT40' : ¬ (40 : Int) < (T.length : Int) := by omega
  by_cases hn40 : 40 < np
  · have hn40' : (40 : Int) < (np : Int) := by omega
    go_wp2_with fail
    go_ret
    exact ⟨rfl, HB1.out⟩
  have hn40' : ¬ (40 : Int) < (np : Int) := by omega
  go_wp2_with fail
  refine (known_any N A T.length c T w1 (by omega) ((HT.out.below HB1.out).more HB1.out.size)).mono ?_
  rintro e w2 (⟨hx, rfl, hb⟩ | ⟨m, gk, rfl, hx, rfl, hg, hk, hb⟩)
  · have HB2 := Lib.hid (bw_call HB1.out hb)
    clear hb hx s0 s1 GA1 GQ1 HB1
    go_wp2_with fail
    go_loopw [29] (fun iv wr => iv = .int .i64 0 ∧ Hid (Below w.heap.size w wr)) (fun iv _ => 0)
    case atStart => exact ⟨rfl, HB2⟩
    case round =>
      obtain ⟨rfl, HBr⟩ := hrel
      obtain ⟨wB, hwB⟩ : ∃ wB : World, wB = wr := ⟨_, rfl⟩
      rw [← hwB] at HBr ⊢
      clear hwB HB2
      go_wp2_with fail
      go_ret
      exact ⟨rfl, HBr.out⟩
  have GK2 := Lib.hid hk
  have GQ2 := Lib.hid (blk_call GQ1.out hb)
  have HB2 := Lib.hid (bw_call HB1.out hb)
  obtain ⟨m', hs⟩ := surf_of (checkR_zero (by rw [hx])).1
  have HAR : Hid (∀ v, ArOk ((v : Nat) : Int) (known T v)) := Lib.hid (fun v => known_ok hs.ok v)
  have hm1 : m ≤ 4096 := by have h1 := hs.m1; have h2 := hs.n; omega
  clear hb hx hk hs s0 s1 GA1 GQ1 HB1 hg
  go_wp2_with fail
  go_loopw [29] (fun iv wr => ∃ k : Nat, k ≤ m ∧ iv = .int .i64 k ∧ Hid (Blk wr gk 32 (arr m (known T))) ∧ Hid (Blk wr gq 36 #[.int .i64 o0, .int .i64 o1, .int .i64 o2]) ∧ Hid (Below w.heap.size w wr)) (fun iv _ => m - (intOf iv).toNat)
  case atStart => exact ⟨0, by omega, rfl, GK2, GQ2, HB2⟩
  case round =>
    obtain ⟨k, hk, rfl, GKk, GQk, HBk⟩ := hrel
    obtain ⟨wB, hwB⟩ : ∃ wB : World, wB = wr := ⟨_, rfl⟩
    rw [← hwB] at GKk GQk HBk ⊢
    clear hwB GK2 GQ2 HB2
    by_cases hlt : k < m
    · have hki : (k : Int) < (m : Int) := by omega
      have e0 := blk_fld GKk.out hlt (j := 0) (by omega)
      have e1 := blk_fld GKk.out hlt (j := 1) (by omega)
      have e2 := blk_fld GKk.out hlt (j := 2) (by omega)
      have e3 := blk_fld GKk.out hlt (j := 3) (by omega)
      have e4 := blk_fld GKk.out hlt (j := 4) (by omega)
      rw [Nat.add_zero] at e0
      have hok := HAR.out k
      generalize known T k = X at e0 e1 e2 e3 e4 hok
      obtain ⟨xl, xa, xb, xc, xd⟩ := X
      rw [show fld ⟨xl, xa, xb, xc, xd⟩ 0 = xl from rfl] at e0
      rw [show fld ⟨xl, xa, xb, xc, xd⟩ 1 = xa from rfl] at e1
      rw [show fld ⟨xl, xa, xb, xc, xd⟩ 2 = xb from rfl] at e2
      rw [show fld ⟨xl, xa, xb, xc, xd⟩ 3 = xc from rfl] at e3
      rw [show fld ⟨xl, xa, xb, xc, xd⟩ 4 = xd from rfl] at e4
      unfold ArOk at hok
      simp only at hok
      have hll : xl = (k : Int) - 1 := hok.1
      have ll : -1 ≤ xl ∧ xl < (k : Int) := by omega
      have la : -1 ≤ xa ∧ xa < (k : Int) := by omega
      have lb : -1 ≤ xb ∧ xb < (k : Int) := by omega
      have lc : -1 ≤ xc ∧ xc < (k : Int) := by omega
      have ld : -1 ≤ xd ∧ xd < (k : Int) := by omega
      have HOK := Lib.hid hok.2
      have HLL := Lib.hid ll
      have HLA := Lib.hid la
      have HLB := Lib.hid lb
      have HLC := Lib.hid lc
      have HLD := Lib.hid ld
      clear hok hll ll la lb lc ld
      obtain ⟨W1, hW1⟩ : ∃ W1, W1 = wB.alloc (.cells #[.int .i64 xl, .int .i64 xa, .int .i64 xb, .int .i64 xc, .int .i64 xd] 32) := ⟨_, rfl⟩
      have GX1 : Hid (Blk W1 wB.heap.size 32 #[.int .i64 xl, .int .i64 xa, .int .i64 xb, .int .i64 xc, .int .i64 xd]) := by subst hW1; exact Lib.hid (Blk.new _ _ _)
      have GK1 : Hid (Blk W1 gk 32 (arr m (known T))) := by subst hW1; exact Lib.hid (GKk.out.alloc _)
      have GQ1 : Hid (Blk W1 gq 36 #[.int .i64 o0, .int .i64 o1, .int .i64 o2]) := by subst hW1; exact Lib.hid (GQk.out.alloc _)
      have HB1 : Hid (Below w.heap.size w W1) := by subst hW1; exact Lib.hid (bw_alloc HBk.out _)
      go_upto_region 8 with (fail)
      rw [← hW1]
      generalize wB.heap.size = g8 at *
      clear hW1 GKk GQk HBk e0 e1 e2 e3 e4
      obtain ⟨x0, x1, x2, x3, x4⟩ := ar_facts GX1.out
      obtain ⟨W2, hW2⟩ : ∃ W2, W2 = W1.alloc (.cells #[.int .i64 xl, .int .i64 xa, .int .i64 xb, .int .i64 xc, .int .i64 xd] 3) := ⟨_, rfl⟩
      have GL2 : Hid (Blk W2 W1.heap.size 3 (ints [xl, xa, xb, xc, xd])) := by subst hW2; exact Lib.hid (Blk.new _ _ _)
      have GX2 : Hid (Blk W2 g8 32 #[.int .i64 xl, .int .i64 xa, .int .i64 xb, .int .i64 xc, .int .i64 xd]) := by subst hW2; exact Lib.hid (GX1.out.alloc _)
      have GK2 : Hid (Blk W2 gk 32 (arr m (known T))) := by subst hW2; exact Lib.hid (GK1.out.alloc _)
      have GQ2 : Hid (Blk W2 gq 36 #[.int .i64 o0, .int .i64 o1, .int .i64 o2]) := by subst hW2; exact Lib.hid (GQ1.out.alloc _)
      have HB2 : Hid (Below w.heap.size w W2) := by subst hW2; exact Lib.hid (bw_alloc HB1.out _)
      go_wp2_with fail
      rw [← hW2]
      generalize W1.heap.size = gl at *
      clear hW2 GX1 GK1 GQ1 HB1 x0 x1 x2 x3 x4
      go_loopw [46] (fun iv wr => ∃ j : Nat, j ≤ 5 ∧ iv = .int .i64 j ∧ wr = W2) (fun iv _ => 5 - (intOf iv).toNat)
      case atStart => exact ⟨0, by omega, rfl, rfl⟩
      case round =>
        obtain ⟨j, hj, rfl, hw⟩ := hrel
        obtain ⟨wC, hwC⟩ : ∃ wC : World, wC = wr := ⟨_, rfl⟩
        rw [← hwC] at hw ⊢
        clear hwC
        subst hw
        by_cases hlt5 : j < 5
        · have hji : (j : Int) < 5 := by omega
          have z0 := ints_cell GL2.out (k := j) hlt5
          have hz : -1 ≤ [xl, xa, xb, xc, xd].getD j 0 ∧ [xl, xa, xb, xc, xd].getD j 0 < (k : Int) := by
            rcases (by omega : j = 0 ∨ j = 1 ∨ j = 2 ∨ j = 3 ∨ j = 4) with rfl | rfl | rfl | rfl | rfl
            · exact HLL.out
            · exact HLA.out
            · exact HLB.out
            · exact HLC.out
            · exact HLD.out
          generalize [xl, xa, xb, xc, xd].getD j 0 = z at *
          have hz1 : ¬ z < -1 := by omega
          have hz2 : ¬ (k : Int) ≤ z := by omega
          go_wp2_with fail
          exact ⟨⟨j + 1, by omega, by go_num, by trivial⟩, by simp [intOf]; omega⟩
        · obtain rfl : j = 5 := by omega
          obtain ⟨x0, x1, x2, x3, x4⟩ := ar_facts GX2.out
          go_upto_region 14 with (fail)
          go_cut [119] from 58 to 119 (fun bv wx => bv = .bool false ∧ wx = wC)
          case first =>
            rcases HOK.out with ⟨ha, hb, hc, hd⟩ | ⟨⟨a0, a1⟩, ⟨b0, b1⟩, hab, ⟨hc, hd⟩ | ⟨⟨c0, c1, ca, cb⟩, hd | ⟨d0, d1, dc⟩⟩⟩
            · subst ha hb hc hd
              go_wp2_with fail
              go_meet
              exact ⟨rfl, rfl⟩
            · subst hc hd
              have nab : (xa == xb) = false := by simpa using hab
              have nb0 : ¬ xb < 0 := by omega
              have n1a : ((-1 : Int) == xa) = false := by simp; omega
              have n1b : ((-1 : Int) == xb) = false := by simp; omega
              go_wp2_with fail
              go_meet
              exact ⟨rfl, rfl⟩
            · subst hd
              have nab : (xa == xb) = false := by simpa using hab
              have nb0 : ¬ xb < 0 := by omega
              have na0 : ¬ xa < 0 := by omega
              have nca : (xc == xa) = false := by simpa using ca
              have ncb : (xc == xb) = false := by simpa using cb
              have n1c : ((-1 : Int) == xc) = false := by simp; omega
              have n1k : ((-1 : Int) == (k : Int)) = false := by simp <;> omega
              go_wp2_with fail
              go_meet
              exact ⟨rfl, rfl⟩
            · have nab : (xa == xb) = false := by simpa using hab
              have nb0 : ¬ xb < 0 := by omega
              have na0 : ¬ xa < 0 := by omega
              have nc0 : ¬ xc < 0 := by omega
              have nca : (xc == xa) = false := by simpa using ca
              have ncb : (xc == xb) = false := by simpa using cb
              have ndc : (xd == xc) = false := by simpa using dc
              have ndk : (xd == (k : Int)) = false := by simp; omega
              go_wp2_with fail
              go_meet
              exact ⟨rfl, rfl⟩
          case rest =>
            obtain ⟨rfl, hw⟩ := hcut
            replace hw := hw.symm
            subst hw
            clear x0 x1 x2 x3 x4 HOK GL2
            have HBE : Hid (Below w.heap.size w (wC.alloc (.cells #[] 36))) := Lib.hid (bw_alloc HB2.out _)
            go_upto_region 17 with (at_builtin; go_must (refine wpList_append_sl _ rfl (.tmp 120) (.tmp 121) _ rfl wC.heap.size 36 i0 _ 3 24 Try.underlying34 hi0 hz0 hz1 hz2 rfl (by omega) (.slice (some ⟨wC.heap.size, 0, none⟩) 0 0) 0 [] rfl (own_at (Blk.new _ _ _) (Nat.le_refl _)) w.heap.size Ap np cp (P.flatMap Tri.cells) rfl (HP.out.row.below HBE.out) (tris_one8 P) (by simp only [maxLen]; omega) (by omega) (bw_size (bw_alloc (Below.refl wC.heap.size wC) (.cells #[] 36))) ?_); intro A5 c5 w5 hown5 hg5 hat5)
            simp only [Nat.zero_add, List.nil_append] at hown5 ⊢
            have hne3 : ∀ k, k < wC.heap.size → some k ≠ (Value.slice (some ⟨wC.heap.size, 0, none⟩) 0 0).ownBlock := fun k hk e => by
              simp [Value.ownBlock] at e
              omega
            have GX5 : Hid (Blk w5 g8 32 #[.int .i64 xl, .int .i64 xa, .int .i64 xb, .int .i64 xc, .int .i64 xd]) := Lib.hid ((GX2.out.alloc _).grown hg5 (hne3 _ GX2.out.lt))
            have GK5 : Hid (Blk w5 gk 32 (arr m (known T))) := Lib.hid ((GK2.out.alloc _).grown hg5 (hne3 _ GK2.out.lt))
            have GQ5 : Hid (Blk w5 gq 36 #[.int .i64 o0, .int .i64 o1, .int .i64 o2]) := Lib.hid ((GQ2.out.alloc _).grown hg5 (hne3 _ GQ2.out.lt))
            have RP5 : Hid (PRow w5 wC.heap.size A5 P) := Lib.hid (prow_of hown5 HPL.out.symm)
            have HB5 : Hid (Below w.heap.size w w5) := Lib.hid (bw_grow HBE.out hg5 (fun k hk => by simp [Value.ownBlock] at hk; have := HB2.out.size; omega))
            have HGE : Hid (g8 < wC.heap.size ∧ gk < wC.heap.size ∧ gq < wC.heap.size ∧ w.heap.size ≤ wC.heap.size) := Lib.hid ⟨GX2.out.lt, GK2.out.lt, GQ2.out.lt, HB2.out.size⟩
            generalize wC.heap.size = gE at *
            clear hown5 hg5 hat5 hne3 GX2 GK2 GQ2 HB2 HBE
            go_wp2_with fail
            go_loopw [12] (fun iv wr => ∃ (i : Nat) (L : List Tri), k ≤ i ∧ (k ≤ np → i ≤ np) ∧ iv = .int .i64 i ∧ Hid (L.length = np ∧ ∀ j, j < k → L[j]? = P[j]?) ∧ Hid (PRow wr gE A5 L) ∧ Hid (Blk wr gk 32 (arr m (known T))) ∧ Hid (Blk wr g8 32 #[.int .i64 xl, .int .i64 xa, .int .i64 xb, .int .i64 xc, .int .i64 xd]) ∧ Hid (Blk wr gq 36 #[.int .i64 o0, .int .i64 o1, .int .i64 o2]) ∧ Hid (Below w.heap.size w wr)) (fun iv _ => np - (intOf iv).toNat)
            case atStart => exact ⟨k, P, Nat.le_refl _, fun h => h, rfl, Lib.hid ⟨HPL.out, fun _ _ => rfl⟩, RP5, GK5, GX5, GQ5, HB5⟩
            case round =>
              obtain ⟨i, L, hki2, hin, rfl, HLP, RPi, GKi, GXi, GQi, HBi⟩ := hrel
              obtain ⟨wD, hwD⟩ : ∃ wD : World, wD = wr := ⟨_, rfl⟩
              rw [← hwD] at RPi GKi GXi GQi HBi ⊢
              clear hwD RP5 GK5 GX5 GQ5 HB5
              by_cases hltn : i < np
              · have hii : (i : Int) < (np : Int) := by omega
                have hil : i < L.length := by rw [HLP.out.1]; exact hltn
                obtain ⟨gc, hAc, hgc, hblk⟩ := RPi.out (fun e => by rw [e] at hil; simp at hil)
                subst hAc
                have hcs := hblk.cells (List.getElem?_eq_getElem hil)
                generalize L[i] = tt at hcs
                obtain ⟨c0, c1, c2⟩ := hcs
                have f0 := hblk.frozen (i * 3)
                have f1 := hblk.frozen (i * 3 + 1)
                have f2 := hblk.frozen (i * 3 + 2)
                obtain ⟨p0, p1, p2, _⟩ := pt_facts GQi.out
                have nk : gk ≠ gc := by have := HGE.out.2.1; omega
                have n8 : g8 ≠ gc := by have := HGE.out.1; omega
                have nq : gq ≠ gc := by have := HGE.out.2.2.1; omega
                have hwg : w.heap.size ≤ gc := by have := HGE.out.2.2.2; omega
                have hS := hblk.set i ⟨o0, o1, o2⟩
                have RPn : Hid (PRow (((wD.setCell ⟨gc, i * 3, none⟩ (.int .i64 o0)).setCell ⟨gc, i * 3 + 1, none⟩ (.int .i64 o1)).setCell ⟨gc, i * 3 + 2, none⟩ (.int .i64 o2)) gE (some ⟨gc, 0, none⟩) (L.set i ⟨o0, o1, o2⟩)) := Lib.hid (fun _ => ⟨gc, rfl, hgc, hS⟩)
                have HLn : Hid ((L.set i ⟨o0, o1, o2⟩).length = np ∧ ∀ j, j < k → (L.set i ⟨o0, o1, o2⟩)[j]? = P[j]?) := Lib.hid ⟨by rw [List.length_set]; exact HLP.out.1, fun j hj => by rw [List.getElem?_set_ne (by omega)]; exact HLP.out.2 j hj⟩
                have GKn := Lib.hid (((GKi.out.far nk (.int .i64 o0) (p := ⟨gc, i * 3, none⟩)).far nk (.int .i64 o1) (p := ⟨gc, i * 3 + 1, none⟩)).far nk (.int .i64 o2) (p := ⟨gc, i * 3 + 2, none⟩))
                have GXn := Lib.hid (((GXi.out.far n8 (.int .i64 o0) (p := ⟨gc, i * 3, none⟩)).far n8 (.int .i64 o1) (p := ⟨gc, i * 3 + 1, none⟩)).far n8 (.int .i64 o2) (p := ⟨gc, i * 3 + 2, none⟩))
                have GQn := Lib.hid (((GQi.out.far nq (.int .i64 o0) (p := ⟨gc, i * 3, none⟩)).far nq (.int .i64 o1) (p := ⟨gc, i * 3 + 1, none⟩)).far nq (.int .i64 o2) (p := ⟨gc, i * 3 + 2, none⟩))
                have HBn := Lib.hid (bw_set (bw_set (bw_set HBi.out hwg (.int .i64 o0) (p := ⟨gc, i * 3, none⟩)) hwg (.int .i64 o1) (p := ⟨gc, i * 3 + 1, none⟩)) hwg (.int .i64 o2) (p := ⟨gc, i * 3 + 2, none⟩))
                clear hS hblk nk n8 nq hwg hgc RPi GKi GXi GQi HBi HLP
                go_wp2_with fail
                exact ⟨⟨i + 1, _, by omega, by omega, by go_num, HLn, RPn, GKn, GXn, GQn, HBn⟩, by simp [intOf]; omega⟩
              · have hni : (np : Int) ≤ (i : Int) := by omega
                have hni2 : ¬ (i : Int) < (np : Int) := by omega
                go_upto_region 21 with (fail)
                have HAG : Hid (∀ (q : Int) (j : Nat), pointL q ⟨xl, xa, xb, xc, xd⟩ L j = pointL q ⟨xl, xa, xb, xc, xd⟩ P j) := Lib.hid fun q j => point_agree HLL.out.2 HLA.out.2 HLB.out.2 HLC.out.2 HLD.out.2 (fun f hf => by rw [HLP.out.1, HPL.out]) (fun j hj _ => HLP.out.2 j hj) j
                have HAT : Hid (∀ (q : Int) (j : Nat), pointL q ⟨xl, xa, xb, xc, xd⟩ (P.take (min k np)) j = pointL q ⟨xl, xa, xb, xc, xd⟩ P j) := Lib.hid fun q j => by
                  have h1 := point_take (kd := q) (x := ⟨xl, xa, xb, xc, xd⟩) (P := P) HLL.out.2 HLA.out.2 HLB.out.2 HLC.out.2 HLD.out.2 j
                  rwa [HPL.out] at h1
                have HLl : Hid (L.length = np) := Lib.hid HLP.out.1
                obtain ⟨kn, hkn⟩ : ∃ kn, kn = min k np := ⟨_, rfl⟩
                have hmin : min (k : Int) (np : Int) = (kn : Int) := by omega
                have hkn0 : kn ≤ np := by omega
                have hkc : kn ≤ cp := by omega
                have hkci : (kn : Int) ≤ (cp : Int) := by omega
                rw [← hkn] at HAT
                clear hkn HLP hni hni2 hin hki2
                go_wp2_with fail
                go_loopw [13] (fun iv wr => ∃ kk : Nat, kk ≤ 4 ∧ iv = .int .i64 kk ∧ Hid (Blk wr gk 32 (arr m (known T))) ∧ Hid (Blk wr g8 32 #[.int .i64 xl, .int .i64 xa, .int .i64 xb, .int .i64 xc, .int .i64 xd]) ∧ Hid (Blk wr gq 36 #[.int .i64 o0, .int .i64 o1, .int .i64 o2]) ∧ Hid (PRow wr gE A5 L) ∧ Hid (Below w.heap.size w wr)) (fun iv _ => 4 - (intOf iv).toNat)
                case atStart => exact ⟨0, by omega, rfl, GKi, GXi, GQi, RPi, HBi⟩
                case round =>
                  obtain ⟨kk, hkk, rfl, GKw, GXw, GQw, RPw, HBw⟩ := hrel
                  obtain ⟨wF, hwF⟩ : ∃ wF : World, wF = wr := ⟨_, rfl⟩
                  rw [← hwF] at GKw GXw GQw RPw HBw ⊢
                  clear hwF GKi GXi GQi RPi HBi
                  by_cases hk4 : kk < 4
                  · have hk4i : (kk : Int) < 4 := by omega
                    obtain ⟨q0, HL0⟩ : ∃ q0, Hid (pointL (kk : Int) ⟨xl, xa, xb, xc, xd⟩ P 0 = q0) := ⟨_, Lib.hid rfl⟩
                    obtain ⟨q1, HL1⟩ : ∃ q1, Hid (pointL (kk : Int) ⟨xl, xa, xb, xc, xd⟩ P 1 = q1) := ⟨_, Lib.hid rfl⟩
                    obtain ⟨q2, HL2⟩ : ∃ q2, Hid (pointL (kk : Int) ⟨xl, xa, xb, xc, xd⟩ P 2 = q2) := ⟨_, Lib.hid rfl⟩
                    have HC1 : Hid (∀ (W : World), Below w.heap.size w W → Calls Try.prog 13 #[.int .i64 (kk : Int), .agg #[.int .i64 xl, .int .i64 xa, .int .i64 xb, .int .i64 xc, .int .i64 xd], .slice Ap np cp] W (Pt3 W q0 q1 q2)) := Lib.hid fun W h => by
                      have h1 := point_any (kk : Int) xl xa xb xc xd Ap np cp P W (by omega) ((HP.out.below h).more h.size)
                      unfold PtPost at h1
                      rw [HL0.out, HL1.out, HL2.out] at h1
                      exact h1
                    have HC2 : Hid (∀ (W : World), PRow W gE A5 L → Calls Try.prog 13 #[.int .i64 (kk : Int), .agg #[.int .i64 xl, .int .i64 xa, .int .i64 xb, .int .i64 xc, .int .i64 xd], .slice A5 np c5] W (Pt3 W q0 q1 q2)) := Lib.hid fun W h => by
                      have h1 := point_any (kk : Int) xl xa xb xc xd A5 np c5 L W (by omega) (by have h2 := h.tris; rwa [HLl.out] at h2)
                      unfold PtPost at h1
                      rw [HAG.out, HAG.out, HAG.out, HL0.out, HL1.out, HL2.out] at h1
                      exact h1
                    have HC3 : Hid (∀ (W : World), Below w.heap.size w W → Calls Try.prog 13 #[.int .i64 (kk : Int), .agg #[.int .i64 xl, .int .i64 xa, .int .i64 xb, .int .i64 xc, .int .i64 xd], .slice Ap kn cp] W (Pt3 W q0 q1 q2)) := Lib.hid fun W h => by
                      have h1 := point_any (kk : Int) xl xa xb xc xd Ap kn cp (P.take kn) W (by omega) (((HP.out.take hkn0).below h).more h.size)
                      unfold PtPost at h1
                      rw [HAT.out, HAT.out, HAT.out, HL0.out, HL1.out, HL2.out] at h1
                      exact h1
                    clear HL0 HL1 HL2
                    obtain ⟨x0, x1, x2, x3, x4⟩ := ar_facts GXw.out
                    go_wp2_with fail
                    refine (HC1.out wF HBw.out).mono ?_
                    rintro e w13 ⟨rfl, hb⟩
                    have GK13 := Lib.hid (blk_call GKw.out hb)
                    have GX13 := Lib.hid (blk_call GXw.out hb)
                    have GQ13 := Lib.hid (blk_call GQw.out hb)
                    have RP13 := Lib.hid (RPw.out.below hb)
                    have HB13 := Lib.hid (bw_call HBw.out hb)
                    clear hb GKw GXw GQw RPw HBw x0 x1 x2 x3 x4 HC1
                    obtain ⟨w14, hw14⟩ : ∃ w14, w14 = w13.alloc (.cells #[.int .i64 q0, .int .i64 q1, .int .i64 q2] 36) := ⟨_, rfl⟩
                    have GTw14 : Hid (Blk w14 w13.heap.size 36 #[.int .i64 q0, .int .i64 q1, .int .i64 q2]) := by subst hw14; exact Lib.hid (Blk.new _ _ _)
                    have GKw14 : Hid (Blk w14 gk 32 (arr m (known T))) := by subst hw14; exact Lib.hid (GK13.out.alloc _)
                    have GXw14 : Hid (Blk w14 g8 32 #[.int .i64 xl, .int .i64 xa, .int .i64 xb, .int .i64 xc, .int .i64 xd]) := by subst hw14; exact Lib.hid (GX13.out.alloc _)
                    have GQw14 : Hid (Blk w14 gq 36 #[.int .i64 o0, .int .i64 o1, .int .i64 o2]) := by subst hw14; exact Lib.hid (GQ13.out.alloc _)
                    have RPw14 : Hid (PRow w14 gE A5 L) := by subst hw14; exact Lib.hid (RP13.out.alloc _)
                    have HBw14 : Hid (Below w.heap.size w w14) := by subst hw14; exact Lib.hid (bw_alloc HB13.out _)
                    have hne := run_ne_pt q0 q1 q2
                    go_upto_region 25 with (fail)
                    rw [← hw14]
                    generalize w13.heap.size = gt at *
                    clear hw14 GK13 GX13 GQ13 RP13 HB13
                    refine wp_region_held_drew (S := fun w' => w'.cell? ⟨g8, 0, none⟩ = some (.int .i64 xl) ∧ w'.cell? ⟨g8, 1, none⟩ = some (.int .i64 xa) ∧ w'.cell? ⟨g8, 2, none⟩ = some (.int .i64 xb) ∧ w'.cell? ⟨g8, 3, none⟩ = some (.int .i64 xc) ∧ w'.cell? ⟨g8, 4, none⟩ = some (.int .i64 xd) ∧ w'.cell? ⟨gt, 0, none⟩ = some (.int .i64 q0) ∧ w'.cell? ⟨gt, 1, none⟩ = some (.int .i64 q1) ∧ w'.cell? ⟨gt, 2, none⟩ = some (.int .i64 q2)) (by kernel_rfl) ⟨(ar_facts GXw14.out.drew).1, (ar_facts GXw14.out.drew).2.1, (ar_facts GXw14.out.drew).2.2.1, (ar_facts GXw14.out.drew).2.2.2.1, (ar_facts GXw14.out.drew).2.2.2.2, (GTw14.out.drew.cell 0), (GTw14.out.drew.cell 1), (GTw14.out.drew.cell 2)⟩ (fun hHeld => ?_)
                    refine held_take (i := 0) (v := ?v15) rfl (by kernel_rfl) (by kernel_rfl) (by kernel_rfl) (fun _ _ _ h => h) (Or.inl ⟨by rfl, ?hy15⟩) (by assumption) ?rest15
                    case hy15 => (intro w hSw; (try dsimp only at hSw); go_simp; try with_reducible rfl)
                    (try simp only [Act.put, List.setIfInBounds_toArray, List.set_cons_zero, List.set_cons_succ])
                    refine held_take (i := 1) (v := ?v16) rfl (by kernel_rfl) (by kernel_rfl) (by kernel_rfl) (fun _ _ _ h => h) (Or.inl ⟨by rfl, ?hy16⟩) (by assumption) ?rest16
                    case hy16 => (intro w hSw; (try dsimp only at hSw); go_simp; try with_reducible rfl)
                    (try simp only [Act.put, List.setIfInBounds_toArray, List.set_cons_zero, List.set_cons_succ])
                    refine held_take (i := 2) (v := ?v17) rfl (by kernel_rfl) (by kernel_rfl) (by kernel_rfl) (fun _ _ _ h => h) (Or.inl ⟨by rfl, ?hy17⟩) (by assumption) ?rest17
                    case hy17 => (intro w hSw; (try dsimp only at hSw); go_simp; try with_reducible rfl)
                    (try simp only [Act.put, List.setIfInBounds_toArray, List.set_cons_zero, List.set_cons_succ])
                    refine held_take (i := 4) (v := ?v18) rfl (by kernel_rfl) (by kernel_rfl) (by kernel_rfl) (fun _ _ _ h => h) (Or.inl ⟨by rfl, ?hy18⟩) (by assumption) ?rest18
                    case hy18 => (intro w hSw; (try dsimp only at hSw); go_simp; try with_reducible rfl)
                    (try simp only [Act.put, List.setIfInBounds_toArray, List.set_cons_zero, List.set_cons_succ])
                    refine wpAnyH_ready (rs := [3]) (by kernel_rfl) (by simp) ?_
                    refine held_cons rfl (fun K hK => ?_) ?_
                    · go_simp
                      go_wp2_with (go_at_call 13; refine (HC2.out w14.drew RPw14.out.drew).mono ?_; rintro e v40 ⟨rfl, hb⟩)
                      have GXv40 := Lib.hid (blk_call GXw14.out.drew hb)
                      have GTv40 := Lib.hid (blk_call GTw14.out.drew hb)
                      have GKv40 := Lib.hid (blk_call GKw14.out.drew hb)
                      have GQv40 := Lib.hid (blk_call GQw14.out.drew hb)
                      have RPv40 := Lib.hid (RPw14.out.drew.below hb)
                      have HBv40 := Lib.hid (bw_call (bw_drew HBw14.out) hb)
                      clear hb
                      refine hK.out _ _ ?_ (fun hHeld => ?_)
                      · exact ⟨(ar_facts GXv40.out).1, (ar_facts GXv40.out).2.1, (ar_facts GXv40.out).2.2.1, (ar_facts GXv40.out).2.2.2.1, (ar_facts GXv40.out).2.2.2.2, (GTv40.out.cell 0), (GTv40.out.cell 1), (GTv40.out.cell 2)⟩
                      clear hK K
                      (try simp only [Act.put, List.setIfInBounds_toArray, List.set_cons_zero, List.set_cons_succ])
                      refine held_take (i := 5) (v := ?v19) rfl (by kernel_rfl) (by kernel_rfl) (by kernel_rfl) (fun _ _ _ h => h) (Or.inl ⟨by rfl, ?hy19⟩) (by assumption) ?rest19
                      case hy19 => (intro w hSw; (try dsimp only at hSw); go_simp; try with_reducible rfl)
                      (try simp only [Act.put, List.setIfInBounds_toArray, List.set_cons_zero, List.set_cons_succ])
                      refine held_take (i := 6) (v := ?v20) rfl (by kernel_rfl) (by kernel_rfl) (by kernel_rfl) (fun _ _ _ h => h) (Or.inl ⟨by rfl, ?hy20⟩) (by assumption) ?rest20
                      case hy20 => (intro w hSw; (try dsimp only at hSw); go_simp; try with_reducible rfl)
                      (try simp only [Act.put, List.setIfInBounds_toArray, List.set_cons_zero, List.set_cons_succ])
                      refine held_take (i := 7) (v := ?v21) rfl (by kernel_rfl) (by kernel_rfl) (by kernel_rfl) (fun _ _ _ h => h) (Or.inl ⟨by rfl, ?hy21⟩) (by assumption) ?rest21
                      case hy21 => (intro w hSw; (try dsimp only at hSw); go_simp; try with_reducible rfl)
                      (try simp only [Act.put, List.setIfInBounds_toArray, List.set_cons_zero, List.set_cons_succ])
                      refine held_take (i := 8) (v := ?v22) rfl (by kernel_rfl) (by kernel_rfl) (by kernel_rfl) (fun _ _ _ h => h) (Or.inl ⟨by rfl, ?hy22⟩) (by assumption) ?rest22
                      case hy22 => (intro w hSw; (try dsimp only at hSw); go_simp; try with_reducible rfl)
                      (try simp only [Act.put, List.setIfInBounds_toArray, List.set_cons_zero, List.set_cons_succ])
                      refine held_take (i := 9) (v := ?v23) rfl (by kernel_rfl) (by kernel_rfl) (by kernel_rfl) (fun _ _ _ h => h) (Or.inl ⟨by rfl, ?hy23⟩) (by assumption) ?rest23
                      case hy23 => (intro w hSw; (try dsimp only at hSw); go_simp; try with_reducible rfl)
                      (try simp only [Act.put, List.setIfInBounds_toArray, List.set_cons_zero, List.set_cons_succ])
                      refine held_take (i := 10) (v := ?v24) rfl (by kernel_rfl) (by kernel_rfl) (by kernel_rfl) (fun _ _ _ h => h) (Or.inl ⟨by rfl, ?hy24⟩) (by assumption) ?rest24
                      case hy24 => (intro w hSw; (try dsimp only at hSw); go_simp; try with_reducible rfl)
                      (try simp only [Act.put, List.setIfInBounds_toArray, List.set_cons_zero, List.set_cons_succ])
                      refine held_take (i := 11) (v := ?v25) rfl (by kernel_rfl) (by kernel_rfl) (by kernel_rfl) (fun _ _ _ h => h) (Or.inl ⟨by rfl, ?hy25⟩) (by assumption) ?rest25
                      case hy25 => (intro w hSw; (try dsimp only at hSw); go_simp; try with_reducible rfl)
                      (try simp only [Act.put, List.setIfInBounds_toArray, List.set_cons_zero, List.set_cons_succ])
                      refine held_take (i := 12) (v := ?v26) rfl (by kernel_rfl) (by kernel_rfl) (by kernel_rfl) (fun _ _ _ h => h) (Or.inl ⟨by rfl, ?hy26⟩) (by assumption) ?rest26
                      case hy26 => (intro w hSw; (try dsimp only at hSw); go_simp; try with_reducible rfl)
                      (try simp only [Act.put, List.setIfInBounds_toArray, List.set_cons_zero, List.set_cons_succ])
                      refine held_take (i := 13) (v := ?v27) rfl (by kernel_rfl) (by kernel_rfl) (by kernel_rfl) (fun _ _ _ h => h) (Or.inl ⟨by rfl, ?hy27⟩) (by assumption) ?rest27
                      case hy27 => (intro w hSw; (try dsimp only at hSw); go_simp; try with_reducible rfl)
                      (try simp only [Act.put, List.setIfInBounds_toArray, List.set_cons_zero, List.set_cons_succ])
                      refine held_take (i := 14) (v := ?v28) rfl (by kernel_rfl) (by kernel_rfl) (by kernel_rfl) (fun _ _ _ h => h) (Or.inl ⟨by rfl, ?hy28⟩) (by assumption) ?rest28
                      case hy28 => (intro w hSw; (try dsimp only at hSw); go_simp; try with_reducible rfl)
                      (try simp only [Act.put, List.setIfInBounds_toArray, List.set_cons_zero, List.set_cons_succ])
                      refine held_take (i := 16) (v := ?v29) rfl (by kernel_rfl) (by kernel_rfl) (by kernel_rfl) (fun _ _ _ h => h) (Or.inl ⟨by rfl, ?hy29⟩) (by assumption) ?rest29
                      case hy29 => (intro w hSw; (try dsimp only at hSw); go_simp; try with_reducible rfl)
                      (try simp only [Act.put, List.setIfInBounds_toArray, List.set_cons_zero, List.set_cons_succ])
                      refine wpAnyH_ready (rs := [15]) (by kernel_rfl) (by simp) ?_
                      refine held_cons rfl (fun K hK => ?_) ?_
                      · go_simp
                        go_wp2_with (go_at_call 13; refine (HC3.out v40 HBv40.out).mono ?_; rintro e v41 ⟨rfl, hb⟩)
                        have GXv41 := Lib.hid (blk_call GXv40.out hb)
                        have GTv41 := Lib.hid (blk_call GTv40.out hb)
                        have GKv41 := Lib.hid (blk_call GKv40.out hb)
                        have GQv41 := Lib.hid (blk_call GQv40.out hb)
                        have RPv41 := Lib.hid (RPv40.out.below hb)
                        have HBv41 := Lib.hid (bw_call HBv40.out hb)
                        clear hb GXv40 GTv40 GKv40 GQv40 RPv40 HBv40
                        refine hK.out _ _ ?_ (fun hHeld => ?_)
                        · exact ⟨(ar_facts GXv41.out).1, (ar_facts GXv41.out).2.1, (ar_facts GXv41.out).2.2.1, (ar_facts GXv41.out).2.2.2.1, (ar_facts GXv41.out).2.2.2.2, (GTv41.out.cell 0), (GTv41.out.cell 1), (GTv41.out.cell 2)⟩
                        clear hK K
                        (try simp only [Act.put, List.setIfInBounds_toArray, List.set_cons_zero, List.set_cons_succ])
                        refine held_take (i := 17) (v := ?v30) rfl (by kernel_rfl) (by kernel_rfl) (by kernel_rfl) (fun _ _ _ h => h) (Or.inl ⟨by rfl, ?hy30⟩) (by assumption) ?rest30
                        case hy30 => (intro w hSw; (try dsimp only at hSw); go_simp; try with_reducible rfl)
                        (try simp only [Act.put, List.setIfInBounds_toArray, List.set_cons_zero, List.set_cons_succ])
                        refine held_take (i := 18) (v := ?v31) rfl (by kernel_rfl) (by kernel_rfl) (by kernel_rfl) (fun _ _ _ h => h) (Or.inl ⟨by rfl, ?hy31⟩) (by assumption) ?rest31
                        case hy31 => (intro w hSw; (try dsimp only at hSw); go_simp; try with_reducible rfl)
                        (try simp only [Act.put, List.setIfInBounds_toArray, List.set_cons_zero, List.set_cons_succ])
                        refine wpAnyH_done (by kernel_rfl) ?_ _
                        go_wp2_with fail
                        exact ⟨⟨kk + 1, by omega, by go_num, GKv41, GXv41, GQv41, RPv41, HBv41⟩, by simp [intOf]; omega⟩
                      exact AllReadyH.nil
                    exact AllReadyH.nil
                  · obtain rfl : kk = 4 := by omega
                    go_wp2_with fail
                    exact ⟨⟨k + 1, by omega, by go_num, GKw, GQw, HBw⟩, by simp [intOf]; omega⟩
    · obtain rfl : k = m := by omega
      go_wp2_with fail
      go_ret
      exact ⟨rfl, HBk.out⟩
end Go.Proofs.Ytcpfolojfdnojaa
