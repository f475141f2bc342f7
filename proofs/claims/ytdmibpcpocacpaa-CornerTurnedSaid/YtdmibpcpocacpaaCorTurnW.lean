/- CornerTurned, walked. No condition. -/
import Derived.Test.YtdmibpcpocacpaaCorner
import Derived.Test.YtdmibpcpocacpaaCorTurnP
import Derived.IntWalk
namespace Go.Proofs.Ytdmibpcpocacpaa
open Go.RowKit

set_option linter.unusedSimpArgs false
set_option linter.unusedVariables false
theorem TabAt.setBool {w : World} {g gs k n : Nat} {N : Int} {T : List Tri} {p : Nat → Bool} (h : TabAt w 0 g N T) (hs : Blk w gs 4 (bools n p)) (hk : k < n) : TabAt (w.setCell ⟨gs, k, none⟩ (.bool true)) 0 g N T := by
  obtain ⟨A, c, b', n', gf, m, L, h1, h2, h3, h4, h5, h6, h7, h8, h9, h10⟩ := h.at_
  exact ⟨A, c, b', n', gf, m, L, h1.far (h1.ne_ hs (by decide)) _, h2, h3, h4, own_same h5 fun k hk => by
    obtain ⟨ds, hd⟩ := own_blk h5 hk
    exact Below.heap_setCell _ _ _ _ (hd.ne_ hs (by decide)), MapV.setCell h6 ((hs.cell k).trans (bools_at _ hk)) _, h7.far (h7.ne_ hs (by decide)) _, h8, h9, h10⟩
attribute [local irreducible] Blk LRow World.alloc World.setCell World.cell? World.frozen? MapV
set_option maxRecDepth 100000 in
set_option maxHeartbeats 8000000 in
theorem turnedLaw_any (N : Int) (A : Option Addr) (n c : Nat) (T : List Tri) (Al : Option Addr) (ml cl : Nat) (l : List Int) (w : World) (ht : TrisAt w w.heap.size A n T) (HL : Hid (Reads w w.heap.size 1 Al ml (ZL l))) (HLN : Hid (l.length = ml)) :
    Calls Try.prog 9 #[.agg #[.int .i64 N, .slice A n c], .slice Al ml cl] w (BoolPost w true) := by
  obtain rfl : n = T.length := ht.len.symm
  have HT := Lib.hid ht
  clear ht
  obtain ⟨V, hV⟩ : ∃ V, V = (w.alloc (.cells #[.int .i64 N, .slice A T.length c] 24)) := ⟨_, rfl⟩
  have GA0 : Hid (Blk V w.heap.size 24 #[.int .i64 N, .slice A T.length c]) := by subst hV; exact Lib.hid (Blk.new _ _ _)
  have HB0 : Hid (Below w.heap.size w V) := by subst hV; exact Lib.hid (bw_alloc (Below.refl _ _) _)
  go_enter Try.func9, Try.ntmps9
  go_upto_region 1 with (fail)
  rw [← hV]
  clear hV
  obtain ⟨ga, hga⟩ : ∃ g, g = w.heap.size := ⟨_, rfl⟩
  rw [← hga] at GA0
  simp only [← hga]
  clear hga
  go_wp2_with fail
  refine (awake_any _).mono ?_
  rintro e w1 ⟨rfl, hb⟩
  have GA1 := Lib.hid (blk_call GA0.out hb)
  have HB1 := Lib.hid (bw_call HB0.out hb)
  clear hb HB0 GA0
  obtain ⟨s0, s1, _, _, _⟩ := soup_facts GA1.out
  go_wp2_with fail
  refine (laid_any N A T.length c T w1 ((HT.out.below HB1.out).more HB1.out.size)).mono ?_
  rintro e w3 (⟨hbg, rfl, hb⟩ | ⟨hbg, hx, rfl, hb⟩ | ⟨hbg, hx, g, rfl, htab, hb⟩)
  · have HB3 := Lib.hid (bw_call HB1.out hb)
    clear hb s0 s1 hbg
    go_wp2_with fail
    go_ret
    exact ⟨rfl, HB3.out⟩
  · have HB3 := Lib.hid (bw_call HB1.out hb)
    clear hb s0 s1 hbg hx
    go_wp2_with fail
    go_ret
    exact ⟨rfl, HB3.out⟩
  · have HBw3 := Lib.hid (bw_call HB1.out hb)
    have GAw3 := Lib.hid (blk_call GA1.out hb)
    have hT8 : T.length ≤ 8192 := by unfold bigS at hbg; omega
    have hT40 : T.length ≤ 40 := by unfold bigS at hbg; omega
    obtain ⟨m, hs⟩ := surf_of (checkR_zero (by rw [hx])).1
    obtain rfl : N = (m : Int) := hs.n
    have TBw3 : Hid (TabAt w3 0 g (m : Int) T) := Lib.hid (htab.base (Nat.zero_le _))
    have hm1 := hs.m1
    have HS := Lib.hid hs
    clear hb htab hx hs hbg s0 s1 HB1 GA1
    by_cases hm40 : 40 < ml
    · have hm40' : (40 : Int) < (ml : Int) := by omega
      go_wp2_with fail
      go_ret
      exact ⟨rfl, HBw3.out⟩
    have hm40' : ¬ (40 : Int) < (ml : Int) := by omega
    obtain ⟨s0, s1, _, _, _⟩ := soup_facts GAw3.out
    by_cases hml : ml = T.length
    rotate_left
    · have hml' : ¬ (ml : Int) = (T.length : Int) := by omega
      have hmlb : ((ml : Int) != (T.length : Int)) = true := by simpa using hml'
      have hmlc : ((ml : Int) == (T.length : Int)) = false := by simpa using hml'
      go_wp2_with fail
      go_ret
      exact ⟨rfl, HBw3.out⟩
    subst hml
    obtain ⟨i1, hi1, hy0, hy1, hy2⟩ := info_parts bool_info
    have hmk := fun W => run_make_rowN (P := Try.prog) 53 4 i1 (.bool false) Try.underlying53 hi1 hy0 .i64 .i64 T.length T.length (Nat.le_refl _) (by rw [hy2]; omega) (by omega) W
    rw [hy1, Nat.mul_one, madeBools] at hmk
    clear hi1 hy0 hy1 hy2
    have hse : SurfE m T := (surf_e.1 HS.out).2
    have HFIT := Lib.hid (fit_surf hse)
    have HSE := Lib.hid hse
    clear hse hm40 hm40'
    obtain ⟨w4, hw4⟩ : ∃ w4, w4 = w3.alloc (.cells (bools T.length fun _ => false) 4) := ⟨_, rfl⟩
    have GSw4 : Hid (Blk w4 w3.heap.size 4 (bools T.length (seenP l 0))) := by subst hw4; rw [seen_zero]; exact Lib.hid (Blk.new _ _ _)
    have GAw4 : Hid (Blk w4 ga 24 #[.int .i64 (m : Int), .slice A T.length c]) := by subst hw4; exact Lib.hid (GAw3.out.alloc _)
    have TBw4 : Hid (TabAt w4 0 g (m : Int) T) := by subst hw4; exact Lib.hid (TBw3.out.alloc _)
    have HBw4 : Hid (Below w.heap.size w w4) := by subst hw4; exact Lib.hid (bw_alloc HBw3.out _)
    have HGS : Hid (w.heap.size ≤ w3.heap.size) := Lib.hid HBw3.out.size
    go_upto_region 7 with (fail)
    rw [← hw4]
    generalize w3.heap.size = gs at *
    clear hw4 hmk TBw3 HBw3 GAw3 s0 s1
    go_wp2_with fail
    go_loopw [44] (fun iv wr => ∃ k : Nat, k ≤ T.length ∧ iv = .int .i64 k ∧ Hid (Good T.length l k) ∧ Hid (Blk wr gs 4 (bools T.length (seenP l k))) ∧ Hid (Blk wr ga 24 #[.int .i64 (m : Int), .slice A T.length c]) ∧ Hid (TabAt wr 0 g (m : Int) T) ∧ Hid (Below w.heap.size w wr)) (fun iv _ => T.length - (intOf iv).toNat)
    case atStart => exact ⟨0, by omega, rfl, Lib.hid (Good.zero _ _), GSw4, GAw4, TBw4, HBw4⟩
    case round =>
      obtain ⟨k, hk, rfl, HGk, GSk, GAk, TBk, HBk⟩ := hrel
      obtain ⟨wB, hwB⟩ : ∃ wB : World, wB = wr := ⟨_, rfl⟩
      rw [← hwB] at GSk GAk TBk HBk ⊢
      clear hwB GSw4 GAw4 TBw4 HBw4
      obtain ⟨s0, s1, _, _, _⟩ := soup_facts GAk.out
      by_cases hlt : k < T.length
      · obtain ⟨adl, eAl, hbl, hcl⟩ := to_cells ((HL.out.below HBk.out).more HBk.out.size) (Nat.lt_of_le_of_lt (Nat.zero_le _) hlt)
        have x0 := hcl k hlt
        obtain ⟨x, hx⟩ : ∃ x, toL l (k : Int) = x := ⟨_, rfl⟩
        have HLX : Hid (l[k]? = some x) := Lib.hid (by
          have hkl : k < l.length := by rw [HLN.out]; exact hlt
          rw [← hx, List.getElem?_eq_getElem hkl]
          unfold toL
          rw [List.getD_eq_getElem?_getD, Int.toNat_natCast, List.getElem?_eq_getElem hkl]
          rfl)
        rw [hx] at x0
        clear hx hcl hbl
        subst eAl
        have hki : (k : Int) < (T.length : Int) := by omega
        by_cases hx0 : x < 0
        · go_wp2_with fail
          go_ret
          exact ⟨rfl, HBk.out⟩
        by_cases hx1 : 3 * (T.length : Int) ≤ x
        · go_wp2_with fail
          go_ret
          exact ⟨rfl, HBk.out⟩
        obtain ⟨xn, rfl⟩ := Int.eq_ofNat_of_zero_le (show 0 ≤ x by omega)
        have hq : xn / 3 < T.length := by omega
        have t1 : Int.tdiv (xn : Int) 3 = ((xn / 3 : Nat) : Int) := Int.ofNat_tdiv xn 3
        have t2 : (xn : Int) / 3 = ((xn / 3 : Nat) : Int) := by omega
        have hw1 : IntKind.i64.wrap ((xn / 3 : Nat) : Int) = ((xn / 3 : Nat) : Int) := IntWalk.i64_in _ (by omega)
        have y0 := (GSk.out.cell (xn / 3)).trans (bools_at _ hq)
        have f0 := GSk.out.frozen (xn / 3)
        have hqi : ((xn / 3 : Nat) : Int) < (T.length : Int) := by omega
        have HST := Lib.hid (seen_step HLX.out)
        have HGN := Lib.hid (fun h2 => HGk.out.step HLX.out (show 0 ≤ (xn : Int) by omega) (by omega) h2)
        rw [Int.toNat_natCast] at HST HGN
        cases hsn : seenP l k (xn / 3) with
        | true =>
          rw [hsn] at y0
          clear HST HGN
          generalize xn / 3 = q at *
          go_wp2_with fail
          go_ret
          exact ⟨rfl, HBk.out⟩
        | false =>
          rw [hsn] at y0
          have HGN2 := Lib.hid (HGN.out (by unfold seenP at hsn; simpa using hsn))
          have GSn : Hid (Blk (wB.setCell ⟨gs, xn / 3, none⟩ (.bool true)) gs 4 (bools T.length (seenP l (k + 1)))) := Lib.hid (by
            have h := GSk.out.set_ (xn / 3) (.bool true)
            rwa [bools_set, HST.out] at h)
          have TBn : Hid (TabAt (wB.setCell ⟨gs, xn / 3, none⟩ (.bool true)) 0 g (m : Int) T) := Lib.hid (TBk.out.setBool GSk.out hq)
          have GAn : Hid (Blk (wB.setCell ⟨gs, xn / 3, none⟩ (.bool true)) ga 24 #[.int .i64 (m : Int), .slice A T.length c]) := Lib.hid (GAk.out.far (GAk.out.ne_ GSk.out (by decide)) _)
          have HBn : Hid (Below w.heap.size w (wB.setCell ⟨gs, xn / 3, none⟩ (.bool true))) := Lib.hid (bw_set HBk.out HGS.out _)
          clear HST HGN hsn GSk TBk GAk HBk HGk HLX
          generalize xn / 3 = q at *
          go_wp2_with fail
          exact ⟨⟨k + 1, by omega, by go_num, HGN2, GSn, GAn, TBn, HBn⟩, by simp [intOf]; omega⟩
      · obtain rfl : k = T.length := by omega
        go_upto_region 14 with (fail)
        have HGK : Hid (Good T.length l l.length) := by rw [HLN.out]; exact HGk
        have HFS := Lib.hid (HGK.out.firsts HLN.out)
        clear GSk HGk hlt hk
        go_wp2_with fail
        refine (pick_any (m : Int) A T.length c T Al T.length cl l wB (by omega) (by omega) ((HT.out.below HBk.out).more HBk.out.size) ((HL.out.below HBk.out).more HBk.out.size)).mono ?_
        rw [HGK.out.pick rfl HFIT.out]
        rintro e w5 ⟨A1, c1, rfl, hr, hb⟩
        have TB5 := Lib.hid (TBk.out.below hb)
        have HB5 := Lib.hid (bw_call HBk.out hb)
        have GA5 := Lib.hid (blk_call GAk.out hb)
        have HR5 := Lib.hid hr
        clear hb hr TBk HBk GAk s0 s1
        simp only at HR5 ⊢
        obtain ⟨P, HP⟩ : ∃ P, Hid (pickN T (l.map Int.toNat) = P) := ⟨_, Lib.hid rfl⟩
        have HPL : Hid (P.length = T.length) := Lib.hid (by rw [← HP.out]; exact HFS.out.plen)
        have HSP : Hid (SurfE m P) := Lib.hid (by rw [← HP.out]; exact HFS.out.surf HSE.out)
        have HCK : Hid (checkR (m : Int) P = (0, 0, 0)) := Lib.hid (by unfold checkR; rw [is_surf.2 ⟨m, rfl, HSP.out⟩]; rfl)
        rw [HP.out] at HR5 ⊢
        rw [HPL.out]
        obtain ⟨w6, hw6⟩ : ∃ w6, w6 = w5.alloc (.cells #[.int .i64 (m : Int), .slice A1 T.length c1] 24) := ⟨_, rfl⟩
        have GR6 : Hid (Blk w6 w5.heap.size 24 #[.int .i64 (m : Int), .slice A1 T.length c1]) := by subst hw6; exact Lib.hid (Blk.new _ _ _)
        have TB6 : Hid (TabAt w6 0 g (m : Int) T) := by subst hw6; exact Lib.hid (TB5.out.alloc _)
        have HR6 : Hid (LRow w6 wB.heap.size A1 c1 P) := by subst hw6; exact Lib.hid (HR5.out.alloc _)
        have GA6 : Hid (Blk w6 ga 24 #[.int .i64 (m : Int), .slice A T.length c]) := by subst hw6; exact Lib.hid (GA5.out.alloc _)
        have HB6 : Hid (Below w.heap.size w w6) := by subst hw6; exact Lib.hid (bw_alloc HB5.out _)
        go_upto_region 15 with (fail)
        rw [← hw6]
        generalize w5.heap.size = gr at *
        clear hw6 TB5 HB5 HR5 GA5
        obtain ⟨s0, s1, _, _, _⟩ := soup_facts GR6.out
        go_wp2_with fail
        refine (new_any (m : Int) A1 T.length c1 P w6 (by omega) (by have h := HR6.out.tris; rwa [HPL.out] at h)).mono ?_
        rintro e w7 (⟨hx, g', rfl, htab, hb⟩ | ⟨hx, rfl, hb⟩)
        rotate_left
        · exact absurd HCK.out hx
        have TB7 := Lib.hid (TB6.out.below hb)
        have HB7 := Lib.hid (bw_call HB6.out hb)
        have GA7 := Lib.hid (blk_call GA6.out hb)
        have TU7 : Hid (TabAt w7 0 g' (m : Int) P) := Lib.hid (htab.base (Nat.zero_le _))
        clear hb htab hx HR6 TB6 HB6 GA6 s0 s1 GR6 HCK
        unfold wv
        simp only
        obtain ⟨w8, hw8⟩ : ∃ w8, w8 = w7.alloc (.cells #[.int .i64 0, .int .i64 0, .int .i64 0] 41) := ⟨_, rfl⟩
        have GA8 : Hid (Blk w8 ga 24 #[.int .i64 (m : Int), .slice A T.length c]) := by subst hw8; exact Lib.hid (GA7.out.alloc _)
        have TB8 : Hid (TabAt w8 0 g (m : Int) T) := by subst hw8; exact Lib.hid (TB7.out.alloc _)
        have TU8 : Hid (TabAt w8 0 g' (m : Int) P) := by subst hw8; exact Lib.hid (TU7.out.alloc _)
        have HB8 : Hid (Below w.heap.size w w8) := by subst hw8; exact Lib.hid (bw_alloc HB7.out _)
        go_upto_region 16 with (fail)
        rw [← hw8]
        generalize w7.heap.size = gx at *
        clear hw8 TB7 TU7 HB7 GA7
        obtain ⟨s0, s1, _, _, _⟩ := soup_facts GA8.out
        obtain ⟨i1, hi1, hy0, hy1, hy2⟩ := info_parts int_infoC
        have hmk := fun W => run_make_rowN (P := Try.prog) 52 3 i1 (.int .i64 0) Try.underlying52 hi1 hy0 .i64 .i64 (3 * T.length) (3 * T.length) (Nat.le_refl _) (by rw [hy2]; omega) (by omega) W
        rw [hy1, Nat.mul_one, madeInts] at hmk
        rw [show ((3 * T.length : Nat) : Int) = 3 * (T.length : Int) by omega] at hmk
        clear hi1 hy0 hy1 hy2
        obtain ⟨w9, hw9⟩ : ∃ w9, w9 = w8.alloc (.cells (ints (List.replicate (3 * T.length) 0)) 3) := ⟨_, rfl⟩
        have GT9 : Hid (Blk w9 w8.heap.size 3 (ints (List.replicate (3 * T.length) 0))) := by subst hw9; exact Lib.hid (Blk.new _ _ _)
        have TB9 : Hid (TabAt w9 0 g (m : Int) T) := by subst hw9; exact Lib.hid (TB8.out.alloc _)
        have TU9 : Hid (TabAt w9 0 g' (m : Int) P) := by subst hw9; exact Lib.hid (TU8.out.alloc _)
        have HB9 : Hid (Below w.heap.size w w9) := by subst hw9; exact Lib.hid (bw_alloc HB8.out _)
        have HLT : Hid (g < w8.heap.size ∧ g' < w8.heap.size ∧ w.heap.size ≤ w8.heap.size) := Lib.hid ⟨TB8.out.lt, TU8.out.lt, HB8.out.size⟩
        go_upto_region 19 with (fail)
        rw [← hw9]
        have TC8 : Hid (∀ W, Below w8.heap.size w8 W → TabAt W 0 g (m : Int) T) := Lib.hid fun W hb => TB8.out.below hb
        have UC8 : Hid (∀ W, Below w8.heap.size w8 W → TabAt W 0 g' (m : Int) P) := Lib.hid fun W hb => TU8.out.below hb
        have WC8 : Hid (∀ W, Below w8.heap.size w8 W → Below w.heap.size w W) := Lib.hid fun W hb => bw_call HB8.out hb
        have HC9 : Hid (Below w8.heap.size w8 w9) := by subst hw9; exact Lib.hid (bw_alloc (Below.refl _ _) _)
        obtain ⟨gt, HGT⟩ : ∃ gt, Hid (w8.heap.size = gt) := ⟨_, Lib.hid rfl⟩
        rw [HGT.out] at GT9 ⊢
        clear hw9 TB8 TU8 HB8 GA8 s0 s1 hmk TB9 TU9 HB9 HLT
        go_wp2_with fail
        go_loopw [94] (fun iv wr => ∃ k : Nat, k ≤ T.length ∧ iv = .int .i64 k ∧ (∃ L, Hid (ToInv T.length l k L) ∧ Hid (Blk wr gt 3 (ints L))) ∧ Hid (Below w8.heap.size w8 wr)) (fun iv _ => T.length - (intOf iv).toNat)
        case atStart => exact ⟨0, by omega, rfl, ⟨_, Lib.hid (ToInv.zero _ _), GT9⟩, HC9⟩
        case round =>
          obtain ⟨k, hk, rfl, ⟨L, HTI, GTk⟩, HCk⟩ := hrel
          obtain ⟨wB, hwB⟩ : ∃ wB : World, wB = wr := ⟨_, rfl⟩
          rw [← hwB] at GTk HCk ⊢
          clear hwB GT9 HC9
          by_cases hlt : k < T.length
          · have HBk := Lib.hid (WC8.out wB HCk.out)
            have TBk := Lib.hid (TC8.out wB HCk.out)
            obtain ⟨adl, eAl, hbl, hcl⟩ := to_cells ((HL.out.below HBk.out).more HBk.out.size) (Nat.lt_of_le_of_lt (Nat.zero_le _) hlt)
            have x0 := hcl k hlt
            obtain ⟨x, hx⟩ : ∃ x, toL l (k : Int) = x := ⟨_, rfl⟩
            have HLX : Hid (l[k]? = some x) := Lib.hid (by
              have hkl : k < l.length := by rw [HLN.out]; exact hlt
              rw [← hx, List.getElem?_eq_getElem hkl]
              unfold toL
              rw [List.getD_eq_getElem?_getD, Int.toNat_natCast, List.getElem?_eq_getElem hkl]
              rfl)
            rw [hx] at x0
            obtain ⟨⟨hx0, hx1⟩, hxf⟩ := HGK.out.fresh HLX.out
            clear hx hcl hbl
            subst eAl
            obtain ⟨xn, rfl⟩ := Int.eq_ofNat_of_zero_le hx0
            have hxn : xn < 3 * T.length := by omega
            have HTN := Lib.hid (HTI.out.step HLX.out hxn (by rw [Int.toNat_natCast] at hxf; exact hxf) (by rw [HLN.out]; exact hlt))
            have hki : (k : Int) < (T.length : Int) := by omega
            have hn1 := nxc_lt hxn
            have hn2 := pvc_lt hxn
            have q2 := nextI_nat hxn
            have q3 := prevI_nat hxn
            have HN1 : Hid (∀ (W : World), TabAt W 0 g (m : Int) T → Calls Try.prog 15 #[.pointer (some ⟨g, 0, none⟩), .int .i64 (xn : Int)] W (IntPost W (nxc xn : Int))) := Lib.hid fun W h => q2 ▸ (next_any g 0 m T xn W hT8 h.s).mono fun e w' h => int_of_is h
            have HP1 : Hid (∀ (W : World), TabAt W 0 g (m : Int) T → Calls Try.prog 16 #[.pointer (some ⟨g, 0, none⟩), .int .i64 (xn : Int)] W (IntPost W (pvc xn : Int))) := Lib.hid fun W h => q3 ▸ (prev_any g 0 m T xn W hT8 h.s).mono fun e w' h => int_of_is h
            have d1 : ¬ xn = nxc xn := by unfold nxc; omega
            have d2 : ¬ xn = pvc xn := by unfold pvc; omega
            have d3 : ¬ nxc xn = pvc xn := by unfold nxc pvc; omega
            have HLL := Lib.hid HTI.out.len
            clear q2 q3 hxf HLX HTI
            generalize nxc xn = k1 at *
            generalize pvc xn = k2 at *
            go_wp2_with fail
            refine (HN1.out wB TBk.out).mono ?_
            rintro e w11 ⟨rfl, hb⟩
            have GT11 := Lib.hid (blk_call GTk.out hb)
            have TB11 := Lib.hid (TBk.out.below hb)
            have HC11 := Lib.hid (bw_call HCk.out hb)
            clear hb x0 TBk GTk HCk HBk HN1
            go_wp2_with fail
            refine (HP1.out w11 TB11.out).mono ?_
            rintro e w12 ⟨rfl, hb⟩
            have GT12 := Lib.hid (blk_call GT11.out hb)
            have HC12 := Lib.hid (bw_call HC11.out hb)
            clear hb TB11 GT11 HC11 HP1
            have y0 := ints_cell GT12.out (k := xn) (by rw [HLL.out]; exact hxn)
            have y1 := ints_cell GT12.out (k := k1) (by rw [HLL.out]; exact hn1)
            have y2 := ints_cell GT12.out (k := k2) (by rw [HLL.out]; exact hn2)
            generalize L.getD xn 0 = z0 at y0
            generalize L.getD k1 0 = z1 at y1
            generalize L.getD k2 0 = z2 at y2
            have f0 := GT12.out.frozen xn
            have f1 := GT12.out.frozen k1
            have f2 := GT12.out.frozen k2
            have hi0 : (xn : Int) < 3 * (T.length : Int) := by omega
            have hi1 : (k1 : Int) < 3 * (T.length : Int) := by omega
            have hi2 : (k2 : Int) < 3 * (T.length : Int) := by omega
            have GTn : Hid (Blk (((w12.setCell ⟨gt, xn, none⟩ (.int .i64 (3 * (k : Int)))).setCell ⟨gt, k1, none⟩ (.int .i64 (3 * (k : Int) + 1))).setCell ⟨gt, k2, none⟩ (.int .i64 (3 * (k : Int) + 2))) gt 3 (ints (((L.set xn (3 * (k : Int))).set k1 (3 * (k : Int) + 1)).set k2 (3 * (k : Int) + 2)))) := Lib.hid (by
              have h := ((GT12.out.set_ xn (.int .i64 (3 * (k : Int)))).set_ k1 (.int .i64 (3 * (k : Int) + 1))).set_ k2 (.int .i64 (3 * (k : Int) + 2))
              rwa [ints_set, ints_set, ints_set] at h)
            have hgt : w8.heap.size ≤ gt := Nat.le_of_eq HGT.out
            have HCn : Hid (Below w8.heap.size w8 (((w12.setCell ⟨gt, xn, none⟩ (.int .i64 (3 * (k : Int)))).setCell ⟨gt, k1, none⟩ (.int .i64 (3 * (k : Int) + 1))).setCell ⟨gt, k2, none⟩ (.int .i64 (3 * (k : Int) + 2)))) := Lib.hid (bw_set (bw_set (bw_set HC12.out hgt _) hgt _) hgt _)
            have w0 : IntKind.i64.wrap (3 * (k : Int)) = 3 * (k : Int) := IntWalk.i64_in _ (by omega)
            have w1 : IntKind.i64.wrap (3 * (k : Int) + 1) = 3 * (k : Int) + 1 := IntWalk.i64_in _ (by omega)
            have w2 : IntKind.i64.wrap (3 * (k : Int) + 2) = 3 * (k : Int) + 2 := IntWalk.i64_in _ (by omega)
            clear GT12 HC12 hgt HLL
            go_wp2_with fail
            exact ⟨⟨k + 1, by omega, by go_num, ⟨_, HTN, GTn⟩, HCn⟩, by simp [intOf]; omega⟩
          · obtain rfl : k = T.length := by omega
            go_upto_region 24 with (fail)
            have TBw := Lib.hid (TC8.out wB HCk.out)
            have TUw := Lib.hid (UC8.out wB HCk.out)
            have HBw := Lib.hid (WC8.out wB HCk.out)
            obtain ⟨wE, hwE⟩ : ∃ wE : World, wE = wB := ⟨_, rfl⟩
            rw [← hwE] at GTk TBw TUw HBw ⊢
            clear hwE HCk TC8 UC8 WC8 HGT hk hlt
            have hw3 : IntKind.i64.wrap (3 * (T.length : Int)) = 3 * (T.length : Int) := IntWalk.i64_in _ (by omega)
            go_wp2_with fail
            go_loopw [123] (fun iv wr => ∃ k : Nat, k ≤ 3 * T.length ∧ iv = .int .i64 k ∧ Hid (TabAt wr 0 g (m : Int) T) ∧ Hid (TabAt wr 0 g' (m : Int) P) ∧ Hid (Blk wr gt 3 (ints L)) ∧ Hid (Below w.heap.size w wr)) (fun iv _ => 3 * T.length - (intOf iv).toNat)
            case atStart => exact ⟨0, by omega, rfl, TBw, TUw, GTk, HBw⟩
            case round =>
              obtain ⟨k, hk, rfl, TBwB, TUwB, GTwB, HBwB⟩ := hrel
              obtain ⟨wB, hwB⟩ : ∃ wB : World, wB = wr := ⟨_, rfl⟩
              rw [← hwB] at TBwB TUwB GTwB HBwB ⊢
              clear hwB TBw TUw GTk HBw
              by_cases hlt : k < 3 * T.length
              · have hki : (k : Int) < 3 * (T.length : Int) := by omega
                obtain ⟨d, hd, hdw⟩ := HFS.out.all hlt
                have hdi : (d : Int) < 3 * (T.length : Int) := by omega
                have HLd : Hid (L.getD k 0 = (d : Int)) := Lib.hid (by
                  have h := HTI.out.at_ d hd
                  rw [hdw] at h
                  rw [List.getD_eq_getElem?_getD, h]
                  rfl)
                have GOwB : Hid (CellAt wB ⟨gt, k, none⟩ (.int .i64 (d : Int))) := Lib.hid ⟨by have h := ints_cell GTwB.out (k := k) (by rw [HTI.out.len]; exact hlt); rwa [HLd.out] at h, GTwB.out.lt⟩
                have hcv := HFS.out.cv hd
                have hce := HFS.out.ce hd
                have hop := HFS.out.opp HSE.out hd
                rw [hdw] at hcv hce hop
                rw [HP.out] at hcv hce hop
                have hdP : d < 3 * P.length := by rw [HPL.out]; exact hd
                have hT8' : P.length ≤ 8192 := by rw [HPL.out]; exact hT8
                have HOD : Hid (∀ d', oppF P d = some d' → wasC (l.map Int.toNat) d' < 3 * T.length ∧ L.getD (wasC (l.map Int.toNat) d') 0 = (d' : Int)) := Lib.hid (fun d' h' => by
                  have h1 := (facing_some h').1
                  rw [HPL.out] at h1
                  refine ⟨HFS.out.was_lt h1, ?_⟩
                  rw [List.getD_eq_getElem?_getD, HTI.out.at_ d' h1]
                  rfl)
                have HWK : Hid (wfE ((edgeI T (k : Int)).2, (edgeI T (k : Int)).1)) := Lib.hid (by
                  have o1 := cv_ok HS.out.ok (nxc_lt hlt)
                  have o2 := cv_ok HS.out.ok (pvc_lt hlt)
                  rw [edgeI_nat hlt]; exact ⟨wf_small (by show -1 ≤ cv T (pvc k); omega) (by show cv T (pvc k) < 100000; omega), wf_small (by show -1 ≤ cv T (nxc k); omega) (by show cv T (nxc k) < 100000; omega)⟩)
                have HWU : Hid (wfE ((edgeI P (d : Int)).2, (edgeI P (d : Int)).1)) := Lib.hid (by
                  have p1 := cv_ok HSP.out.ok (nxc_lt hdP)
                  have p2 := cv_ok HSP.out.ok (pvc_lt hdP)
                  rw [edgeI_nat hdP]; exact ⟨wf_small (by show -1 ≤ cv P (pvc d); omega) (by show cv P (pvc d) < 100000; omega), wf_small (by show -1 ≤ cv P (nxc d); omega) (by show cv P (nxc d) < 100000; omega)⟩)
                have b1 : oppI T (k : Int) = optI ((oppF P d).map (wasC (l.map Int.toNat))) := by rw [← hop]; unfold oppI oppF facingI; rw [edgeI_nat hlt]
                have b2 : oppI P (d : Int) = optI (oppF P d) := by unfold oppI oppF facingI; rw [edgeI_nat hdP]
                have v1 : vertexI P (d : Int) = cv T k := (vertexI_nat hdP).trans hcv.symm
                have v2 := vertexI_nat hlt
                have HO1 : Hid (∀ (W : World), TabAt W 0 g (m : Int) T → Calls Try.prog 17 #[.pointer (some ⟨g, 0, none⟩), .int .i64 (k : Int)] W (IntPost W (optI ((oppF P d).map (wasC (l.map Int.toNat)))))) := Lib.hid fun W h => b1 ▸ opp_any g 0 m T k W hT8 HWK.out h
                have HO2 : Hid (∀ (W : World), TabAt W 0 g' (m : Int) P → Calls Try.prog 17 #[.pointer (some ⟨g', 0, none⟩), .int .i64 (d : Int)] W (IntPost W (optI (oppF P d)))) := Lib.hid fun W h => b2 ▸ opp_any g' 0 m P d W hT8' HWU.out h
                have HV2 : Hid (∀ (W : World), TabAt W 0 g' (m : Int) P → Calls Try.prog 14 #[.pointer (some ⟨g', 0, none⟩), .int .i64 (d : Int)] W (IntPost W (cv T k))) := Lib.hid fun W h => v1 ▸ (vertex_any g' 0 m P d W hT8' h.s).mono fun e w' h => int_of_is h
                have HV1 : Hid (∀ (W : World), TabAt W 0 g (m : Int) T → Calls Try.prog 14 #[.pointer (some ⟨g, 0, none⟩), .int .i64 (k : Int)] W (IntPost W (cv T k))) := Lib.hid fun W h => v2 ▸ (vertex_any g 0 m T k W hT8 h.s).mono fun e w' h => int_of_is h
                clear v1 v2 b1 b2 hcv hce hop hdP hT8' HWK HWU hdw
                generalize cv T k = vk at *
                go_upto_region 27 with (fail)
                refine wp_region_till (S := fun w' => w'.cell? ⟨gt, k, none⟩ = some (.int .i64 (d : Int))) 10 (by kernel_rfl) GOwB.out.drew.c (fun hHeld => ?_)
                refine Till.take (i := 0) (v := ?vt55) rfl (by kernel_rfl) (by kernel_rfl) (by kernel_rfl) (by kernel_rfl) (fun _ _ _ h => h) (Or.inl ⟨by rfl, ?ht55⟩) (by assumption) ?restt55
                case ht55 => (intro w hSw; (try dsimp only at hSw); go_simp; try with_reducible rfl)
                (try simp only [Act.put, List.setIfInBounds_toArray, List.set_cons_zero, List.set_cons_succ])
                refine Till.take (i := 1) (v := ?vt56) rfl (by kernel_rfl) (by kernel_rfl) (by kernel_rfl) (by kernel_rfl) (fun _ _ _ h => h) (Or.inl ⟨by rfl, ?ht56⟩) (by assumption) ?restt56
                case ht56 => (intro w hSw; (try dsimp only at hSw); go_simp; try with_reducible rfl)
                (try simp only [Act.put, List.setIfInBounds_toArray, List.set_cons_zero, List.set_cons_succ])
                refine Till.take (i := 3) (v := ?vt57) rfl (by kernel_rfl) (by kernel_rfl) (by kernel_rfl) (by kernel_rfl) (fun _ _ _ h => h) (Or.inl ⟨by rfl, ?ht57⟩) (by assumption) ?restt57
                case ht57 => (intro w hSw; (try dsimp only at hSw); go_simp; try with_reducible rfl)
                (try simp only [Act.put, List.setIfInBounds_toArray, List.set_cons_zero, List.set_cons_succ])
                refine Till.take (i := 4) (v := ?vt58) rfl (by kernel_rfl) (by kernel_rfl) (by kernel_rfl) (by kernel_rfl) (fun _ _ _ h => h) (Or.inl ⟨by rfl, ?ht58⟩) (by assumption) ?restt58
                case ht58 => (intro w hSw; (try dsimp only at hSw); go_simp; try with_reducible rfl)
                (try simp only [Act.put, List.setIfInBounds_toArray, List.set_cons_zero, List.set_cons_succ])
                refine Till.take (i := 5) (v := ?vt59) rfl (by kernel_rfl) (by kernel_rfl) (by kernel_rfl) (by kernel_rfl) (fun _ _ _ h => h) (Or.inl ⟨by rfl, ?ht59⟩) (by assumption) ?restt59
                case ht59 => (intro w hSw; (try dsimp only at hSw); go_simp; try with_reducible rfl)
                (try simp only [Act.put, List.setIfInBounds_toArray, List.set_cons_zero, List.set_cons_succ])
                refine Till.take (i := 6) (v := ?vt60) rfl (by kernel_rfl) (by kernel_rfl) (by kernel_rfl) (by kernel_rfl) (fun _ _ _ h => h) (Or.inl ⟨by rfl, ?ht60⟩) (by assumption) ?restt60
                case ht60 => (intro w hSw; (try dsimp only at hSw); go_simp; try with_reducible rfl)
                (try simp only [Act.put, List.setIfInBounds_toArray, List.set_cons_zero, List.set_cons_succ])
                refine Till.take (i := 7) (v := ?vt61) rfl (by kernel_rfl) (by kernel_rfl) (by kernel_rfl) (by kernel_rfl) (fun _ _ _ h => h) (Or.inl ⟨by rfl, ?ht61⟩) (by assumption) ?restt61
                case ht61 => (intro w hSw; (try dsimp only at hSw); go_simp; try with_reducible rfl)
                (try simp only [Act.put, List.setIfInBounds_toArray, List.set_cons_zero, List.set_cons_succ])
                refine Till.ready (rs := [2]) (by kernel_rfl) (by simp) ?_
                refine TillEach.cons rfl (fun K hK => ?_) ?_
                · go_simp
                  go_wp2_with (go_at_call 17; refine (HO1.out wB.drew TBwB.out.drew).mono ?_; rintro e v20 ⟨rfl, hb⟩)
                  have GOv20 := Lib.hid (GOwB.out.drew.below hb)
                  have GTv20 := Lib.hid (blk_call GTwB.out.drew hb)
                  have TBv20 := Lib.hid (TBwB.out.drew.below hb)
                  have TUv20 := Lib.hid (TUwB.out.drew.below hb)
                  have HBv20 := Lib.hid (bw_call (bw_drew HBwB.out) hb)
                  clear hb
                  refine hK.out _ _ ?_ (fun hHeld => ?_)
                  · exact GOv20.out.c
                  clear hK K
                  (try simp only [Act.put, List.setIfInBounds_toArray, List.set_cons_zero, List.set_cons_succ])
                  refine Till.ready (rs := [8]) (by kernel_rfl) (by simp) ?_
                  refine TillEach.cons rfl (fun K hK => ?_) ?_
                  · go_simp
                    go_wp2_with (go_at_call 17; refine (HO2.out v20 TUv20.out).mono ?_; rintro e v21 ⟨rfl, hb⟩)
                    have GOv21 := Lib.hid (GOv20.out.below hb)
                    have GTv21 := Lib.hid (blk_call GTv20.out hb)
                    have TBv21 := Lib.hid (TBv20.out.below hb)
                    have TUv21 := Lib.hid (TUv20.out.below hb)
                    have HBv21 := Lib.hid (bw_call HBv20.out hb)
                    clear hb GOv20 GTv20 TBv20 TUv20 HBv20
                    refine hK.out _ _ ?_ (fun hHeld => ?_)
                    · exact GOv21.out.c
                    clear hK K
                    (try simp only [Act.put, List.setIfInBounds_toArray, List.set_cons_zero, List.set_cons_succ])
                    refine Till.take (i := 9) (v := ?vt62) rfl (by kernel_rfl) (by kernel_rfl) (by kernel_rfl) (by kernel_rfl) (fun _ _ _ h => h) (Or.inl ⟨by rfl, ?ht62⟩) (by assumption) ?restt62
                    case ht62 => (intro w hSw; (try dsimp only at hSw); go_simp; try with_reducible rfl)
                    (try simp only [Act.put, List.setIfInBounds_toArray, List.set_cons_zero, List.set_cons_succ])
                    refine Till.ready (rs := [10]) (by kernel_rfl) (by simp) ?_
                    refine TillEach.last rfl (fun K hK => ?_)
                    · go_simp
                      refine hK.out _ _ ?_
                      clear hK K
                      (try simp only [Act.put, List.setIfInBounds_toArray, List.set_cons_zero, List.set_cons_succ])
                      refine Till.done (by kernel_rfl) ?_ _
                      go_wp2_with fail
                      clear HO1 HO2 GOv21
                      have y0 := ints_cell GTv21.out (k := k) (by rw [HTI.out.len]; exact hlt)
                      rw [HLd.out] at y0
                      go_wp2_with fail
                      refine (HV2.out v21 TUv21.out).mono ?_
                      rintro e w31 ⟨rfl, hb⟩
                      have TB31 := Lib.hid (TBv21.out.below hb)
                      have GT31 := Lib.hid (blk_call GTv21.out hb)
                      have HB31 := Lib.hid (bw_call HBv21.out hb)
                      have TU31 := Lib.hid (TUv21.out.below hb)
                      clear hb y0 TBv21 TUv21 GTv21 HBv21 HV2
                      go_wp2_with fail
                      refine (HV1.out w31 TB31.out).mono ?_
                      rintro e w32 ⟨rfl, hb⟩
                      have TB32 := Lib.hid (TB31.out.below hb)
                      have GT32 := Lib.hid (blk_call GT31.out hb)
                      have HB32 := Lib.hid (bw_call HB31.out hb)
                      have TU32 := Lib.hid (TU31.out.below hb)
                      clear hb TB31 TU31 GT31 HB31 HV1
                      cases hou : oppF P d with
                      | none =>
                        rw [show optI ((none : Option Nat).map (wasC (l.map Int.toNat))) = -1 from rfl, show optI none = -1 from rfl]
                        clear HOD hou
                        go_wp2_with fail
                        exact ⟨⟨k + 1, by omega, by go_num, TB32, TU32, GT32, HB32⟩, by simp [intOf]; omega⟩
                      | some d' =>
                        obtain ⟨hq, hLq⟩ := HOD.out d' hou
                        rw [show optI ((some d').map (wasC (l.map Int.toNat))) = ((wasC (l.map Int.toNat) d' : Nat) : Int) from rfl, show optI (some d') = (d' : Int) from rfl]
                        have z0 := ints_cell GT32.out (k := wasC (l.map Int.toNat) d') (by rw [HTI.out.len]; exact hq)
                        rw [hLq] at z0
                        clear HOD hou hLq
                        generalize wasC (l.map Int.toNat) d' = q at *
                        have hq0 : (0 : Int) ≤ (q : Int) := by omega
                        have hq1 : ¬ (q : Int) < 0 := by omega
                        have hqi : (q : Int) < 3 * (T.length : Int) := by omega
                        go_wp2_with fail
                        exact ⟨⟨k + 1, by omega, by go_num, TB32, TU32, GT32, HB32⟩, by simp [intOf]; omega⟩
                  exact TillEach.nil
                exact TillEach.nil
              · obtain rfl : k = 3 * T.length := by omega
                go_wp2_with fail
                go_ret
                exact ⟨rfl, HBwB.out⟩
theorem turnedLaw_row (N : Int) (A : Option Addr) (n c : Nat) (T : List Tri) (Al : Option Addr) (m cl : Nat) (l : List Int) (w : World) (ht : TrisAt w w.heap.size A n T) (hl : Reads w w.heap.size 1 Al m (ZL l)) :
    Calls Try.prog 9 #[.agg #[.int .i64 N, .slice A n c], .slice Al m cl] w (BoolPost w true) :=
  turnedLaw_any N A n c T Al m cl l w ht (Lib.hid hl) (Lib.hid (by have := hl.1; simpa [ZL] using this))
end Go.Proofs.Ytdmibpcpocacpaa
