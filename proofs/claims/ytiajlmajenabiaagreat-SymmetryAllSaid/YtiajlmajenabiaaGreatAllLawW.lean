/- The law SymmetryAll, walked: it holds. No condition. -/
import Derived.Test.YtiajlmajenabiaaGreatLists
import Derived.Test.YtiajlmajenabiaaGreatIsW15
set_option maxRecDepth 100000
set_option maxHeartbeats 16000000
set_option linter.all false
namespace Go.Proofs.YtiajlmajenabiaaGreat
open Go.RowKit
theorem WaysAt.len_bd {N : Int} {T : List Tri} {ws : List (List Int)} {er : Int} (h : AllI N T ws er) : ∀ a ∈ ws, a.length ≤ 4096 := fun a ha => by
 cases h with
 | no => cases ha
 | full => cases ha
 | yes m ws e hs _ hp _ =>
  have := (allR_iff hs a).1 (hp.mem_iff.1 ha)
  rw [this.len]
  exact hs.m1
attribute [local irreducible] Blk World.alloc World.setCell World.cell? World.frozen? MapV MapI
theorem lawAll_any (N : Int) (A : Option Addr) (c : Nat) (T : List Tri) (w : World) (ht : TrisAt w w.heap.size A T.length T) :
  Calls Tryz.prog 5 #[.agg #[.int .i64 N, .slice A T.length c]] w (BoolPost w true) := by
 have HT := Lib.hid ht
 clear ht
 obtain ⟨k, hk⟩ : ∃ k, k = T.length := ⟨_, rfl⟩
 rw [← hk] at HT ⊢
 have HK := Lib.hid hk
 clear hk
 go_enter Tryz.func5, Tryz.ntmps5
 go_upto_region 1 with (fail)
 obtain ⟨wA, hwA⟩ : ∃ U, U = w.alloc (.cells #[.int .i64 N, .slice A k c] 24) := ⟨_, rfl⟩
 have K1A : Hid (Blk wA w.heap.size 24 #[.int .i64 N, .slice A k c]) := by subst hwA; exact Lib.hid (Blk.new _ _ _)
 have HBA : Hid (Below w.heap.size w wA) := by subst hwA; exact Lib.hid (bw_alloc (Below.refl _ _) _)
 rw [← hwA]
 obtain ⟨b1, hb1⟩ : ∃ b, b = w.heap.size := ⟨_, rfl⟩
 have HG1 : Hid (w.heap.size ≤ b1) := Lib.hid (by omega)
 rw [← hb1] at K1A
 simp only [← hb1]
 clear hwA hb1
 have HAW := Lib.hid (awake_any wA)
 go_wp2_with fail
 refine HAW.out.mono ?_
 rintro e w1 ⟨rfl, hb⟩
 have HB1 := Lib.hid (bw_call HBA.out hb)
 have K11 := Lib.hid (K1A.out.below hb K1A.out.lt)
 clear hb HAW K1A HBA
 have p0 : w1.cell? ⟨b1, 0, none⟩ = some (.int .i64 N) := K11.out.cell 0
 have p1 : w1.cell? ⟨b1, 1, none⟩ = some (.slice A k c) := K11.out.cell 1
 have HGR := Lib.hid (great47_any N A k c w1)
 by_cases hbig : big47 N k
 · rw [if_pos hbig] at HGR
   go_wp2_with fail
   refine HGR.out.mono ?_
   rintro e w2 ⟨rfl, hb⟩
   have HB2 := Lib.hid (bw_call HB1.out hb)
   clear hb
   go_wp2_with fail
   go_ret
   exact ⟨rfl, HB2.out⟩
 rw [if_neg hbig] at HGR
 have hk14 : k ≤ 14 := by unfold big47 at hbig; omega
 have hN16 : N ≤ 16 := by unfold big47 at hbig; omega
 clear hbig
 go_wp2_with fail
 refine HGR.out.mono ?_
 rintro e w2 ⟨rfl, hb⟩
 have HB2 := Lib.hid (bw_call HB1.out hb)
 have K12 := Lib.hid (K11.out.below hb K11.out.lt)
 clear hb HGR K11 HB1 p0 p1
 have p0 : w2.cell? ⟨b1, 0, none⟩ = some (.int .i64 N) := K12.out.cell 0
 have p1 : w2.cell? ⟨b1, 1, none⟩ = some (.slice A k c) := K12.out.cell 1
 have HAL : Hid (Calls Tryz.prog 25 #[.agg #[.int .i64 N, .slice A k c]] w2 (AllAny w2 N T)) := Lib.hid (by
  have := symAll_any N A c T w2 (by have := HK.out; omega) (by rw [← HK.out]; exact tris_on HB2.out HT.out)
  rw [← HK.out] at this
  exact this)
 have HOR : Hid (∀ W, Below w2.heap.size w2 W → Calls Tryz.prog 21 #[.agg #[.int .i64 N, .slice A k c]] W (OrdAny W N T)) := Lib.hid fun W hW => by
  have := symOrder_any N A c T W (by have := HK.out; omega) (by rw [← HK.out]; exact tris_on (bw_call HB2.out hW) HT.out)
  rw [← HK.out] at this
  exact this
 have HIS : Hid (∀ W, Below w2.heap.size w2 W → Calls Tryz.prog 15 #[.agg #[.int .i64 N, .slice A k c]] W (BoolPost W (decide (checkR N T = (0, 0, 0))))) := Lib.hid fun W hW => by
  have := is15_any N A c T W (by have := HK.out; omega) (by rw [← HK.out]; exact tris_on (bw_call HB2.out hW) HT.out)
  rw [← HK.out] at this
  exact this
 go_wp2_with fail
 refine HAL.out.mono ?_
 rintro e w3 ⟨Al, cl, ws, er, rfl, hI, hws, hb⟩
 have HB3 := Lib.hid hb
 have HWS := Lib.hid hws
 have HI := Lib.hid hI
 have K13 := Lib.hid (K12.out.below hb K12.out.lt)
 obtain ⟨nw, hnw⟩ : ∃ n, n = ws.length := ⟨_, rfl⟩
 have HNW := Lib.hid hnw
 rw [← hnw]
 clear hb hws hI HAL p0 p1 hnw
 have p0 : w3.cell? ⟨b1, 0, none⟩ = some (.int .i64 N) := K13.out.cell 0
 have p1 : w3.cell? ⟨b1, 1, none⟩ = some (.slice A k c) := K13.out.cell 1
 go_wp2_with fail
 refine (HOR.out w3 HB3.out).mono ?_
 rintro e w4 ⟨on, oe, rfl, hO, hb⟩
 have HB4 := Lib.hid (bw_call HB3.out hb)
 have HW4 := Lib.hid (HWS.out.below hb)
 have HO := Lib.hid hO
 have K14 := Lib.hid (K13.out.below hb K13.out.lt)
 clear hb hO HOR p0 p1
 have p0 : w4.cell? ⟨b1, 0, none⟩ = some (.int .i64 N) := K14.out.cell 0
 have p1 : w4.cell? ⟨b1, 1, none⟩ = some (.slice A k c) := K14.out.cell 1
 obtain ⟨q, hq⟩ : ∃ q, q = decide (checkR N T = (0, 0, 0)) := ⟨_, rfl⟩
 rw [← hq] at HIS
 have HQ := Lib.hid hq
 clear hq
 have HISX := Lib.hid (HIS.out w4 HB4.out)
 clear HIS
 cases q with
 | false =>
  have hno : checkR N T ≠ (0, 0, 0) := of_decide_eq_false HQ.out.symm
  have hfa : nw = 0 ∧ er = 11 := by
   have hI := HI.out
   rw [HNW.out]
   cases hI with
   | no _ => exact ⟨rfl, rfl⟩
   | full m e hs _ => exact absurd (by rw [e]; exact surf_chk hs) hno
   | yes m ws e hs _ _ _ => exact absurd (by rw [e]; exact surf_chk hs) hno
  have hfo : on = 0 ∧ oe = 11 := by
   have hO := HO.out
   cases hO with
   | no _ => exact ⟨rfl, rfl⟩
   | yes m e hs _ => exact absurd (by rw [e]; exact surf_chk hs) hno
  obtain ⟨rfl, rfl⟩ := hfa
  obtain ⟨rfl, rfl⟩ := hfo
  clear hno
  go_wp2_with fail
  refine HISX.out.mono ?_
  rintro e w5 ⟨rfl, hb⟩
  have HB5 := Lib.hid (bw_call HB2.out (bw_call HB4.out hb))
  clear hb
  go_wp2_with fail
  go_ret
  exact ⟨rfl, HB5.out⟩
 | true =>
  obtain ⟨m, rfl, hs⟩ := chk_surf (of_decide_eq_true HQ.out.symm)
  have HS := Lib.hid hs
  have HON : Hid (oe = 0 ∧ on = ((allR m T).length : Int)) := Lib.hid (by
   have hO := HO.out
   cases hO with
   | no h => exact absurd (surf_chk hs) h
   | yes m' e hs' _ =>
    obtain rfl : m = m' := by omega
    exact ⟨rfl, rfl⟩)
  have HEX := Lib.hid (ext_len hs)
  have hm16 : m ≤ 1000 := by omega
  have HON2 : Hid (∀ W, Below w4.heap.size w4 W → Calls Tryz.prog 17 #[.agg #[.int .i64 (m : Int), .slice A k c], .agg #[.int .i64 (m : Int), .slice A k c], .int .i64 1001] W (RowsPost W ((extR T T m m []).take 1001))) := Lib.hid fun W hW => by
   have := onto_any m A A c c T T 1001 W (by have := HK.out; omega) rfl hm16 (fun t ht => by have := hs.ok t ht; exact ⟨this.a0, this.b0, this.c0⟩) (by omega) (by omega) (by rw [← HK.out]; exact tris_on (bw_call HB2.out (bw_call HB4.out hW)) HT.out) (by rw [← HK.out]; exact tris_on (bw_call HB2.out (bw_call HB4.out hW)) HT.out)
   rw [← HK.out] at this
   exact this
  obtain ⟨want, hwant⟩ : ∃ x, x = (extR T T m m []).take 1001 := ⟨_, rfl⟩
  rw [← hwant] at HON2
  have HWN := Lib.hid hwant
  clear hs hwant
  go_wp2_with fail
  refine HISX.out.mono ?_
  rintro e w5 ⟨rfl, hb⟩
  have HB5 := Lib.hid hb
  have HW5 := Lib.hid (HW4.out.below hb)
  have K15 := Lib.hid (K14.out.below hb K14.out.lt)
  clear hb HISX p0 p1
  have p0 : w5.cell? ⟨b1, 0, none⟩ = some (.int .i64 (m : Int)) := K15.out.cell 0
  have p1 : w5.cell? ⟨b1, 1, none⟩ = some (.slice A k c) := K15.out.cell 1
  have HONX := Lib.hid (HON2.out w5 HB5.out)
  clear HON2
  go_wp2_with fail
  refine HONX.out.mono ?_
  rintro e w6 ⟨Aw, cw, rfl, hw, hb⟩
  have HB6 := Lib.hid (bw_call HB2.out (bw_call HB4.out (bw_call HB5.out hb)))
  have HW6 := Lib.hid (HW5.out.below hb)
  have HX6 := Lib.hid hw
  obtain ⟨nt, hnt⟩ : ∃ n, n = want.length := ⟨_, rfl⟩
  have HNT := Lib.hid hnt
  rw [← hnt]
  clear hb hw hnt HONX p0 p1
  obtain ⟨rfl, hon⟩ := HON.out
  have HLN : Hid (nt = min 1001 (allR m T).length) := Lib.hid (by rw [HNT.out, HWN.out, List.length_take, HEX.out])
  have hln := HLN.out
  by_cases hbg : 1000 < nt
  · have hbI : (1000 : Int) < (nt : Int) := by omega
    have hbo : (1000 : Int) < on := by omega
    have hfa : nw = 0 ∧ er = 7 := by
     have hI := HI.out
     rw [HNW.out]
     cases hI with
     | no h => exact absurd (surf_chk HS.out) h
     | full m' e hs' _ => exact ⟨rfl, rfl⟩
     | yes m' ws e hs' hle _ _ =>
      obtain rfl : m = m' := by omega
      omega
    obtain ⟨rfl, rfl⟩ := hfa
    clear hln hon
    go_wp2_with fail
    go_ret
    exact ⟨rfl, HB6.out⟩
  · have hbI : ¬ (1000 : Int) < (nt : Int) := by omega
    have hfa : er = 0 ∧ want = ws := by
     have hI := HI.out
     cases hI with
     | no h => exact absurd (surf_chk HS.out) h
     | full m' e hs' hlt =>
      obtain rfl : m = m' := by omega
      omega
     | yes m' ws e hs' hle hp ho =>
      obtain rfl : m = m' := by omega
      refine ⟨rfl, ?_⟩
      rw [HWN.out, List.take_of_length_le (by rw [HEX.out]; omega)]
      exact ext_all HS.out hp ho
    obtain ⟨rfl, hww⟩ := hfa
    have hnn : nw = nt := by rw [HNW.out, HNT.out, hww]
    have hont : on = (nt : Int) := by omega
    have hbd := WaysAt.len_bd HI.out
    obtain ⟨L1, e1, r1⟩ := ways_in HW6.out hbd
    obtain ⟨L2, e2, r2⟩ := ways_in HX6.out (by rw [hww]; exact hbd)
    have hl1 : L1.length = nt := by rw [← hnn, HNW.out, ← e1, List.length_map]
    have HLS : Hid (Calls Tryz.prog 26 #[.slice Al nt cl, .slice Aw nt cw] w6 (IntPost w6 1)) := Lib.hid (by
     have := lists_any Al Aw cl cw L1 L2 w6 (by rw [e1, e2, hww]) (by rw [hl1]; omega) (fun x hx => by have := hbd x.2 (by rw [← e1]; exact List.mem_map_of_mem hx); omega) r1 r2
     rw [hl1] at this
     exact this)
    subst hnn hont
    clear hln hon hww hbd e1 e2 r1 r2 hl1
    go_wp2_with fail
    refine HLS.out.mono ?_
    rintro e w7 ⟨rfl, hb⟩
    have HB7 := Lib.hid (bw_call HB6.out hb)
    clear hb
    go_wp2_with fail
    go_ret
    exact ⟨rfl, HB7.out⟩
theorem lawAllN_any (N : Int) (A : Option Addr) (n c : Nat) (T : List Tri) (w : World) (ht : TrisAt w w.heap.size A n T) :
  Calls Tryz.prog 5 #[.agg #[.int .i64 N, .slice A n c]] w (BoolPost w true) := by
 obtain rfl : n = T.length := ht.len.symm
 exact lawAll_any N A c T w ht
end Go.Proofs.YtiajlmajenabiaaGreat
