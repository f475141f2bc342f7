/- The law SymmetryOrbits, walked: it holds. No condition. -/
import Derived.Test.YtiajlmajenabiaaGreatSymA
import Derived.Test.YtiajlmajenabiaaGreatOrbW
import Derived.Test.YtiajlmajenabiaaGreatOrbD
import Derived.Test.YtiajlmajenabiaaGreatInn47
import Derived.Test.YtiajlmajenabiaaGreatIsW15
set_option maxRecDepth 100000
set_option maxHeartbeats 16000000
set_option linter.all false
namespace Go.Proofs.YtiajlmajenabiaaGreat
open Go.RowKit
attribute [local irreducible] Blk World.alloc World.setCell World.cell? World.frozen? MapV MapI
theorem lawOrbits_any (N : Int) (A : Option Addr) (c : Nat) (T : List Tri) (w : World) (ht : TrisAt w w.heap.size A T.length T) :
  Calls Tryz.prog 11 #[.agg #[.int .i64 N, .slice A T.length c]] w (BoolPost w true) := by
 have HT := Lib.hid ht
 clear ht
 obtain ⟨k, hk⟩ : ∃ k, k = T.length := ⟨_, rfl⟩
 rw [← hk] at HT ⊢
 have HK := Lib.hid hk
 clear hk
 go_enter Tryz.func11, Tryz.ntmps11
 go_upto_region 1 with (fail)
 obtain ⟨wA, hwA⟩ : ∃ U, U = w.alloc (.cells #[.int .i64 N, .slice A k c] 24) := ⟨_, rfl⟩
 have K1A : Hid (Blk wA w.heap.size 24 #[.int .i64 N, .slice A k c]) := by subst hwA; exact Lib.hid (Blk.new _ _ _)
 have HBA : Hid (Below w.heap.size w wA) := by subst hwA; exact Lib.hid (bw_alloc (Below.refl _ _) _)
 rw [← hwA]
 obtain ⟨b1, hb1⟩ : ∃ b, b = w.heap.size := ⟨_, rfl⟩
 rw [← hb1] at K1A
 simp only [← hb1]
 clear hwA hb1
 have HAW := Lib.hid (awake_any wA)
 go_wp2_with fail
 refine HAW.out.mono ?_
 rintro e w1 ⟨rfl, hb⟩
 have HB1 := Lib.hid (bw_call HBA.out hb)
 have K11 := Lib.hid (K1A.out.below hb K1A.out.lt)
 clear hb HAW K1A HBA
 have p0 : w1.cell? ⟨b1, 0, none⟩ = some (.int .i64 N) := K11.out.cell 0
 have p1 : w1.cell? ⟨b1, 1, none⟩ = some (.slice A k c) := K11.out.cell 1
 have HGR := Lib.hid (great47_any N A k c w1)
 by_cases hbig : big47 N k
 · rw [if_pos hbig] at HGR
   go_wp2_with fail
   refine HGR.out.mono ?_
   rintro e w2 ⟨rfl, hb⟩
   have HB2 := Lib.hid (bw_call HB1.out hb)
   clear hb
   go_wp2_with fail
   go_ret
   exact ⟨rfl, HB2.out⟩
 rw [if_neg hbig] at HGR
 have hk14 : k ≤ 14 := by unfold big47 at hbig; omega
 have hN16 : N ≤ 16 := by unfold big47 at hbig; omega
 clear hbig
 go_wp2_with fail
 refine HGR.out.mono ?_
 rintro e w2 ⟨rfl, hb⟩
 have HB2 := Lib.hid (bw_call HB1.out hb)
 have K12 := Lib.hid (K11.out.below hb K11.out.lt)
 clear hb HGR K11 HB1 p0 p1
 have p0 : w2.cell? ⟨b1, 0, none⟩ = some (.int .i64 N) := K12.out.cell 0
 have p1 : w2.cell? ⟨b1, 1, none⟩ = some (.slice A k c) := K12.out.cell 1
 have HIS : Hid (∀ W, Below w2.heap.size w2 W → Calls Tryz.prog 15 #[.agg #[.int .i64 N, .slice A k c]] W (BoolPost W (decide (checkR N T = (0, 0, 0))))) := Lib.hid fun W hW => by
  have := is15_any N A c T W (by have := HK.out; omega) (by rw [← HK.out]; exact tris_on (bw_call HB2.out hW) HT.out)
  rw [← HK.out] at this
  exact this
 by_cases hs : checkR N T = (0, 0, 0)
 rotate_left
 · have HOR : Hid (Calls Tryz.prog 34 #[.agg #[.int .i64 N, .slice A k c]] w2 (AllErr w2 11)) := Lib.hid (by
    have := orbits_no N A c T w2 hs (by have := HK.out; omega) (by rw [← HK.out]; exact tris_on HB2.out HT.out)
    rw [← HK.out] at this
    exact this)
   rw [decide_eq_false hs] at HIS
   clear hs
   go_wp2_with fail
   refine HOR.out.mono ?_
   rintro e w3 ⟨rfl, hb⟩
   have HB3 := Lib.hid hb
   have K13 := Lib.hid (K12.out.below hb K12.out.lt)
   clear hb p0 p1
   have p0 : w3.cell? ⟨b1, 0, none⟩ = some (.int .i64 N) := K13.out.cell 0
   have p1 : w3.cell? ⟨b1, 1, none⟩ = some (.slice A k c) := K13.out.cell 1
   have HI3 := Lib.hid (HIS.out w3 HB3.out)
   go_wp2_with fail
   refine HI3.out.mono ?_
   rintro e w4 ⟨rfl, hb⟩
   have HB4 := Lib.hid (bw_call HB2.out (bw_call HB3.out hb))
   clear hb
   go_wp2_with fail
   go_ret
   exact ⟨rfl, HB4.out⟩
 rw [decide_eq_true hs] at HIS
 obtain ⟨m, rfl, hse⟩ := chk_surf hs
 have HS := Lib.hid hse
 have hm16 : m ≤ 16 := by omega
 obtain ⟨O, hO⟩ : ∃ O, O = orbL m T := ⟨_, rfl⟩
 have hOl : O.length = m := by rw [hO]; exact orb_len m T
 have HOO := Lib.hid hO
 have HOL := Lib.hid hOl
 have HOR : Hid (Calls Tryz.prog 34 #[.agg #[.int .i64 (m : Int), .slice A k c]] w2 (OrbYes w2 O)) := Lib.hid (by
  have := orbits_yes m A c T w2 hse (by have := HK.out; omega) (by rw [← HK.out]; exact tris_on HB2.out HT.out)
  rw [← HK.out] at this
  rw [hO]
  exact this)
 clear hs hse hO hOl
 go_wp2_with fail
 refine HOR.out.mono ?_
 rintro e w3 ⟨g, rfl, hg, hgl, hb⟩
 rw [HOL.out]
 have HB3 := Lib.hid hb
 have K13 := Lib.hid (K12.out.below hb K12.out.lt)
 have KG3 := Lib.hid hg
 clear hb p0 p1 hg hgl HOR
 have p0 : w3.cell? ⟨b1, 0, none⟩ = some (.int .i64 (m : Int)) := K13.out.cell 0
 have p1 : w3.cell? ⟨b1, 1, none⟩ = some (.slice A k c) := K13.out.cell 1
 have HI3 := Lib.hid (HIS.out w3 HB3.out)
 have hmm : ((m : Int) != (m : Int)) = false := by simp
 go_wp2_with fail
 refine HI3.out.mono ?_
 rintro e w4 ⟨rfl, hb⟩
 have HB4 := Lib.hid (bw_call HB3.out hb)
 have K14 := Lib.hid (K13.out.below hb K13.out.lt)
 have KG4 := Lib.hid (KG3.out.below hb KG3.out.lt)
 clear hb p0 p1 HI3 K13 KG3 HB3
 have p0 : w4.cell? ⟨b1, 0, none⟩ = some (.int .i64 (m : Int)) := K14.out.cell 0
 have p1 : w4.cell? ⟨b1, 1, none⟩ = some (.slice A k c) := K14.out.cell 1
 have HNE := Lib.hid (new_any (m : Int) A k c T w4 (by omega) (tris_on (bw_call HB2.out HB4.out) HT.out))
 go_wp2_with fail
 refine HNE.out.mono ?_
 rintro e w5 hpost
 rcases hpost with ⟨_, gt, rfl, htab, hb⟩ | ⟨hne, _, _⟩
 case inr => exact absurd (surf_chk HS.out) hne
 rw [show wv (0, 0, 0) = .agg #[.int .i64 0, .int .i64 0, .int .i64 0] from rfl]
 have HTN : Hid (TabN w5 gt m T) := Lib.hid ⟨htab.base (Nat.zero_le _), HS.out, by have := HK.out; omega⟩
 have K15 := Lib.hid (K14.out.below hb K14.out.lt)
 have KG5 := Lib.hid (KG4.out.below hb KG4.out.lt)
 have HB5 := Lib.hid (bw_call HB4.out hb)
 clear htab hb HNE p0 p1 K14 KG4 HB4
 go_upto_region 11 with (fail)
 obtain ⟨w6, hw6⟩ : ∃ U, U = w5.alloc (.cells #[.int .i64 0, .int .i64 0, .int .i64 0] 43) := ⟨_, rfl⟩
 have HT6 : Hid (TabN w6 gt m T) := by subst hw6; exact Lib.hid (HTN.out.alloc _)
 have K16 : Hid (Blk w6 b1 24 #[.int .i64 (m : Int), .slice A k c]) := by subst hw6; exact Lib.hid (K15.out.alloc _)
 have KG6 : Hid (Blk w6 g 3 (intsA O)) := by subst hw6; exact Lib.hid (KG5.out.alloc _)
 have HB6 : Hid (Below w2.heap.size w2 w6) := by subst hw6; exact Lib.hid (bw_alloc HB5.out _)
 rw [← hw6]
 clear hw6 HTN K15 KG5 HB5
 have HDG : Hid (∀ (v s b : Nat) (bo : Bool) (M L : List Nat), v < m → Ring T (v : Int) s b bo M L → ∀ W, TabN W gt m T → Calls Tryz.prog 35 #[.pointer (some ⟨gt, 0, none⟩), .int .i64 (v : Int)] W (IntPost W (L.length : Int))) := Lib.hid fun v s b bo M L hv hr W h =>
  degree_any gt m T (v : Int) L W (.inr ⟨v, rfl, hv, s, b, bo, M, hr⟩) (by
   have := nodup_leN (3 * T.length) hr.nd hr.lt
   have := HK.out
   omega) h
 have HIN : Hid (∀ (v s b : Nat) (bo : Bool) (M L : List Nat), v < m → Ring T (v : Int) s b bo M L → ∀ W, TabN W gt m T → Calls Tryz.prog 36 #[.pointer (some ⟨gt, 0, none⟩), .int .i64 (v : Int)] W (BoolPost W (!bo))) := Lib.hid fun v s b bo M L hv hr W h =>
  inner_any gt m T (v : Int) s b bo M L W ⟨by omega, by omega⟩ hr h
 have p0 : w6.cell? ⟨b1, 0, none⟩ = some (.int .i64 (m : Int)) := K16.out.cell 0
 have p1 : w6.cell? ⟨b1, 1, none⟩ = some (.slice A k c) := K16.out.cell 1
 go_wp2_with fail
 go_loopw [7] (fun iv wr => ∃ v : Nat, v ≤ m ∧ iv = .int .i64 (v : Int) ∧ Hid (Below w6.heap.size w6 wr)) (fun iv _ => m - (intOf iv).toNat)
 case atStart => exact ⟨0, by omega, rfl, Lib.hid (Below.refl _ _)⟩
 case round =>
  clear p0 p1
  obtain ⟨v, hvm, rfl, HBr⟩ := hrel
  obtain ⟨wE, hwE⟩ : ∃ wE : World, wE = wr := ⟨_, rfl⟩
  rw [← hwE] at HBr ⊢
  clear hwE
  have K1E := Lib.hid (K16.out.below HBr.out K16.out.lt)
  have p0 : wE.cell? ⟨b1, 0, none⟩ = some (.int .i64 (m : Int)) := K1E.out.cell 0
  by_cases hv : v < m
  · have hvI : (v : Int) < (m : Int) := by omega
    obtain ⟨u, huv, hu1, hu2, rn, hrn, hgv⟩ := orb_law HS.out hv
    rw [← HOO.out] at hu1 hu2
    obtain ⟨s1, q1, bo, M1, L1, r1⟩ := ring_ex HS.out hv
    obtain ⟨s2, q2, bo2, M2, L2, r2⟩ := ring_ex HS.out (v := u) (by omega)
    obtain ⟨hll, hbb⟩ := ring_iso HS.out hrn (v := (v : Int)) (u := (u : Int)) ⟨by omega, by omega⟩ hgv r1 r2
    subst hbb
    have HD1 := Lib.hid (HDG.out v s1 q1 bo M1 L1 hv r1)
    have HD2 := Lib.hid (HDG.out u s2 q2 bo M2 L2 (by omega) r2)
    have HI1 := Lib.hid (HIN.out v s1 q1 bo M1 L1 hv r1)
    have HI2 := Lib.hid (HIN.out u s2 q2 bo M2 L2 (by omega) r2)
    rw [← hll] at HD2
    obtain ⟨nd, hnd⟩ : ∃ n, n = L1.length := ⟨_, rfl⟩
    obtain ⟨qi, hqi⟩ : ∃ q, q = !bo := ⟨_, rfl⟩
    rw [← hnd] at HD1 HD2
    rw [← hqi] at HI1 HI2
    have KGE := Lib.hid (KG6.out.below HBr.out KG6.out.lt)
    have CVwE : Hid (CellQ wE ⟨g, v, none⟩ (.int .i64 (u : Int))) := Lib.hid ⟨by rw [KGE.out.cell v, intsA_at (by rw [HOL.out]; exact hv), hu1], KGE.out.lt⟩
    have CUwE : Hid (CellQ wE ⟨g, u, none⟩ (.int .i64 (u : Int))) := Lib.hid ⟨by rw [KGE.out.cell u, intsA_at (by rw [HOL.out]; omega), hu2], KGE.out.lt⟩
    have HTwE := Lib.hid (HT6.out.below HBr.out)
    have HBwE := HBr
    have hu0 : ¬ (u : Int) < 0 := by omega
    have huI : ¬ (v : Int) < (u : Int) := by omega
    have huu : ((u : Int) != (u : Int)) = false := by simp
    have hdd : ((nd : Int) != (nd : Int)) = false := by simp
    have hqq : (!(qi == qi)) = false := by simp
    have huM : (u : Int) < (m : Int) := by omega
    clear hu1 hu2 hrn hgv r1 r2 hll hnd hqi K1E KGE
    go_upto_region 14 with (fail)
    clear p0
    refine wp_region_held_drew (S := fun w' => w'.cell? ⟨g, v, none⟩ = some (.int .i64 (u : Int)) ∧ w'.cell? ⟨g, u, none⟩ = some (.int .i64 (u : Int))) (by kernel_rfl) ⟨(CVwE.out.drew.c), (CUwE.out.drew.c)⟩ (fun hHeld => ?_)
    refine hKk 0 (v := ?v1) ?y1 ?r1
    case y1 => (intro w h; (try dsimp only at h); go_simp; try with_reducible rfl)
    (try simp only [Act.put, zQ1, zQ2, zQ3])
    refine hKk 1 (v := ?v2) ?y2 ?r2
    case y2 => (intro w h; (try dsimp only at h); go_simp; try with_reducible rfl)
    (try simp only [Act.put, zQ1, zQ2, zQ3])
    refine hKk 2 (v := ?v3) ?y3 ?r3
    case y3 => (intro w h; (try dsimp only at h); go_simp; try with_reducible rfl)
    (try simp only [Act.put, zQ1, zQ2, zQ3])
    refine hKk 3 (v := ?v4) ?y4 ?r4
    case y4 => (intro w h; (try dsimp only at h); go_simp; try with_reducible rfl)
    (try simp only [Act.put, zQ1, zQ2, zQ3])
    refine hKk 4 (v := ?v5) ?y5 ?r5
    case y5 => (intro w h; (try dsimp only at h); go_simp; try with_reducible rfl)
    (try simp only [Act.put, zQ1, zQ2, zQ3])
    refine hKk 5 (v := ?v6) ?y6 ?r6
    case y6 => (intro w h; (try dsimp only at h); go_simp; try with_reducible rfl)
    (try simp only [Act.put, zQ1, zQ2, zQ3])
    refine hKk 6 (v := ?v7) ?y7 ?r7
    case y7 => (intro w h; (try dsimp only at h); go_simp; try with_reducible rfl)
    (try simp only [Act.put, zQ1, zQ2, zQ3])
    refine hKk 7 (v := ?v8) ?y8 ?r8
    case y8 => (intro w h; (try dsimp only at h); go_simp; try with_reducible rfl)
    (try simp only [Act.put, zQ1, zQ2, zQ3])
    refine hKk 8 (v := ?v9) ?y9 ?r9
    case y9 => (intro w h; (try dsimp only at h); go_simp; try with_reducible rfl)
    (try simp only [Act.put, zQ1, zQ2, zQ3])
    refine hKk 9 (v := ?v10) ?y10 ?r10
    case y10 => (intro w h; (try dsimp only at h); go_simp; try with_reducible rfl)
    (try simp only [Act.put, zQ1, zQ2, zQ3])
    refine hKk 10 (v := ?v11) ?y11 ?r11
    case y11 => (intro w h; (try dsimp only at h); go_simp; try with_reducible rfl)
    (try simp only [Act.put, zQ1, zQ2, zQ3])
    refine hKk 11 (v := ?v12) ?y12 ?r12
    case y12 => (intro w h; (try dsimp only at h); go_simp; try with_reducible rfl)
    (try simp only [Act.put, zQ1, zQ2, zQ3])
    refine hKk 12 (v := ?v13) ?y13 ?r13
    case y13 => (intro w h; (try dsimp only at h); go_simp; try with_reducible rfl)
    (try simp only [Act.put, zQ1, zQ2, zQ3])
    refine hKk 13 (v := ?v14) ?y14 ?r14
    case y14 => (intro w h; (try dsimp only at h); go_simp; try with_reducible rfl)
    (try simp only [Act.put, zQ1, zQ2, zQ3])
    refine hKk 14 (v := ?v15) ?y15 ?r15
    case y15 => (intro w h; (try dsimp only at h); go_simp; try with_reducible rfl)
    (try simp only [Act.put, zQ1, zQ2, zQ3])
    refine hKk 15 (v := ?v16) ?y16 ?r16
    case y16 => (intro w h; (try dsimp only at h); go_simp; try with_reducible rfl)
    (try simp only [Act.put, zQ1, zQ2, zQ3])
    refine hKk 16 (v := ?v17) ?y17 ?r17
    case y17 => (intro w h; (try dsimp only at h); go_simp; try with_reducible rfl)
    (try simp only [Act.put, zQ1, zQ2, zQ3])
    refine hKk 17 (v := ?v18) ?y18 ?r18
    case y18 => (intro w h; (try dsimp only at h); go_simp; try with_reducible rfl)
    (try simp only [Act.put, zQ1, zQ2, zQ3])
    refine hKk 18 (v := ?v19) ?y19 ?r19
    case y19 => (intro w h; (try dsimp only at h); go_simp; try with_reducible rfl)
    (try simp only [Act.put, zQ1, zQ2, zQ3])
    refine hKk 19 (v := ?v20) ?y20 ?r20
    case y20 => (intro w h; (try dsimp only at h); go_simp; try with_reducible rfl)
    (try simp only [Act.put, zQ1, zQ2, zQ3])
    refine hKk 20 (v := ?v21) ?y21 ?r21
    case y21 => (intro w h; (try dsimp only at h); go_simp; try with_reducible rfl)
    (try simp only [Act.put, zQ1, zQ2, zQ3])
    refine hKk 21 (v := ?v22) ?y22 ?r22
    case y22 => (intro w h; (try dsimp only at h); go_simp; try with_reducible rfl)
    (try simp only [Act.put, zQ1, zQ2, zQ3])
    refine hKk 22 (v := ?v23) ?y23 ?r23
    case y23 => (intro w h; (try dsimp only at h); go_simp; try with_reducible rfl)
    (try simp only [Act.put, zQ1, zQ2, zQ3])
    refine hKk 23 (v := ?v24) ?y24 ?r24
    case y24 => (intro w h; (try dsimp only at h); go_simp; try with_reducible rfl)
    (try simp only [Act.put, zQ1, zQ2, zQ3])
    refine hKk 24 (v := ?v25) ?y25 ?r25
    case y25 => (intro w h; (try dsimp only at h); go_simp; try with_reducible rfl)
    (try simp only [Act.put, zQ1, zQ2, zQ3])
    refine hKk 25 (v := ?v26) ?y26 ?r26
    case y26 => (intro w h; (try dsimp only at h); go_simp; try with_reducible rfl)
    (try simp only [Act.put, zQ1, zQ2, zQ3])
    refine hKk 26 (v := ?v27) ?y27 ?r27
    case y27 => (intro w h; (try dsimp only at h); go_simp; try with_reducible rfl)
    (try simp only [Act.put, zQ1, zQ2, zQ3])
    refine hKk 27 (v := ?v28) ?y28 ?r28
    case y28 => (intro w h; (try dsimp only at h); go_simp; try with_reducible rfl)
    (try simp only [Act.put, zQ1, zQ2, zQ3])
    refine hKk 28 (v := ?v29) ?y29 ?r29
    case y29 => (intro w h; (try dsimp only at h); go_simp; try with_reducible rfl)
    (try simp only [Act.put, zQ1, zQ2, zQ3])
    refine hKk 29 (v := ?v30) ?y30 ?r30
    case y30 => (intro w h; (try dsimp only at h); go_simp; try with_reducible rfl)
    (try simp only [Act.put, zQ1, zQ2, zQ3])
    refine hKk 31 (v := ?v31) ?y31 ?r31
    case y31 => (intro w h; (try dsimp only at h); go_simp; try with_reducible rfl)
    (try simp only [Act.put, zQ1, zQ2, zQ3])
    refine hKk 32 (v := ?v32) ?y32 ?r32
    case y32 => (intro w h; (try dsimp only at h); go_simp; try with_reducible rfl)
    (try simp only [Act.put, zQ1, zQ2, zQ3])
    refine hKk 33 (v := ?v33) ?y33 ?r33
    case y33 => (intro w h; (try dsimp only at h); go_simp; try with_reducible rfl)
    (try simp only [Act.put, zQ1, zQ2, zQ3])
    refine hKk 34 (v := ?v34) ?y34 ?r34
    case y34 => (intro w h; (try dsimp only at h); go_simp; try with_reducible rfl)
    (try simp only [Act.put, zQ1, zQ2, zQ3])
    refine hKk 35 (v := ?v35) ?y35 ?r35
    case y35 => (intro w h; (try dsimp only at h); go_simp; try with_reducible rfl)
    (try simp only [Act.put, zQ1, zQ2, zQ3])
    refine wpAnyH_ready (rs := [30]) (by kernel_rfl) (by simp) ?_
    refine held_cons rfl (fun K hK => ?_) ?_
    · go_simp
      go_wp2_with (go_at_call 35; refine (HD1.out wE.drew HTwE.out.drew).mono ?_; rintro e v21 ⟨rfl, hb⟩)
      have CVv21 := Lib.hid (CVwE.out.drew.below hb)
      have CUv21 := Lib.hid (CUwE.out.drew.below hb)
      have HTv21 := Lib.hid (HTwE.out.drew.below hb)
      have HBv21 := Lib.hid (bw_call (bw_drew HBwE.out) hb)
      clear hb
      refine hK.out _ _ ?_ (fun hHeld => ?_)
      · exact ⟨(CVv21.out.c), (CUv21.out.c)⟩
      clear hK K
      (try simp only [Act.put, zQ1, zQ2, zQ3])
      refine wpAnyH_ready (rs := [36]) (by kernel_rfl) (by simp) ?_
      refine held_cons rfl (fun K hK => ?_) ?_
      · go_simp
        go_wp2_with (go_at_call 35; refine (HD2.out v21 HTv21.out).mono ?_; rintro e v22 ⟨rfl, hb⟩)
        have CVv22 := Lib.hid (CVv21.out.below hb)
        have CUv22 := Lib.hid (CUv21.out.below hb)
        have HTv22 := Lib.hid (HTv21.out.below hb)
        have HBv22 := Lib.hid (bw_call HBv21.out hb)
        clear hb CVv21 CUv21 HTv21 HBv21
        refine hK.out _ _ ?_ (fun hHeld => ?_)
        · exact ⟨(CVv22.out.c), (CUv22.out.c)⟩
        clear hK K
        (try simp only [Act.put, zQ1, zQ2, zQ3])
        refine hKk 37 (v := ?v36) ?y36 ?r36
        case y36 => (intro w h; (try dsimp only at h); go_simp; try with_reducible rfl)
        (try simp only [Act.put, zQ1, zQ2, zQ3])
        refine hKk 38 (v := ?v37) ?y37 ?r37
        case y37 => (intro w h; (try dsimp only at h); go_simp; try with_reducible rfl)
        (try simp only [Act.put, zQ1, zQ2, zQ3])
        refine hKk 39 (v := ?v38) ?y38 ?r38
        case y38 => (intro w h; (try dsimp only at h); go_simp; try with_reducible rfl)
        (try simp only [Act.put, zQ1, zQ2, zQ3])
        refine hKk 40 (v := ?v39) ?y39 ?r39
        case y39 => (intro w h; (try dsimp only at h); go_simp; try with_reducible rfl)
        (try simp only [Act.put, zQ1, zQ2, zQ3])
        refine hKk 41 (v := ?v40) ?y40 ?r40
        case y40 => (intro w h; (try dsimp only at h); go_simp; try with_reducible rfl)
        (try simp only [Act.put, zQ1, zQ2, zQ3])
        refine hKk 43 (v := ?v41) ?y41 ?r41
        case y41 => (intro w h; (try dsimp only at h); go_simp; try with_reducible rfl)
        (try simp only [Act.put, zQ1, zQ2, zQ3])
        refine hKk 44 (v := ?v42) ?y42 ?r42
        case y42 => (intro w h; (try dsimp only at h); go_simp; try with_reducible rfl)
        (try simp only [Act.put, zQ1, zQ2, zQ3])
        refine hKk 45 (v := ?v43) ?y43 ?r43
        case y43 => (intro w h; (try dsimp only at h); go_simp; try with_reducible rfl)
        (try simp only [Act.put, zQ1, zQ2, zQ3])
        refine hKk 46 (v := ?v44) ?y44 ?r44
        case y44 => (intro w h; (try dsimp only at h); go_simp; try with_reducible rfl)
        (try simp only [Act.put, zQ1, zQ2, zQ3])
        refine hKk 47 (v := ?v45) ?y45 ?r45
        case y45 => (intro w h; (try dsimp only at h); go_simp; try with_reducible rfl)
        (try simp only [Act.put, zQ1, zQ2, zQ3])
        refine wpAnyH_ready (rs := [42]) (by kernel_rfl) (by simp) ?_
        refine held_cons rfl (fun K hK => ?_) ?_
        · go_simp
          go_wp2_with (go_at_call 36; refine (HI1.out v22 HTv22.out).mono ?_; rintro e v23 ⟨rfl, hb⟩)
          have CVv23 := Lib.hid (CVv22.out.below hb)
          have CUv23 := Lib.hid (CUv22.out.below hb)
          have HTv23 := Lib.hid (HTv22.out.below hb)
          have HBv23 := Lib.hid (bw_call HBv22.out hb)
          clear hb CVv22 CUv22 HTv22 HBv22
          refine hK.out _ _ ?_ (fun hHeld => ?_)
          · exact ⟨(CVv23.out.c), (CUv23.out.c)⟩
          clear hK K
          (try simp only [Act.put, zQ1, zQ2, zQ3])
          refine wpAnyH_ready (rs := [48]) (by kernel_rfl) (by simp) ?_
          refine held_cons rfl (fun K hK => ?_) ?_
          · go_simp
            go_wp2_with (go_at_call 36; refine (HI2.out v23 HTv23.out).mono ?_; rintro e v24 ⟨rfl, hb⟩)
            have CVv24 := Lib.hid (CVv23.out.below hb)
            have CUv24 := Lib.hid (CUv23.out.below hb)
            have HTv24 := Lib.hid (HTv23.out.below hb)
            have HBv24 := Lib.hid (bw_call HBv23.out hb)
            clear hb CVv23 CUv23 HTv23 HBv23
            refine hK.out _ _ ?_ (fun hHeld => ?_)
            · exact ⟨(CVv24.out.c), (CUv24.out.c)⟩
            clear hK K
            (try simp only [Act.put, zQ1, zQ2, zQ3])
            refine hKk 49 (v := ?v46) ?y46 ?r46
            case y46 => (intro w h; (try dsimp only at h); go_simp; try with_reducible rfl)
            (try simp only [Act.put, zQ1, zQ2, zQ3])
            refine hKk 50 (v := ?v47) ?y47 ?r47
            case y47 => (intro w h; (try dsimp only at h); go_simp; try with_reducible rfl)
            (try simp only [Act.put, zQ1, zQ2, zQ3])
            refine wpAnyH_done (by kernel_rfl) ?_ _
            have HBn := HBv24
            go_wp2_with fail
            go_roundw
            case rel => exact ⟨v + 1, by omega, by go_num, HBn⟩
            case measure => simp [intOf]; omega
          exact AllReadyH.nil
        exact AllReadyH.nil
      exact AllReadyH.nil
    exact AllReadyH.nil
  · obtain rfl : v = m := by omega
    have hvI : ¬ (v : Int) < (v : Int) := by omega
    have p1 : wE.cell? ⟨b1, 1, none⟩ = some (.slice A k c) := K1E.out.cell 1
    have HAL : Hid (Calls Tryz.prog 25 #[.agg #[.int .i64 (v : Int), .slice A k c]] wE (AllAny wE (v : Int) T)) := Lib.hid (by
     have := symAll_any (v : Int) A c T wE (by have := HK.out; omega) (by rw [← HK.out]; exact tris_on (bw_call HB2.out (bw_call HB6.out HBr.out)) HT.out)
     rw [← HK.out] at this
     exact this)
    go_wp2_with fail
    refine HAL.out.mono ?_
    rintro e w7 ⟨Al, cl, ws, er, rfl, hI, hws, hb⟩
    have HB7 := Lib.hid (bw_call HBr.out hb)
    have K17 := Lib.hid (K1E.out.below hb K1E.out.lt)
    have HWS := Lib.hid hws
    clear hb hws HAL p0 p1 K1E HBr
    cases hI with
    | no h => exact absurd (surf_chk HS.out) h
    | full m' _ _ _ =>
     go_wp2_with fail
     go_ret
     exact ⟨rfl, bw_call HB2.out (bw_call HB6.out HB7.out)⟩
    | yes m' ws e _ _ hp _ =>
     obtain rfl : v = m' := by omega
     have HP := Lib.hid hp
     obtain ⟨nw, hnw⟩ : ∃ n, n = ws.length := ⟨_, rfl⟩
     have HNW := Lib.hid hnw
     rw [← hnw]
     have hnw1 : nw ≤ 1000 := by have := hp.length_eq; omega
     clear hp hnw e
     have p0 : w7.cell? ⟨b1, 0, none⟩ = some (.int .i64 (v : Int)) := K17.out.cell 0
     go_wp2_with fail
     go_loopw [10] (fun iv wr => ∃ u : Nat, u ≤ v ∧ iv = .int .i64 (u : Int) ∧ Hid (Below w7.heap.size w7 wr)) (fun iv _ => v - (intOf iv).toNat)
     case atStart => exact ⟨0, by omega, rfl, Lib.hid (Below.refl _ _)⟩
     case round =>
      clear p0
      obtain ⟨u, huv, rfl, HBr⟩ := hrel
      obtain ⟨wE, hwE⟩ : ∃ wE : World, wE = wr := ⟨_, rfl⟩
      rw [← hwE] at HBr ⊢
      clear hwE
      have K1E := Lib.hid (K17.out.below HBr.out K17.out.lt)
      have p0 : wE.cell? ⟨b1, 0, none⟩ = some (.int .i64 (v : Int)) := K1E.out.cell 0
      by_cases hu : u < v
      · have huI : (u : Int) < (v : Int) := by omega
        have HBE := HBr
        clear HBr
        go_wp2_with fail
        go_loopw [11, 12] (fun lv iv wr => ∃ i : Nat, i ≤ nw ∧ lv = .int .i64 (wMin u (ws.take i) (u : Int)) ∧ iv = .int .i64 (i : Int) ∧ Hid (Below w7.heap.size w7 wr)) (fun _ iv _ => nw - (intOf iv).toNat)
        case atStart => exact ⟨0, by omega, rfl, rfl, HBE⟩
        case round =>
         clear HBE K1E p0
         obtain ⟨i, hin, rfl, rfl, HBr⟩ := hrel
         obtain ⟨wE, hwE⟩ : ∃ wE : World, wE = wr := ⟨_, rfl⟩
         rw [← hwE] at HBr ⊢
         clear hwE
         obtain ⟨z, hz⟩ : ∃ z, z = wMin u (ws.take i) (u : Int) := ⟨_, rfl⟩
         have HZ := Lib.hid hz
         rw [← hz]
         clear hz
         by_cases hii : i < nw
         · have hiI : (i : Int) < (nw : Int) := by omega
           obtain ⟨gl, Ar, cr, hAl, hcl, hir⟩ := (HWS.out.below (bw_call (Below.refl _ _) HBr.out)).at_ (k := i) (by rw [← HNW.out]; exact hii)
           have hil : i < ws.length := by rw [← HNW.out]; exact hii
           obtain ⟨rn, hrn⟩ : ∃ rn, rn = ws.getD i [] := ⟨_, rfl⟩
           rw [← hrn] at hcl hir
           have hws : ws[i]? = some rn := by rw [hrn, List.getD_eq_getElem?_getD, List.getElem?_eq_getElem hil]; rfl
           have hrl : rn.length = v := ((allR_iff HS.out rn).1 (HP.out.mem_iff.1 (List.mem_of_getElem? hws))).len
           rw [hrl] at hcl
           obtain ⟨ar, hAr, c1⟩ := hir.cellQ (k := u) (x := rn.getD u 0) (by rw [List.getD_eq_getElem?_getD, List.getElem?_eq_getElem (by omega)]; rfl)
           obtain ⟨x, hx⟩ : ∃ x, x = rn.getD u 0 := ⟨_, rfl⟩
           rw [← hx] at c1
           have HMN : Hid (wMin u (ws.take (i + 1)) (u : Int) = min z x) := Lib.hid (by rw [wMin_succ hws, hx, HZ.out])
           have K1wE := Lib.hid (K17.out.below HBr.out K17.out.lt)
           have CLwE : Hid (CellQ wE ⟨gl, i, none⟩ (.slice Ar v cr)) := Lib.hid ⟨hcl, World.block_lt_of_cell? wE _ hcl⟩
           have CXwE := Lib.hid c1
           have HBwE := HBr
           have hvv : ((v : Int) != (v : Int)) = false := by simp
           subst hAl hAr
           clear hrn hws hrl hx hcl hir c1 hil
           go_upto_region 26 with (fail)
           refine wp_region_held_drew (S := fun w' => w'.cell? ⟨b1, 0, none⟩ = some (.int .i64 (v : Int)) ∧ w'.cell? ⟨b1, 1, none⟩ = some (.slice A k c) ∧ w'.cell? ⟨gl, i, none⟩ = some (.slice (some ar) v cr) ∧ w'.cell? (ar.add u) = some (.int .i64 x)) (by kernel_rfl) ⟨(K1wE.out.drew.cell 0), (K1wE.out.drew.cell 1), (CLwE.out.drew.c), (CXwE.out.drew.c)⟩ (fun hHeld => ?_)
           refine hKk 0 (v := ?v48) ?y48 ?r48
           case y48 => (intro w h; (try dsimp only at h); go_simp; try with_reducible rfl)
           (try simp only [Act.put, zQ1, zQ2, zQ3])
           refine hKk 1 (v := ?v49) ?y49 ?r49
           case y49 => (intro w h; (try dsimp only at h); go_simp; try with_reducible rfl)
           (try simp only [Act.put, zQ1, zQ2, zQ3])
           refine hKk 2 (v := ?v50) ?y50 ?r50
           case y50 => (intro w h; (try dsimp only at h); go_simp; try with_reducible rfl)
           (try simp only [Act.put, zQ1, zQ2, zQ3])
           refine hKk 3 (v := ?v51) ?y51 ?r51
           case y51 => (intro w h; (try dsimp only at h); go_simp; try with_reducible rfl)
           (try simp only [Act.put, zQ1, zQ2, zQ3])
           refine hKk 4 (v := ?v52) ?y52 ?r52
           case y52 => (intro w h; (try dsimp only at h); go_simp; try with_reducible rfl)
           (try simp only [Act.put, zQ1, zQ2, zQ3])
           refine hKk 5 (v := ?v53) ?y53 ?r53
           case y53 => (intro w h; (try dsimp only at h); go_simp; try with_reducible rfl)
           (try simp only [Act.put, zQ1, zQ2, zQ3])
           refine hKk 6 (v := ?v54) ?y54 ?r54
           case y54 => (intro w h; (try dsimp only at h); go_simp; try with_reducible rfl)
           (try simp only [Act.put, zQ1, zQ2, zQ3])
           refine hKk 7 (v := ?v55) ?y55 ?r55
           case y55 => (intro w h; (try dsimp only at h); go_simp; try with_reducible rfl)
           (try simp only [Act.put, zQ1, zQ2, zQ3])
           refine wpAnyH_done (by kernel_rfl) ?_ _
           have c8 : wE.drew.cell? ⟨gl, i, none⟩ = some (.slice (some ar) v cr) := CLwE.out.drew.c
           have c9 : wE.drew.cell? (ar.add u) = some (.int .i64 x) := CXwE.out.drew.c
           have HBn : Hid (Below w7.heap.size w7 wE.drew) := Lib.hid (bw_drew HBwE.out)
           go_wp2_with fail
           go_roundw
           case rel => exact ⟨i + 1, by omega, by rw [HMN.out], by go_num, HBn⟩
           case measure => simp [intOf]; omega
         · obtain rfl : i = nw := by omega
           have hiI : ¬ (i : Int) < (i : Int) := by omega
           have hmin : z = O.getD u 0 := by
            rw [HZ.out, List.take_of_length_le (by rw [← HNW.out]; exact Nat.le_refl _), HOO.out]
            exact orb_rows HS.out HP.out hu
           have KGE := Lib.hid (KG6.out.below (bw_call HB7.out HBr.out) KG6.out.lt)
           have c0 : wE.cell? ⟨g, u, none⟩ = some (.int .i64 z) := by rw [KGE.out.cell u, intsA_at (by rw [HOL.out]; exact hu), hmin]
           have hzz : (z != z) = false := by simp
           clear hmin
           go_wp2_with fail
           go_roundw
           case rel => exact ⟨u + 1, by omega, by go_num, HBr⟩
           case measure => simp [intOf]; omega
      · obtain rfl : u = v := by omega
        have huI : ¬ (u : Int) < (u : Int) := by omega
        go_wp2_with fail
        go_ret
        exact ⟨rfl, bw_call HB2.out (bw_call HB6.out (bw_call HB7.out HBr.out))⟩
theorem lawOrbitsN_any (N : Int) (A : Option Addr) (n c : Nat) (T : List Tri) (w : World) (ht : TrisAt w w.heap.size A n T) :
  Calls Tryz.prog 11 #[.agg #[.int .i64 N, .slice A n c]] w (BoolPost w true) := by
 obtain rfl : n = T.length := ht.len.symm
 exact lawOrbits_any N A c T w ht
end Go.Proofs.YtiajlmajenabiaaGreat
