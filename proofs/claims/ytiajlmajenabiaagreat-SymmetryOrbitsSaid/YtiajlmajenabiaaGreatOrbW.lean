/- symmetry.Orbits, walked. No condition but sizes. -/
import Derived.Test.YtiajlmajenabiaaGreatOrbP
import Derived.Test.YtiajlmajenabiaaGreatAllX
set_option maxRecDepth 100000
set_option maxHeartbeats 16000000
set_option linter.all false
namespace Go.Proofs.YtiajlmajenabiaaGreat
open Go.RowKit
def OrbYes (w : World) (O : List Int) (e : Ending) (w' : World) : Prop :=
 ∃ (g : Nat), e = .returned (.tuple #[.slice (some ⟨g, 0, none⟩) O.length O.length, .int .i64 0]) ∧ Blk w' g 3 (intsA O) ∧ w.heap.size ≤ g ∧ Below w.heap.size w w'
theorem intsO_at {O : List Int} {i : Nat} (h : i < O.length) : (intsA O)[i]? = some (.int .i64 (O.getD i 0)) := by
 unfold intsA ZL
 rw [List.getElem?_toArray, List.getElem?_map, List.getElem?_eq_getElem h, List.getD_eq_getElem?_getD, List.getElem?_eq_getElem h]
 rfl
theorem intsO_set (O : List Int) (i : Nat) (x : Int) : (intsA O).setIfInBounds i (.int .i64 x) = intsA (O.set i x) := by
 apply Array.ext'
 unfold intsA ZL
 rw [Array.toList_setIfInBounds, List.map_set]
theorem set_same47 {O : List Int} {i : Nat} (h : i < O.length) : O.set i (O.getD i 0) = O := by
 refine List.ext_getElem (by simp) fun j h1 h2 => ?_
 rw [List.getElem_set]
 split
 · rename_i e
   subst e
   rw [List.getD_eq_getElem?_getD, List.getElem?_eq_getElem h]
   rfl
 · rfl
theorem set_set47 (O : List Int) (i : Nat) (x y : Int) : (O.set i x).set i y = O.set i y := by simp
theorem getD_set47 {O : List Int} {i : Nat} (h : i < O.length) (x : Int) : (O.set i x).getD i 0 = x := by
 rw [getD_setN, if_pos ⟨rfl, h⟩]
attribute [local irreducible] Blk World.alloc World.setCell World.cell? World.frozen? MapV MapI
theorem orbits_no (N : Int) (A : Option Addr) (c : Nat) (T : List Tri) (w : World) (hs : checkR N T ≠ (0, 0, 0)) (hn : T.length ≤ 1000) (ht : TrisAt w w.heap.size A T.length T) :
  Calls Tryz.prog 34 #[.agg #[.int .i64 N, .slice A T.length c]] w (AllErr w 11) := by
 have HT := Lib.hid ht
 have HS := Lib.hid hs
 clear ht hs
 go_enter Tryz.func34, Tryz.ntmps34
 go_upto_region 1 with (fail)
 obtain ⟨wA, hwA⟩ : ∃ U, U = w.alloc (.cells #[.int .i64 N, .slice A T.length c] 24) := ⟨_, rfl⟩
 have K1A : Hid (Blk wA w.heap.size 24 #[.int .i64 N, .slice A T.length c]) := by subst hwA; exact Lib.hid (Blk.new _ _ _)
 have HBA : Hid (Below w.heap.size w wA) := by subst hwA; exact Lib.hid (bw_alloc (Below.refl _ _) _)
 rw [← hwA]
 have HKI := Lib.hid (kindsNo_any N A c T wA HS.out hn (tris_on HBA.out HT.out))
 have p0 : wA.cell? ⟨w.heap.size, 0, none⟩ = some (.int .i64 N) := K1A.out.cell 0
 have p1 : wA.cell? ⟨w.heap.size, 1, none⟩ = some (.slice A T.length c) := K1A.out.cell 1
 clear hwA
 go_wp2_with fail
 refine HKI.out.mono ?_
 rintro e w1 ⟨rfl, hb⟩
 have HB1 := Lib.hid (bw_call HBA.out hb)
 clear hb
 go_wp2_with fail
 refine bodyPost_ret (v := .tuple #[.slice none 0 0, .int .i64 11]) ?_ rfl ⟨rfl, HB1.out⟩
 simp [results, Tryz.results34, go_sem]
theorem orbits_yes (m : Nat) (A : Option Addr) (c : Nat) (T : List Tri) (w : World) (hse : SurfE m T) (hn : T.length ≤ 14) (ht : TrisAt w w.heap.size A T.length T) :
  Calls Tryz.prog 34 #[.agg #[.int .i64 (m : Int), .slice A T.length c]] w (OrbYes w (orbL m T)) := by
 have HT := Lib.hid ht
 have HS := Lib.hid hse
 have hm := hse.m1
 have HOK := Lib.hid (kinds_ok hse (by omega))
 obtain ⟨i0, hi0, hz0, hz1, hz2⟩ := info_parts int_infoC
 clear ht hse
 go_enter Tryz.func34, Tryz.ntmps34
 go_upto_region 1 with (fail)
 obtain ⟨wA, hwA⟩ : ∃ U, U = w.alloc (.cells #[.int .i64 (m : Int), .slice A T.length c] 24) := ⟨_, rfl⟩
 have K1A : Hid (Blk wA w.heap.size 24 #[.int .i64 (m : Int), .slice A T.length c]) := by subst hwA; exact Lib.hid (Blk.new _ _ _)
 have HBA : Hid (Below w.heap.size w wA) := by subst hwA; exact Lib.hid (bw_alloc (Below.refl _ _) _)
 rw [← hwA]
 obtain ⟨b1, hb1⟩ : ∃ b, b = w.heap.size := ⟨_, rfl⟩
 rw [← hb1] at K1A
 simp only [← hb1]
 have HKI := Lib.hid (kindsYes_any m A c T wA (surf_chk HS.out) (by omega) (parts_ok HS.out) (tris_on HBA.out HT.out))
 have p0 : wA.cell? ⟨b1, 0, none⟩ = some (.int .i64 (m : Int)) := K1A.out.cell 0
 have p1 : wA.cell? ⟨b1, 1, none⟩ = some (.slice A T.length c) := K1A.out.cell 1
 clear hwA hb1
 go_wp2_with fail
 refine HKI.out.mono ?_
 rintro e w1 ⟨Ak, ck, rfl, hk, hb⟩
 have HB1 := Lib.hid (bw_call HBA.out hb)
 have K11 := Lib.hid (K1A.out.below hb K1A.out.lt)
 have HKS := Lib.hid hk
 obtain ⟨ks, hks⟩ : ∃ ks, ks = kindsL T (kN T) := ⟨_, rfl⟩
 obtain ⟨K, hK⟩ : ∃ K, K = kN T := ⟨_, rfl⟩
 have hkl : ks.length = K := by rw [hks, kindsL_len, hK]
 have HOL : Hid (orbL m T = orbS ks K (List.replicate m 0)) := Lib.hid (by unfold orbL; rw [hks, hK])
 have hK14 : K ≤ 14 := by rw [hK]; exact Nat.le_trans (kN_le T) hn
 rw [← hks] at HKS HOK
 rw [← hK]
 have HAI : Hid (∀ i j, i < K → j < K → alikeK (kAt ks j) (kAt ks i) = true → (kAt ks j).M = (kAt ks i).M) := Lib.hid fun i j _ _ h => (alike_eq.1 h).1
 have HKL := Lib.hid hkl
 clear hb hk HKI p0 p1 hks hK hkl K1A
 have hmkI : ∀ wx : World, (Instr.makeSlice 25 (.int .i64 (m : Int)) (.int .i64 (m : Int))).run Tryz.prog wx = .ok (.slice (some ⟨wx.heap.size, 0, none⟩) m m) (wx.alloc (.cells (intsA (List.replicate m 0)) 3)) := fun wx => by
  have := run_make_rowN (P := Tryz.prog) 25 3 i0 _ Tryz.underlying25 hi0 hz0 .i64 .i64 m m (Nat.le_refl _) (by rw [hz2]; omega) (by omega) wx
  rw [hz1, madeI1] at this
  exact this
 have p0 : w1.cell? ⟨b1, 0, none⟩ = some (.int .i64 (m : Int)) := K11.out.cell 0
 go_upto_region 5 with (fail)
 obtain ⟨w2, hw2⟩ : ∃ U, U = w1.alloc (.cells (intsA (List.replicate m 0)) 3) := ⟨_, rfl⟩
 have KG2 : Hid (Blk w2 w1.heap.size 3 (intsA (List.replicate m 0))) := by subst hw2; exact Lib.hid (Blk.new _ _ _)
 have H12 : Hid (Below w1.heap.size w1 w2) := by subst hw2; exact Lib.hid (bw_alloc (Below.refl _ _) _)
 rw [← hw2]
 obtain ⟨g, hg⟩ : ∃ b, b = w1.heap.size := ⟨_, rfl⟩
 have HGg : Hid (w1.heap.size ≤ g) := Lib.hid (by omega)
 rw [← hg] at KG2
 simp only [← hg]
 clear hw2 hg hmkI p0
 go_wp2_with fail
 go_loopw [29] (fun iv wr => ∃ i : Nat, i ≤ K ∧ iv = .int .i64 (i : Int) ∧ Hid (Blk wr g 3 (intsA (orbS ks i (List.replicate m 0)))) ∧ Hid (Below w1.heap.size w1 wr)) (fun iv _ => K - (intOf iv).toNat)
 case atStart => exact ⟨0, by omega, rfl, KG2, H12⟩
 case round =>
  clear KG2 H12
  obtain ⟨i, hiK, rfl, KGr, HBr⟩ := hrel
  obtain ⟨wE, hwE⟩ : ∃ wE : World, wE = wr := ⟨_, rfl⟩
  rw [← hwE] at KGr HBr ⊢
  clear hwE
  by_cases hii : i < K
  · have hiI : (i : Int) < (K : Int) := by omega
    obtain ⟨gk, At, Aw, ct, cw, ki, hA, hki, y0, y1, y2, hlr, hway⟩ := HKS.out.at_ (i := i) (by rw [HKL.out]; exact hii)
    have hkim := List.mem_of_getElem? hki
    have hkat : kAt ks i = ki := kAt_some hki
    obtain ⟨V, hV⟩ : ∃ V, V = plW ks i := ⟨_, rfl⟩
    have hVm : V ∈ ki.ws ∧ ki.ws.getD 0 [] = V := by
     have h1 := HOK.out.pos ki hkim
     have h2 : ki.ws.getD 0 [] = V := by rw [hV]; unfold plW; rw [hkat]
     refine ⟨?_, h2⟩
     rw [← h2]
     cases hw : ki.ws with
     | nil => exact absurd hw h1
     | cons x l => simp
    obtain ⟨hVl, hVb⟩ := HOK.out.way ki hkim V hVm.1
    have hwp : 0 < ki.ws.length := List.length_pos_of_mem hVm.1
    obtain ⟨gw, Av, cv', hAw, hvc, hvr⟩ := hway.at_ (k := 0) hwp
    rw [hVm.2] at hvc hvr
    obtain ⟨nL, hnL⟩ : ∃ n, n = ki.L.length := ⟨_, rfl⟩
    obtain ⟨nW, hnW⟩ : ∃ n, n = ki.ws.length := ⟨_, rfl⟩
    obtain ⟨nV, hnV⟩ : ∃ n, n = V.length := ⟨_, rfl⟩
    rw [← hnL] at y1
    rw [← hnW] at y2 hwp
    rw [← hnV] at hvc
    have hnV1 : nV ≤ 1000000 := by have := (HOK.out.short ki hkim).2.2; omega
    have hnL1 : nL ≤ 1000 := by rw [hnL]; exact (HOK.out.short ki hkim).1
    have hwpI : (0 : Int) < (nW : Int) := by omega
    have HVB : Hid (∀ n, n < nV → ∃ v : Nat, V.getD n 0 = (v : Int) ∧ v < m) := Lib.hid fun n hn => by
     have hl : n < V.length := by omega
     have hb := hVb V[n] (List.getElem_mem hl)
     refine ⟨V[n].toNat, ?_, by omega⟩
     rw [List.getD_eq_getElem?_getD, List.getElem?_eq_getElem hl, Option.getD_some]
     omega
    have HVR := Lib.hid hvr
    have HNV := Lib.hid hnV
    have HKI := Lib.hid hki
    have HKM := Lib.hid hkim
    have HKA := Lib.hid hkat
    have HNL := Lib.hid hnL
    have HVS := Lib.hid hV
    have HVL := Lib.hid hVl
    have HLR := Lib.hid hlr
    obtain ⟨kM, hkM⟩ : ∃ x, x = ki.M := ⟨_, rfl⟩
    rw [← hkM] at y0
    have HMM := Lib.hid hkM
    obtain ⟨O0, hO0⟩ : ∃ O, O = orbS ks i (List.replicate m 0) := ⟨_, rfl⟩
    have hOl : O0.length = m := by rw [hO0, orbS_len, List.length_replicate]
    have HOS : Hid (orbS ks (i + 1) (List.replicate m 0) = wr2 ks ki V nV (wr1 V nV O0)) := Lib.hid (by rw [orbS, ← hO0, hkat, hV, hnV, hV])
    rw [← hO0] at KGr
    have HO0 := Lib.hid hOl
    subst hA hAw
    have KC1 : Hid (CellQ w1 ⟨gk, i * 3, none⟩ (.int .i64 kM)) := Lib.hid ⟨y0, World.block_lt_of_cell? w1 _ y0⟩
    have KD1 : Hid (CellQ w1 ⟨gk, i * 3 + 1, none⟩ (.slice At nL ct)) := Lib.hid ⟨y1, World.block_lt_of_cell? w1 _ y1⟩
    have KX1 : Hid (CellQ w1 ⟨gk, i * 3 + 2, none⟩ (.slice (some ⟨gw, 0, none⟩) nW cw)) := Lib.hid ⟨y2, World.block_lt_of_cell? w1 _ y2⟩
    have KV1 : Hid (CellQ w1 ⟨gw, 0, none⟩ (.slice Av nV cv')) := Lib.hid ⟨hvc, World.block_lt_of_cell? w1 _ hvc⟩
    have z0 := (KC1.out.below HBr.out).c
    have z1 := (KD1.out.below HBr.out).c
    have z2 := (KX1.out.below HBr.out).c
    clear hki hkim hkat hV hVm hVl hVb hway hnL hnW hnV hvr hlr hkM hO0 hOl
    go_upto_region 8 with (fail)
    obtain ⟨w3, hw3⟩ : ∃ U, U = wE.alloc (.cells #[.int .i64 kM, .slice At nL ct, .slice (some ⟨gw, 0, none⟩) nW cw] 91) := ⟨_, rfl⟩
    have K83 : Hid (Blk w3 wE.heap.size 91 #[.int .i64 kM, .slice At nL ct, .slice (some ⟨gw, 0, none⟩) nW cw]) := by subst hw3; exact Lib.hid (Blk.new _ _ _)
    have KG3 : Hid (Blk w3 g 3 (intsA (wr1 V 0 O0))) := by subst hw3; exact Lib.hid (KGr.out.alloc _)
    have H13 : Hid (Below w1.heap.size w1 w3) := by subst hw3; exact Lib.hid (bw_alloc HBr.out _)
    rw [← hw3]
    obtain ⟨b8, hb8⟩ : ∃ b, b = wE.heap.size := ⟨_, rfl⟩
    rw [← hb8] at K83
    simp only [← hb8]
    have H8G : Hid (b8 ≠ g) := Lib.hid (K83.out.ne_ KG3.out (by decide))
    clear hw3 hb8 KGr HBr y0 y1 y2 hvc z0 z1 z2
    have k82 : w3.cell? ⟨b8, 2, none⟩ = some (.slice (some ⟨gw, 0, none⟩) nW cw) := K83.out.cell 2
    have kv3 := (KV1.out.below H13.out).c
    go_wp2_with fail
    go_loopw [39] (fun nv wr => ∃ n : Nat, n ≤ nV ∧ nv = .int .i64 (n : Int) ∧ Hid (Blk wr b8 91 #[.int .i64 kM, .slice At nL ct, .slice (some ⟨gw, 0, none⟩) nW cw]) ∧ Hid (Blk wr g 3 (intsA (wr1 V n O0))) ∧ Hid (Below w1.heap.size w1 wr)) (fun nv _ => nV - (intOf nv).toNat)
    case atStart => exact ⟨0, by omega, rfl, K83, KG3, H13⟩
    case round =>
     clear K83 KG3 H13 k82 kv3
     obtain ⟨n, hnn, rfl, K8r, KGr, HBr⟩ := hrel
     obtain ⟨wF, hwF⟩ : ∃ wF : World, wF = wr := ⟨_, rfl⟩
     rw [← hwF] at K8r KGr HBr ⊢
     clear hwF
     by_cases hnl : n < nV
     · have hnI : (n : Int) < (nV : Int) := by omega
       obtain ⟨v, hv, hvm⟩ := HVB.out n hnl
       have hvI : (v : Int) < (m : Int) := by omega
       obtain ⟨av, hAv, c1⟩ := (HVR.out.below HBr.out).cellQ (k := n) (x := (v : Int)) (by rw [← hv, List.getD_eq_getElem?_getD, List.getElem?_eq_getElem (show n < V.length by have := HNV.out; omega)]; rfl)
       have d1 := c1.c
       have f0 := KGr.out.frozen v
       have hwl : (wr1 V n O0).length = m := by rw [wr1_len, HO0.out]
       have c0 : wF.cell? ⟨g, v, none⟩ = some (.int .i64 ((wr1 V n O0).getD v 0)) := by rw [KGr.out.cell v]; exact intsO_at (by rw [hwl]; exact hvm)
       have KG5 : Hid (Blk (wF.setCell ⟨g, v, none⟩ (.int .i64 (v : Int))) g 3 (intsA (wr1 V (n + 1) O0))) := Lib.hid (by
        have := KGr.out.set_ v (.int .i64 (v : Int))
        rw [intsO_set] at this
        rw [wr1, hv, Int.toNat_natCast]
        exact this)
       have K85 : Hid (Blk (wF.setCell ⟨g, v, none⟩ (.int .i64 (v : Int))) b8 91 #[.int .i64 kM, .slice At nL ct, .slice (some ⟨gw, 0, none⟩) nW cw]) := Lib.hid (K8r.out.far (p := ⟨g, v, none⟩) H8G.out _)
       have H15 : Hid (Below w1.heap.size w1 (wF.setCell ⟨g, v, none⟩ (.int .i64 (v : Int)))) := Lib.hid (bw_set HBr.out HGg.out _)
       subst hAv
       clear c1 hv hwl KGr K8r HBr
       go_wp2_with fail
       go_roundw
       case rel => exact ⟨n + 1, by omega, by go_num, K85, KG5, H15⟩
       case measure => simp [intOf]; omega
     · obtain rfl : n = nV := by omega
       have hnI : ¬ (n : Int) < (n : Int) := by omega
       obtain ⟨O1, hO1⟩ : ∃ O, O = wr1 V n O0 := ⟨_, rfl⟩
       have hO1l : O1.length = m := by rw [hO1, wr1_len, HO0.out]
       rw [← hO1] at KGr HOS
       have HO1 := Lib.hid hO1l
       have k82 : wF.cell? ⟨b8, 2, none⟩ = some (.slice (some ⟨gw, 0, none⟩) nW cw) := K8r.out.cell 2
       have kv3 := (KV1.out.below HBr.out).c
       clear hO1 hO1l
       go_wp2_with fail
       go_loopw [53] (fun nv wr => ∃ k : Nat, k ≤ n ∧ nv = .int .i64 (k : Int) ∧ Hid (Blk wr g 3 (intsA (wr2 ks ki V k O1))) ∧ Hid (Below w1.heap.size w1 wr)) (fun nv _ => n - (intOf nv).toNat)
       case atStart => exact ⟨0, by omega, rfl, KGr, HBr⟩
       case round =>
        clear K8r KGr HBr k82 kv3
        obtain ⟨k, hkn, rfl, KGr, HBr⟩ := hrel
        obtain ⟨wG, hwG⟩ : ∃ wG : World, wG = wr := ⟨_, rfl⟩
        rw [← hwG] at KGr HBr ⊢
        clear hwG
        by_cases hkl : k < n
        · have hkI : (k : Int) < (n : Int) := by omega
          obtain ⟨v, hv, hvm⟩ := HVB.out k hkl
          have hvI : (v : Int) < (m : Int) := by omega
          obtain ⟨av, hAv, c1⟩ := (HVR.out.below HBr.out).cellQ (k := k) (x := (v : Int)) (by rw [← hv, List.getD_eq_getElem?_getD, List.getElem?_eq_getElem (show k < V.length by have := HNV.out; omega)]; rfl)
          have d1 := c1.c
          obtain ⟨O2, hO2⟩ : ∃ O, O = wr2 ks ki V k O1 := ⟨_, rfl⟩
          have hO2l : O2.length = m := by rw [hO2, wr2_len, HO1.out]
          obtain ⟨x0, hx0⟩ : ∃ x, x = O2.getD v 0 := ⟨_, rfl⟩
          have HW2 : Hid (wr2 ks ki V (k + 1) O1 = O2.set v (kMin k ki ks x0)) := Lib.hid (by rw [wr2, ← hO2, hv, Int.toNat_natCast, hx0])
          rw [← hO2] at KGr
          have KG0 : Hid (Blk wG g 3 (intsA (O2.set v (kMin k ki (ks.take 0) x0)))) := Lib.hid (by
           have : kMin k ki (ks.take 0) x0 = x0 := rfl
           rw [this, hx0, set_same47 (by rw [hO2l]; exact hvm)]
           exact KGr.out)
          have HO2 := Lib.hid hO2l
          have HBG := HBr
          subst hAv
          clear c1 hv hO2 hO2l hx0 KGr HBr
          go_wp2_with fail
          go_loopw [60] (fun qv wr => ∃ q : Nat, q ≤ K ∧ qv = .int .i64 (q : Int) ∧ Hid (Blk wr g 3 (intsA (O2.set v (kMin k ki (ks.take q) x0)))) ∧ Hid (Below w1.heap.size w1 wr)) (fun qv _ => K - (intOf qv).toNat)
          case atStart => exact ⟨0, by omega, rfl, KG0, HBG⟩
          case round =>
           clear KG0 HBG d1
           obtain ⟨q, hqK, rfl, KGr, HBr⟩ := hrel
           obtain ⟨wH, hwH⟩ : ∃ wH : World, wH = wr := ⟨_, rfl⟩
           rw [← hwH] at KGr HBr ⊢
           clear hwH
           by_cases hqq : q < K
           · have hqI : (q : Int) < (K : Int) := by omega
             obtain ⟨gk', Bt, Bw, dt, dw, kq, hA', hkq, u0, u1, u2, hlr', hway'⟩ := HKS.out.at_ (i := q) (by rw [HKL.out]; exact hqq)
             obtain rfl : gk = gk' := by injection hA' with h; injection h
             have hkqm := List.mem_of_getElem? hkq
             obtain ⟨nQ, hnQ⟩ : ∃ n, n = kq.L.length := ⟨_, rfl⟩
             obtain ⟨nZ, hnZ⟩ : ∃ n, n = kq.ws.length := ⟨_, rfl⟩
             rw [← hnQ] at u1
             rw [← hnZ] at u2
             have hnQ1 : nQ ≤ 1000 := by rw [hnQ]; exact (HOK.out.short kq hkqm).1
             have hnZ1 : nZ ≤ 1000000 := by rw [hnZ]; exact (HOK.out.short kq hkqm).2.1
             obtain ⟨kN', hkN'⟩ : ∃ x, x = kq.M := ⟨_, rfl⟩
             rw [← hkN'] at u0
             have s0 := (CellQ.below (w := w1) ⟨u0, World.block_lt_of_cell? w1 _ u0⟩ HBr.out).c
             have s1 := (CellQ.below (w := w1) ⟨u1, World.block_lt_of_cell? w1 _ u1⟩ HBr.out).c
             have s2 := (CellQ.below (w := w1) ⟨u2, World.block_lt_of_cell? w1 _ u2⟩ HBr.out).c
             have HSM : Hid (∀ W', Below w1.heap.size w1 W' → Calls Tryz.prog 29 #[.agg #[.int .i64 kN', .slice Bt nQ dt], .agg #[.int .i64 kM, .slice At nL ct]] W' (BoolPost W' (alikeK kq ki))) := Lib.hid fun W' hW' => by
              have h1 := soupSame_dec kN' kM kq.L ki.L Bt At nQ nL dt ct W' (by omega) (by omega) (by rw [hnQ]; exact LRow.tris (LRow.below hlr' hW')) (by rw [HNL.out]; exact LRow.tris (LRow.below HLR.out hW'))
              rw [hkN', HMM.out] at h1 ⊢
              exact h1
             have HKQ := Lib.hid hkq
             have HZ := Lib.hid hnZ
             have HWY := Lib.hid hway'
             have HWL : Hid (alikeK kq ki = true → ∀ w ∈ kq.ws, w.length = n) := Lib.hid fun h w hw => by
              have h1 := (HOK.out.way kq hkqm w hw).1
              have h2 := HVL.out
              have h3 := HNV.out
              have h4 := (alike_eq.1 h).1
              omega
             clear hA' hkqm hnQ hnZ hkN' hlr' hway' hkq u0 u1 u2
             go_upto_region 19 with (fail)
             obtain ⟨wI, hwI⟩ : ∃ U, U = wH.alloc (.cells #[.int .i64 kN', .slice Bt nQ dt, .slice Bw nZ dw] 91) := ⟨_, rfl⟩
             have KOwI : Hid (Blk wI wH.heap.size 91 #[.int .i64 kN', .slice Bt nQ dt, .slice Bw nZ dw]) := by subst hwI; exact Lib.hid (Blk.new _ _ _)
             have KGwI : Hid (Blk wI g 3 (intsA (O2.set v (kMin k ki (ks.take q) x0)))) := by subst hwI; exact Lib.hid (KGr.out.alloc _)
             have HBwI : Hid (Below w1.heap.size w1 wI) := by subst hwI; exact Lib.hid (bw_alloc HBr.out _)
             rw [← hwI]
             obtain ⟨bo, hbo⟩ : ∃ b, b = wH.heap.size := ⟨_, rfl⟩
             rw [← hbo] at KOwI
             simp only [← hbo]
             have HOG : Hid (bo ≠ g) := Lib.hid (KOwI.out.ne_ KGwI.out (by decide))
             have KCwI : Hid (CellQ wI ⟨gk, i * 3, none⟩ (.int .i64 kM)) := Lib.hid (KC1.out.below HBwI.out)
             have KDwI : Hid (CellQ wI ⟨gk, i * 3 + 1, none⟩ (.slice At nL ct)) := Lib.hid (KD1.out.below HBwI.out)
             clear hwI hbo KGr HBr s0 s1 s2
             cases hal : alikeK kq ki with
             | false =>
              rw [hal] at HSM
              have HKN : Hid (kMin k ki (ks.take (q + 1)) x0 = kMin k ki (ks.take q) x0) := Lib.hid (kMin_no HKQ.out hal)
              clear hal
              refine wp_region_held_drew (S := fun w' => w'.cell? ⟨bo, 0, none⟩ = some (.int .i64 kN') ∧ w'.cell? ⟨bo, 1, none⟩ = some (.slice Bt nQ dt) ∧ w'.cell? ⟨gk, i * 3, none⟩ = some (.int .i64 kM) ∧ w'.cell? ⟨gk, i * 3 + 1, none⟩ = some (.slice At nL ct)) (by kernel_rfl) ⟨(KOwI.out.drew.cell 0), (KOwI.out.drew.cell 1), (KCwI.out.drew.c), (KDwI.out.drew.c)⟩ (fun hHeld => ?_)
              refine hKk 0 (v := ?v1) ?y1 ?r1
              case y1 => (intro w h; (try dsimp only at h); go_simp; try with_reducible rfl)
              (try simp only [Act.put, zQ1, zQ2, zQ3])
              refine hKk 1 (v := ?v2) ?y2 ?r2
              case y2 => (intro w h; (try dsimp only at h); go_simp; try with_reducible rfl)
              (try simp only [Act.put, zQ1, zQ2, zQ3])
              refine hKk 2 (v := ?v3) ?y3 ?r3
              case y3 => (intro w h; (try dsimp only at h); go_simp; try with_reducible rfl)
              (try simp only [Act.put, zQ1, zQ2, zQ3])
              refine hKk 3 (v := ?v4) ?y4 ?r4
              case y4 => (intro w h; (try dsimp only at h); go_simp; try with_reducible rfl)
              (try simp only [Act.put, zQ1, zQ2, zQ3])
              refine hKk 4 (v := ?v5) ?y5 ?r5
              case y5 => (intro w h; (try dsimp only at h); go_simp; try with_reducible rfl)
              (try simp only [Act.put, zQ1, zQ2, zQ3])
              refine hKk 5 (v := ?v6) ?y6 ?r6
              case y6 => (intro w h; (try dsimp only at h); go_simp; try with_reducible rfl)
              (try simp only [Act.put, zQ1, zQ2, zQ3])
              refine hKk 6 (v := ?v7) ?y7 ?r7
              case y7 => (intro w h; (try dsimp only at h); go_simp; try with_reducible rfl)
              (try simp only [Act.put, zQ1, zQ2, zQ3])
              refine wpAnyH_ready (rs := [7]) (by kernel_rfl) (by simp) ?_
              refine held_cons rfl (fun K hK => ?_) ?_
              · go_simp
                go_wp2_with (go_at_call 29; refine (HSM.out wI.drew (bw_drew HBwI.out)).mono ?_; rintro e v3 ⟨rfl, hb⟩)
                have KOv3 := Lib.hid (blk_call KOwI.out.drew hb)
                have KCv3 := Lib.hid (KCwI.out.drew.below hb)
                have KDv3 := Lib.hid (KDwI.out.drew.below hb)
                have KGv3 := Lib.hid (blk_call KGwI.out.drew hb)
                have HBv3 := Lib.hid (bw_call (bw_drew HBwI.out) hb)
                clear hb
                refine hK.out _ _ ?_ (fun hHeld => ?_)
                · exact ⟨(KOv3.out.cell 0), (KOv3.out.cell 1), (KCv3.out.c), (KDv3.out.c)⟩
                clear hK K
                (try simp only [Act.put, zQ1, zQ2, zQ3])
                refine hKk 8 (v := ?v8) ?y8 ?r8
                case y8 => (intro w h; (try dsimp only at h); go_simp; try with_reducible rfl)
                (try simp only [Act.put, zQ1, zQ2, zQ3])
                refine wpAnyH_done (by kernel_rfl) ?_ _
                have KGn : Hid (Blk v3 g 3 (intsA (O2.set v (kMin k ki (ks.take (q + 1)) x0)))) := Lib.hid (by rw [HKN.out]; exact KGv3.out)
                have HBn := HBv3
                go_wp2_with fail
                go_roundw
                case rel => exact ⟨q + 1, by omega, by go_num, KGn, HBn⟩
                case measure => simp [intOf]; omega
              exact AllReadyH.nil
             | true =>
              rw [hal] at HSM
              have HKN : Hid (kMin k ki (ks.take (q + 1)) x0 = wMin k kq.ws (kMin k ki (ks.take q) x0)) := Lib.hid (kMin_yes HKQ.out hal)
              have HWN := Lib.hid (HWL.out hal)
              clear hal
              refine wp_region_held_drew (S := fun w' => w'.cell? ⟨bo, 0, none⟩ = some (.int .i64 kN') ∧ w'.cell? ⟨bo, 1, none⟩ = some (.slice Bt nQ dt) ∧ w'.cell? ⟨gk, i * 3, none⟩ = some (.int .i64 kM) ∧ w'.cell? ⟨gk, i * 3 + 1, none⟩ = some (.slice At nL ct)) (by kernel_rfl) ⟨(KOwI.out.drew.cell 0), (KOwI.out.drew.cell 1), (KCwI.out.drew.c), (KDwI.out.drew.c)⟩ (fun hHeld => ?_)
              refine hKk 0 (v := ?v9) ?y9 ?r9
              case y9 => (intro w h; (try dsimp only at h); go_simp; try with_reducible rfl)
              (try simp only [Act.put, zQ1, zQ2, zQ3])
              refine hKk 1 (v := ?v10) ?y10 ?r10
              case y10 => (intro w h; (try dsimp only at h); go_simp; try with_reducible rfl)
              (try simp only [Act.put, zQ1, zQ2, zQ3])
              refine hKk 2 (v := ?v11) ?y11 ?r11
              case y11 => (intro w h; (try dsimp only at h); go_simp; try with_reducible rfl)
              (try simp only [Act.put, zQ1, zQ2, zQ3])
              refine hKk 3 (v := ?v12) ?y12 ?r12
              case y12 => (intro w h; (try dsimp only at h); go_simp; try with_reducible rfl)
              (try simp only [Act.put, zQ1, zQ2, zQ3])
              refine hKk 4 (v := ?v13) ?y13 ?r13
              case y13 => (intro w h; (try dsimp only at h); go_simp; try with_reducible rfl)
              (try simp only [Act.put, zQ1, zQ2, zQ3])
              refine hKk 5 (v := ?v14) ?y14 ?r14
              case y14 => (intro w h; (try dsimp only at h); go_simp; try with_reducible rfl)
              (try simp only [Act.put, zQ1, zQ2, zQ3])
              refine hKk 6 (v := ?v15) ?y15 ?r15
              case y15 => (intro w h; (try dsimp only at h); go_simp; try with_reducible rfl)
              (try simp only [Act.put, zQ1, zQ2, zQ3])
              refine wpAnyH_ready (rs := [7]) (by kernel_rfl) (by simp) ?_
              refine held_cons rfl (fun K hK => ?_) ?_
              · go_simp
                go_wp2_with (go_at_call 29; refine (HSM.out wI.drew (bw_drew HBwI.out)).mono ?_; rintro e v13 ⟨rfl, hb⟩)
                have KOv13 := Lib.hid (blk_call KOwI.out.drew hb)
                have KCv13 := Lib.hid (KCwI.out.drew.below hb)
                have KDv13 := Lib.hid (KDwI.out.drew.below hb)
                have KGv13 := Lib.hid (blk_call KGwI.out.drew hb)
                have HBv13 := Lib.hid (bw_call (bw_drew HBwI.out) hb)
                clear hb
                refine hK.out _ _ ?_ (fun hHeld => ?_)
                · exact ⟨(KOv13.out.cell 0), (KOv13.out.cell 1), (KCv13.out.c), (KDv13.out.c)⟩
                clear hK K
                (try simp only [Act.put, zQ1, zQ2, zQ3])
                refine hKk 8 (v := ?v16) ?y16 ?r16
                case y16 => (intro w h; (try dsimp only at h); go_simp; try with_reducible rfl)
                (try simp only [Act.put, zQ1, zQ2, zQ3])
                refine wpAnyH_done (by kernel_rfl) ?_ _
                have KGn := KGv13
                have KOn := KOv13
                have HBn := HBv13
                obtain ⟨wJ, hwJ⟩ : ∃ X, X = v13 := ⟨_, rfl⟩
                rw [← hwJ] at KGn KOn HBn ⊢
                clear hwJ
                obtain ⟨yv, hyv⟩ : ∃ y, y = kMin k ki (ks.take q) x0 := ⟨_, rfl⟩
                rw [← hyv] at KGn HKN
                have KG0 : Hid (Blk wJ g 3 (intsA (O2.set v (wMin k (kq.ws.take 0) yv)))) := KGn
                have o2 : wJ.cell? ⟨bo, 2, none⟩ = some (.slice Bw nZ dw) := KOn.out.cell 2
                clear hyv
                go_wp2_with fail
                go_loopw [76] (fun pv wr => ∃ p : Nat, p ≤ nZ ∧ pv = .int .i64 (p : Int) ∧ Hid (Blk wr g 3 (intsA (O2.set v (wMin k (kq.ws.take p) yv)))) ∧ Hid (Below w1.heap.size w1 wr)) (fun pv _ => nZ - (intOf pv).toNat)
                case atStart => exact ⟨0, by omega, rfl, KG0, HBn⟩
                case round =>
                 clear KG0 KGn KOn HBn o2
                 obtain ⟨p, hpZ, rfl, KGr, HBr⟩ := hrel
                 obtain ⟨wK, hwK⟩ : ∃ X, X = wr := ⟨_, rfl⟩
                 rw [← hwK] at KGr HBr ⊢
                 clear hwK
                 by_cases hpp : p < nZ
                 · have hpI : (p : Int) < (nZ : Int) := by omega
                   obtain ⟨gz, Az, cz, hBw, hzc, hzr⟩ := (HWY.out.below HBr.out).at_ (k := p) (by rw [← HZ.out]; exact hpp)
                   obtain ⟨wy, hwy⟩ : ∃ w, w = kq.ws.getD p [] := ⟨_, rfl⟩
                   rw [← hwy] at hzc hzr
                   have hpl : p < kq.ws.length := by rw [← HZ.out]; exact hpp
                   have hws : kq.ws[p]? = some wy := by rw [hwy, List.getD_eq_getElem?_getD, List.getElem?_eq_getElem hpl]; rfl
                   have hwl : wy.length = n := HWN.out wy (List.mem_of_getElem? hws)
                   rw [hwl] at hzc
                   obtain ⟨az, hAz, c2⟩ := hzr.cellQ (k := k) (x := wy.getD k 0) (by rw [List.getD_eq_getElem?_getD, List.getElem?_eq_getElem (by omega)]; rfl)
                   obtain ⟨x, hx⟩ : ∃ x, x = wy.getD k 0 := ⟨_, rfl⟩
                   rw [← hx] at c2
                   obtain ⟨z, hz⟩ : ∃ z, z = wMin k (kq.ws.take p) yv := ⟨_, rfl⟩
                   have HWX : Hid (wMin k (kq.ws.take (p + 1)) yv = min z x) := Lib.hid (by rw [wMin_succ hws, hz, hx])
                   rw [← hz] at KGr
                   have f0 := KGr.out.frozen v
                   have c0 : wK.cell? ⟨g, v, none⟩ = some (.int .i64 z) := by
                    rw [KGr.out.cell v, intsO_at (by rw [List.length_set, HO2.out]; exact hvm), getD_set47 (by rw [HO2.out]; exact hvm)]
                   have KG9 : Hid (Blk (wK.setCell ⟨g, v, none⟩ (.int .i64 (min z x))).drew g 3 (intsA (O2.set v (wMin k (kq.ws.take (p + 1)) yv)))) := Lib.hid (by
                    have := KGr.out.set_ v (.int .i64 (min z x))
                    rw [intsO_set, set_set47] at this
                    rw [HWX.out]
                    exact this.drew)
                   have HB9 : Hid (Below w1.heap.size w1 (wK.setCell ⟨g, v, none⟩ (.int .i64 (min z x))).drew) := Lib.hid (bw_drew (bw_set HBr.out HGg.out _))
                   have CGwK : Hid (CellQ wK ⟨g, v, none⟩ (.int .i64 z)) := Lib.hid ⟨c0, KGr.out.lt⟩
                   have CZwK := Lib.hid c2
                   have HBwK := HBr
                   subst hBw hAz
                   clear hwy hws hwl hx hz c0 c2 hzr KGr HBr hpl
                   go_upto_region 23 with (fail)
                   refine wp_region_till (S := fun w' => w'.cell? ⟨g, v, none⟩ = some (.int .i64 z) ∧ w'.cell? (az.add k) = some (.int .i64 x)) 12 (by kernel_rfl) ⟨(CGwK.out.drew.c), (CZwK.out.drew.c)⟩ (fun hHeld => ?_)
                   refine tKk 0 (v := ?vt1) ?ht1 ?rt1
                   case ht1 => (intro w h; (try dsimp only at h); go_simp; try with_reducible rfl)
                   (try simp only [Act.put, zQ1, zQ2, zQ3])
                   refine tKk 1 (v := ?vt2) ?ht2 ?rt2
                   case ht2 => (intro w h; (try dsimp only at h); go_simp; try with_reducible rfl)
                   (try simp only [Act.put, zQ1, zQ2, zQ3])
                   refine tKk 2 (v := ?vt3) ?ht3 ?rt3
                   case ht3 => (intro w h; (try dsimp only at h); go_simp; try with_reducible rfl)
                   (try simp only [Act.put, zQ1, zQ2, zQ3])
                   refine tKk 3 (v := ?vt4) ?ht4 ?rt4
                   case ht4 => (intro w h; (try dsimp only at h); go_simp; try with_reducible rfl)
                   (try simp only [Act.put, zQ1, zQ2, zQ3])
                   refine tKk 4 (v := ?vt5) ?ht5 ?rt5
                   case ht5 => (intro w h; (try dsimp only at h); go_simp; try with_reducible rfl)
                   (try simp only [Act.put, zQ1, zQ2, zQ3])
                   refine tKk 5 (v := ?vt6) ?ht6 ?rt6
                   case ht6 => (intro w h; (try dsimp only at h); go_simp; try with_reducible rfl)
                   (try simp only [Act.put, zQ1, zQ2, zQ3])
                   refine tKk 6 (v := ?vt7) ?ht7 ?rt7
                   case ht7 => (intro w h; (try dsimp only at h); go_simp; try with_reducible rfl)
                   (try simp only [Act.put, zQ1, zQ2, zQ3])
                   refine tKk 7 (v := ?vt8) ?ht8 ?rt8
                   case ht8 => (intro w h; (try dsimp only at h); go_simp; try with_reducible rfl)
                   (try simp only [Act.put, zQ1, zQ2, zQ3])
                   refine tKk 8 (v := ?vt9) ?ht9 ?rt9
                   case ht9 => (intro w h; (try dsimp only at h); go_simp; try with_reducible rfl)
                   (try simp only [Act.put, zQ1, zQ2, zQ3])
                   refine tKk 9 (v := ?vt10) ?ht10 ?rt10
                   case ht10 => (intro w h; (try dsimp only at h); go_simp; try with_reducible rfl)
                   (try simp only [Act.put, zQ1, zQ2, zQ3])
                   refine tKk 10 (v := ?vt11) ?ht11 ?rt11
                   case ht11 => (intro w h; (try dsimp only at h); go_simp; try with_reducible rfl)
                   (try simp only [Act.put, zQ1, zQ2, zQ3])
                   refine tKk 11 (v := ?vt12) ?ht12 ?rt12
                   case ht12 => (intro w h; (try dsimp only at h); go_simp; try with_reducible rfl)
                   (try simp only [Act.put, zQ1, zQ2, zQ3])
                   refine Till.ready (rs := [12]) (by kernel_rfl) (by simp) ?_
                   refine TillEach.last rfl (fun K hK => ?_)
                   · go_simp
                     refine hK.out _ _ ?_
                     clear hK K
                     (try simp only [Act.put, zQ1, zQ2, zQ3])
                     refine Till.done (by kernel_rfl) ?_ _
                     go_wp2_with fail
                     go_roundw
                     case rel => exact ⟨p + 1, by omega, by go_num, KG9, HB9⟩
                     case measure => simp [intOf]; omega
                 · obtain rfl : p = nZ := by omega
                   have hpI : ¬ (p : Int) < (p : Int) := by omega
                   have KGm : Hid (Blk wK g 3 (intsA (O2.set v (kMin k ki (ks.take (q + 1)) x0)))) := Lib.hid (by
                    rw [HKN.out]
                    have := KGr.out
                    rw [List.take_of_length_le (by rw [← HZ.out]; exact Nat.le_refl _)] at this
                    exact this)
                   go_wp2_with fail
                   go_roundw
                   case rel => exact ⟨q + 1, by omega, by go_num, KGm, HBr⟩
                   case measure => simp [intOf]; omega
              exact AllReadyH.nil
           · obtain rfl : q = K := by omega
             have hqI : ¬ (q : Int) < (q : Int) := by omega
             have KGn : Hid (Blk wH g 3 (intsA (wr2 ks ki V (k + 1) O1))) := Lib.hid (by
              rw [HW2.out]
              have := KGr.out
              rw [List.take_of_length_le (by rw [HKL.out]; exact Nat.le_refl _)] at this
              exact this)
             go_wp2_with fail
             go_roundw
             case rel => exact ⟨k + 1, by omega, by go_num, KGn, HBr⟩
             case measure => simp [intOf]; omega
        · obtain rfl : k = n := by omega
          have hkI : ¬ (k : Int) < (k : Int) := by omega
          have KGn : Hid (Blk wG g 3 (intsA (orbS ks (i + 1) (List.replicate m 0)))) := Lib.hid (by rw [HOS.out]; exact KGr.out)
          go_wp2_with fail
          go_roundw
          case rel => exact ⟨i + 1, by omega, by go_num, KGn, HBr⟩
          case measure => simp [intOf]; omega
  · obtain rfl : i = K := by omega
    have hiI : ¬ (i : Int) < (i : Int) := by omega
    have hol : (orbL m T).length = m := orb_len m T
    have KGn : Hid (Blk wE g 3 (intsA (orbL m T))) := Lib.hid (by rw [HOL.out]; exact KGr.out)
    have HLE : Hid (w.heap.size ≤ g) := Lib.hid (Nat.le_trans HB1.out.size HGg.out)
    have HBE : Hid (Below w.heap.size w wE) := Lib.hid (bw_call HB1.out HBr.out)
    go_wp2_with fail
    refine bodyPost_ret (v := .tuple #[.slice (some ⟨g, 0, none⟩) m m, .int .i64 0]) ?_ rfl ⟨g, by rw [hol], KGn.out, HLE.out, HBE.out⟩
    simp [results, Tryz.results34, go_sem]
end Go.Proofs.YtiajlmajenabiaaGreat
