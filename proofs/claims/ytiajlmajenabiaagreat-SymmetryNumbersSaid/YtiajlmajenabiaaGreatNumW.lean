/- The law SymmetryNumbers, walked: it holds. No condition. -/
import Derived.Test.YtiajlmajenabiaaGreatSymA
import Derived.Test.YtiajlmajenabiaaGreatTwoP
import Derived.Test.YtiajlmajenabiaaGreatMr47
set_option maxRecDepth 100000
set_option maxHeartbeats 16000000
set_option linter.all false
namespace Go.Proofs.YtiajlmajenabiaaGreat
open Go.RowKit
theorem join_two {m : Nat} {T : List Tri} (hs : SurfE m T) (hm : m ≤ 16) (A : Option Addr) (c : Nat) : joinL [⟨(m : Int), A, c, T⟩, ⟨(m : Int), A, c, T⟩] = (((m + m : Nat) : Int), twoT m T, 0) := by
 have hf := fit_surf hs
 have h1 : allFit [⟨(m : Int), A, c, T⟩, ⟨(m : Int), A, c, T⟩] = true := by simp [allFit, hf]
 have h0 : T.map (shT 0) = T := by
  conv => rhs; rw [← List.map_id T]
  refine List.map_congr_left fun t _ => ?_
  unfold shT
  simp
 have h2 : joinS [⟨(m : Int), A, c, T⟩, ⟨(m : Int), A, c, T⟩] = (((m + m : Nat) : Int), twoT m T) := by
  unfold joinS
  simp only [List.foldl_cons, List.foldl_nil, joinStep, Int.zero_add, List.nil_append, h0]
  refine Prod.ext (by push_cast; rfl) ?_
  rfl
 unfold joinL
 rw [h1, if_neg (by simp), h2, if_neg (by show ¬ 4096 < ((m + m : Nat) : Int); omega)]
attribute [local irreducible] Blk World.alloc World.setCell World.cell? World.frozen? MapV MapI
theorem lawNumbers_any (N : Int) (A : Option Addr) (c : Nat) (T : List Tri) (Al : Option Addr) (nl cl : Nat) (l : List Int) (w : World) (hnl : nl ≤ 9223372036854775807) (ht : TrisAt w w.heap.size A T.length T) (hl : Reads w w.heap.size 1 Al nl (ZL l)) :
  Calls Tryz.prog 4 #[.agg #[.int .i64 N, .slice A T.length c], .slice Al nl cl] w (BoolPost w true) := by
 have HT := Lib.hid ht
 have HLI := Lib.hid hl
 clear ht hl
 obtain ⟨k, hk⟩ : ∃ k, k = T.length := ⟨_, rfl⟩
 rw [← hk] at HT ⊢
 have HK := Lib.hid hk
 clear hk
 go_enter Tryz.func4, Tryz.ntmps4
 go_upto_region 1 with (fail)
 obtain ⟨wA, hwA⟩ : ∃ U, U = w.alloc (.cells #[.int .i64 N, .slice A k c] 24) := ⟨_, rfl⟩
 have K1A : Hid (Blk wA w.heap.size 24 #[.int .i64 N, .slice A k c]) := by subst hwA; exact Lib.hid (Blk.new _ _ _)
 have HBA : Hid (Below w.heap.size w wA) := by subst hwA; exact Lib.hid (bw_alloc (Below.refl _ _) _)
 rw [← hwA]
 obtain ⟨b1, hb1⟩ : ∃ b, b = w.heap.size := ⟨_, rfl⟩
 rw [← hb1] at K1A
 simp only [← hb1]
 clear hwA hb1
 have HAW := Lib.hid (awake_any wA)
 go_wp2_with fail
 refine HAW.out.mono ?_
 rintro e w1 ⟨rfl, hb⟩
 have HB1 := Lib.hid (bw_call HBA.out hb)
 have K11 := Lib.hid (K1A.out.below hb K1A.out.lt)
 clear hb HAW K1A HBA
 have p0 : w1.cell? ⟨b1, 0, none⟩ = some (.int .i64 N) := K11.out.cell 0
 have p1 : w1.cell? ⟨b1, 1, none⟩ = some (.slice A k c) := K11.out.cell 1
 have HGR := Lib.hid (great47_any N A k c w1)
 by_cases hbig : big47 N k
 · rw [if_pos hbig] at HGR
   go_wp2_with fail
   refine HGR.out.mono ?_
   rintro e w2 ⟨rfl, hb⟩
   have HB2 := Lib.hid (bw_call HB1.out hb)
   clear hb
   go_wp2_with fail
   go_ret
   exact ⟨rfl, HB2.out⟩
 rw [if_neg hbig] at HGR
 have hk14 : k ≤ 14 := by unfold big47 at hbig; omega
 have hN16 : N ≤ 16 := by unfold big47 at hbig; omega
 clear hbig
 go_wp2_with fail
 refine HGR.out.mono ?_
 rintro e w2 ⟨rfl, hb⟩
 have HB2 := Lib.hid (bw_call HB1.out hb)
 have K12 := Lib.hid (K11.out.below hb K11.out.lt)
 clear hb HGR K11 HB1 p0 p1
 have p0 : w2.cell? ⟨b1, 0, none⟩ = some (.int .i64 N) := K12.out.cell 0
 have p1 : w2.cell? ⟨b1, 1, none⟩ = some (.slice A k c) := K12.out.cell 1
 have HOR : Hid (∀ W, Below w2.heap.size w2 W → Calls Tryz.prog 21 #[.agg #[.int .i64 N, .slice A k c]] W (OrdAny W N T)) := Lib.hid fun W hW => by
  have := symOrder_any N A c T W (by have := HK.out; omega) (by rw [← HK.out]; exact tris_on (bw_call HB2.out hW) HT.out)
  rw [← HK.out] at this
  exact this
 have HMI : Hid (∀ W, Below w2.heap.size w2 W → Calls Tryz.prog 16 #[.agg #[.int .i64 N, .slice A k c]] W (SPost W N (T.map mirT))) := Lib.hid fun W hW => mirror_any N A k c T W (by omega) (tris_on (bw_call HB2.out hW) HT.out)
 have hml : (T.map mirT).length = k := by rw [List.length_map]; exact HK.out.symm
 have HOM : Hid (∀ (W : World) (Am : Option Addr) (cm : Nat), TrisAt W W.heap.size Am k (T.map mirT) → Calls Tryz.prog 21 #[.agg #[.int .i64 N, .slice Am k cm]] W (OrdAny W N (T.map mirT))) := Lib.hid fun W Am cm ht => by
  have := symOrder_any N Am cm (T.map mirT) W (by omega) (by rw [hml]; exact ht)
  rw [hml] at this
  exact this
 have HMB : Hid (∀ m' : Nat, N = (m' : Int) → SurfE m' (T.map mirT) → SurfE m' T) := Lib.hid fun m' _ h => by
  have := surf_mir h
  rwa [mir_mir] at this
 obtain ⟨M, hM⟩ : ∃ M, M = T.map mirT := ⟨_, rfl⟩
 have HMM := Lib.hid hM
 rw [← hM] at HMI HOM hml HMB
 have HML := Lib.hid hml
 clear hM hml
 have HO2 := Lib.hid (HOR.out w2 (Below.refl _ _))
 go_wp2_with fail
 refine HO2.out.mono ?_
 rintro e w3 ⟨n, er, rfl, hO, hb⟩
 have HB3 := Lib.hid hb
 have K13 := Lib.hid (K12.out.below hb K12.out.lt)
 have HM3 := Lib.hid (HMI.out w3 HB3.out)
 clear hb HO2 p0 p1
 have p0 : w3.cell? ⟨b1, 0, none⟩ = some (.int .i64 N) := K13.out.cell 0
 have p1 : w3.cell? ⟨b1, 1, none⟩ = some (.slice A k c) := K13.out.cell 1
 go_wp2_with fail
 refine HM3.out.mono ?_
 rintro e w4 ⟨Am, cm, rfl, hlm, hb⟩
 rw [HML.out]
 have HB4 := Lib.hid (bw_call HB3.out hb)
 have K14 := Lib.hid (K13.out.below hb K13.out.lt)
 have HO4 := Lib.hid (HOM.out w4 Am cm (by have := LRow.tris hlm; rw [HML.out] at this; exact this))
 clear hb HM3 p0 p1 hlm
 go_wp2_with fail
 refine HO4.out.mono ?_
 rintro e w5 ⟨n', er', rfl, hO', hb⟩
 have HB5 := Lib.hid (bw_call HB4.out hb)
 have K15 := Lib.hid (K14.out.below hb K14.out.lt)
 clear hb HO4
 cases hO with
 | no hno =>
  have her : er' = 11 := by
   cases hO' with
   | no _ => rfl
   | yes m' e hs' _ => exact absurd (by rw [e]; exact surf_chk (HMB.out m' e hs')) hno
  subst her
  clear hno hO'
  go_wp2_with fail
  go_ret
  exact ⟨rfl, bw_call HB2.out HB5.out⟩
 | yes m hN hs hcap =>
  subst hN
  have HS := Lib.hid hs
  have hq : er' = 0 ∧ n' = ((allR m T).length : Int) := by
   cases hO' with
   | no h => exact absurd (by rw [HMM.out]; exact surf_chk (surf_mir hs)) h
   | yes m' e hs' _ =>
    obtain rfl : m = m' := by omega
    refine ⟨rfl, ?_⟩
    rw [HMM.out, mir_len hs]
  obtain ⟨rfl, rfl⟩ := hq
  obtain ⟨o, ho⟩ : ∃ o, o = (allR m T).length := ⟨_, rfl⟩
  have HOO := Lib.hid ho
  rw [← ho] at hcap hO' ⊢
  have HRN : Hid (∀ W, Below w2.heap.size w2 W → Calls Tryz.prog 20 #[.agg #[.int .i64 (m : Int), .slice A k c], .slice Al nl cl] W (PickPost W (renL (m : Int) T l))) := Lib.hid fun W hW =>
   rename_any (m : Int) A k c T Al nl cl l W (by omega) hnl (tris_on (bw_call HB2.out hW) HT.out) ((HLI.out.below (bw_call HB2.out hW)).more (bw_call HB2.out hW).size)
  have HRI : Hid (((renL (m : Int) T l).2.2 ≠ 0 ∧ (renL (m : Int) T l).2.1.length ≤ 1000) ∨ (renL (m : Int) T l = ((m : Int), T.map (renU l), 0) ∧ permP (m : Int) l)) := Lib.hid (by
   by_cases hp : permP (m : Int) l
   · right
     exact ⟨renL_ok (fit_surf HS.out) hp, hp⟩
   · left
     rw [renL_form (fit_surf HS.out) hp]
     decide)
  have HHR : Hid (permP (m : Int) l → ∀ (W : World) (Am : Option Addr) (cm : Nat), TrisAt W W.heap.size Am k (T.map (renU l)) → Calls Tryz.prog 21 #[.agg #[.int .i64 (m : Int), .slice Am k cm]] W fun e w' => e = .returned (.tuple #[.int .i64 (o : Int), .int .i64 0]) ∧ Below W.heap.size W w') := Lib.hid fun hp W Am cm ht => by
   have hrl : (T.map (renU l)).length = k := by rw [List.length_map]; exact HK.out.symm
   have := symOrder_any (m : Int) Am cm (T.map (renU l)) W (by omega) (by rw [hrl]; exact ht)
   rw [hrl] at this
   refine this.mono ?_
   rintro e w' ⟨n', er, rfl, hI, hb⟩
   refine ⟨?_, hb⟩
   have hu := ren_surf47 HS.out hp
   cases hI with
   | no hno => exact absurd (surf_chk hu) hno
   | yes m' e hs' _ =>
    obtain rfl : m = m' := by omega
    rw [HOO.out, conj_len (ren_iso HS.out hp) HS.out hu (by rw [List.length_map])]
  obtain ⟨R, hR⟩ : ∃ R, R = T.map (renU l) := ⟨_, rfl⟩
  rw [← hR] at HRI HHR
  have hRl : R.length = k := by rw [hR, List.length_map]; exact HK.out.symm
  have HRL := Lib.hid hRl
  have HJN : Hid (∀ (W : World) (g : Nat), Below w2.heap.size w2 W → Blk W g 24 #[.int .i64 (m : Int), .slice A k c, .int .i64 (m : Int), .slice A k c] → Calls Tryz.prog 23 #[.slice (some ⟨g, 0, none⟩) 2 2] W fun e w' => ∃ (Aj : Option Addr) (cj : Nat), e = .returned (.tuple #[.agg #[.int .i64 ((m + m : Nat) : Int), .slice Aj (k + k) cj], .int .i64 0]) ∧ LRow w' W.heap.size Aj cj (twoT m T) ∧ Below W.heap.size W w') := Lib.hid fun W g hW hg => by
   have hS : SoupsAt W W.heap.size (some ⟨g, 0, none⟩) 2 [⟨(m : Int), A, c, T⟩, ⟨(m : Int), A, c, T⟩] := by
    refine ⟨⟨rfl, fun _ => ⟨_, rfl, hg.lt, fun j u hj => ?_⟩⟩, fun s hs => ?_⟩
    · rw [show (⟨g, 0, none⟩ : Addr).add j = ⟨g, j, none⟩ by unfold Addr.add; split <;> simp_all, hg.cell j, ← hj]
      rw [HK.out]
      show _ = [Value.int .i64 (m : Int), .slice A T.length c, .int .i64 (m : Int), .slice A T.length c][j]?
      simp
    · have : s = ⟨(m : Int), A, c, T⟩ := by simpa using hs
      rw [this]
      dsimp only
      rw [← HK.out]
      exact tris_on (bw_call HB2.out hW) HT.out
   have hj := join_two HS.out (by omega) A c
   have hll := HK.out
   have hd : ∀ k' ≤ [(⟨(m : Int), A, c, T⟩ : Sp), ⟨(m : Int), A, c, T⟩].length, (joinS (([(⟨(m : Int), A, c, T⟩ : Sp), ⟨(m : Int), A, c, T⟩]).take k')).2.length ≤ 6000 := fun k' hk' => by
    have hk2 : k' ≤ 2 := hk'
    rcases (by omega : k' = 0 ∨ k' = 1 ∨ k' = 2) with rfl | rfl | rfl
    · simp [joinS]
    · simp [joinS, joinStep]; omega
    · simp [joinS, joinStep]; omega
   have := join_any (some ⟨g, 0, none⟩) 2 2 [⟨(m : Int), A, c, T⟩, ⟨(m : Int), A, c, T⟩] W (by omega) (fun s hs => by
    have : s = ⟨(m : Int), A, c, T⟩ := by simpa using hs
    rw [this]
    show T.length ≤ 1000
    omega) hd hS
   rw [hj] at this
   refine this.mono ?_
   rintro e w' ⟨Aj, cj, rfl, hl, hb⟩
   exact ⟨Aj, cj, by dsimp only; rw [twoT_len, HK.out], hl, hb⟩
  have HOT : Hid (kN T = 1 → ∀ (W : World) (Am : Option Addr) (cm : Nat), TrisAt W W.heap.size Am (k + k) (twoT m T) → Calls Tryz.prog 21 #[.agg #[.int .i64 ((m + m : Nat) : Int), .slice Am (k + k) cm]] W fun e w' => e = .returned (.tuple #[.int .i64 (2 * (o : Int) * (o : Int)), .int .i64 0]) ∧ Below W.heap.size W w') := Lib.hid fun h1 W Am cm ht => by
   have htl : (twoT m T).length = k + k := by rw [twoT_len, HK.out]
   have hu := two_surf HS.out (by omega) (by have := HK.out; omega)
   have := symOrder_yes (m + m) Am cm (twoT m T) W (surf_chk hu) (by omega) (parts_ok hu) (by rw [htl]; exact ht)
   rw [htl, two_order HS.out h1 (by omega) (by have := HK.out; omega)] at this
   refine this.mono ?_
   rintro e w' ⟨rfl, hb⟩
   refine ⟨?_, hb⟩
   unfold ordV
   rw [← HOO.out]
   show Ending.returned (.tuple #[.int .i64 ((2 * o * o : Nat) : Int), .int .i64 0]) = _
   rw [show ((2 * o * o : Nat) : Int) = 2 * (o : Int) * (o : Int) by push_cast; rfl]
  have HDV : Hid (kN T = 1 → o ≤ 42) := Lib.hid fun h1 => by
   have := Nat.le_of_dvd (by
    have hb := (bestN_is (T := T) (k := 0) (by omega)).2.lt
    omega) (conn_div HS.out h1)
   rw [← HOO.out] at this
   have := HK.out
   omega
  have HHH : Hid (1 < 2) := Lib.hid (by omega)
  clear hs hR hRl ho hO'
  have hoo : ((o : Int) != (o : Int)) = false := by simp
  have p0 : w5.cell? ⟨b1, 0, none⟩ = some (.int .i64 (m : Int)) := K15.out.cell 0
  have p1 : w5.cell? ⟨b1, 1, none⟩ = some (.slice A k c) := K15.out.cell 1
  have HR5 := Lib.hid (HRN.out w5 HB5.out)
  go_wp2_with fail
  refine HR5.out.mono ?_
  rintro e w6 ⟨Ax, cx, rfl, hlx, hb⟩
  have HB6 := Lib.hid (bw_call HB5.out hb)
  have K16 := Lib.hid (K15.out.below hb K15.out.lt)
  clear hb HR5 p0 p1
  rcases HRI.out with ⟨hne, hrl⟩ | ⟨he, hp⟩
  · obtain ⟨er, her⟩ : ∃ er, er = (renL (m : Int) T l).2.2 := ⟨_, rfl⟩
    obtain ⟨e1, he1⟩ : ∃ x, x = (renL (m : Int) T l).1 := ⟨_, rfl⟩
    obtain ⟨e2, he2⟩ : ∃ x, x = (renL (m : Int) T l).2.1.length := ⟨_, rfl⟩
    rw [← her] at hne
    rw [← her, ← he1, ← he2]
    have hneb : (er == 0) = false := by simp [hne]
    clear hlx her he1 he2 hrl
    go_upto_region 14 with (fail)
    obtain ⟨wX, hwX⟩ : ∃ X, X = w6.alloc (.cells #[.int .i64 e1, .slice Ax e2 cx] 24) := ⟨_, rfl⟩
    have K1X : Hid (Blk wX b1 24 #[.int .i64 (m : Int), .slice A k c]) := by subst hwX; exact Lib.hid (K16.out.alloc _)
    have HBX : Hid (Below w2.heap.size w2 wX) := by subst hwX; exact Lib.hid (bw_alloc HB6.out _)
    rw [← hwX]
    clear hwX
    have p0 : wX.cell? ⟨b1, 0, none⟩ = some (.int .i64 (m : Int)) := K1X.out.cell 0
    have p1 : wX.cell? ⟨b1, 1, none⟩ = some (.slice A k c) := K1X.out.cell 1
    have HNE := Lib.hid (new_any (m : Int) A k c T wX (by omega) (tris_on (bw_call HB2.out HBX.out) HT.out))
    go_wp2_with fail
    refine HNE.out.mono ?_
    rintro e w7 hpost
    rcases hpost with ⟨_, g, rfl, htab, hb⟩ | ⟨hne, _, _⟩
    case inr => exact absurd (surf_chk HS.out) hne
    rw [show wv (0, 0, 0) = .agg #[.int .i64 0, .int .i64 0, .int .i64 0] from rfl]
    have HTN : Hid (TabN w7 g m T) := Lib.hid ⟨htab.base (Nat.zero_le _), HS.out, by have := HK.out; omega⟩
    have K17 := Lib.hid (K1X.out.below hb K1X.out.lt)
    have HB7 := Lib.hid (bw_call HBX.out hb)
    clear htab hb HNE p0 p1
    go_upto_region 15 with (fail)
    obtain ⟨w8, hw8⟩ : ∃ U, U = w7.alloc (.cells #[.int .i64 0, .int .i64 0, .int .i64 0] 43) := ⟨_, rfl⟩
    have HT8 : Hid (TabN w8 g m T) := by subst hw8; exact Lib.hid (HTN.out.alloc _)
    have K18 : Hid (Blk w8 b1 24 #[.int .i64 (m : Int), .slice A k c]) := by subst hw8; exact Lib.hid (K17.out.alloc _)
    have HB8 : Hid (Below w2.heap.size w2 w8) := by subst hw8; exact Lib.hid (bw_alloc HB7.out _)
    rw [← hw8]
    clear hw8 HTN K17 HB7
    have p0 : w8.cell? ⟨b1, 0, none⟩ = some (.int .i64 (m : Int)) := K18.out.cell 0
    have p1 : w8.cell? ⟨b1, 1, none⟩ = some (.slice A k c) := K18.out.cell 1
    obtain ⟨w9, hw9⟩ : ∃ U, U = w8.alloc (.cells #[.int .i64 (m : Int), .slice A k c, .int .i64 (m : Int), .slice A k c] 24) := ⟨_, rfl⟩
    have HT9 : Hid (TabN w9 g m T) := by subst hw9; exact Lib.hid (HT8.out.alloc _)
    have HB9 : Hid (Below w2.heap.size w2 w9) := by subst hw9; exact Lib.hid (bw_alloc HB8.out _)
    have HJ9 : Hid (Calls Tryz.prog 23 #[.slice (some ⟨w8.heap.size, 0, none⟩) 2 2] w9 fun e w' => ∃ (Aj : Option Addr) (cj : Nat), e = .returned (.tuple #[.agg #[.int .i64 ((m + m : Nat) : Int), .slice Aj (k + k) cj], .int .i64 0]) ∧ LRow w' w9.heap.size Aj cj (twoT m T) ∧ Below w9.heap.size w9 w') := Lib.hid (HJN.out w9 w8.heap.size HB9.out (by subst hw9; exact Blk.new _ _ _))
    rw [hw9] at HJ9
    go_wp2_with fail
    rw [← hw9] at HJ9 ⊢
    refine HJ9.out.mono ?_
    rintro e w10 ⟨Aj, cj, rfl, hlj, hb⟩
    have HT10 := Lib.hid (HT9.out.below hb)
    have HB10 := Lib.hid (bw_call HB9.out hb)
    have HLJ := Lib.hid hlj
    obtain ⟨kk, hkk⟩ : ∃ x, x = k + k := ⟨_, rfl⟩
    have HKK := Lib.hid hkk
    obtain ⟨mm, hmm⟩ : ∃ x : Nat, x = m + m := ⟨_, rfl⟩
    have HMMM := Lib.hid hmm
    rw [← hkk, ← hmm]
    clear hb hlj HJ9 HT8 K18 HB8 p0 p1 hkk hmm
    go_upto_region 16 with (fail)
    obtain ⟨w11, hw11⟩ : ∃ U, U = w10.alloc (.cells #[.int .i64 (mm : Int), .slice Aj kk cj] 24) := ⟨_, rfl⟩
    have HT11 : Hid (TabN w11 g m T) := by subst hw11; exact Lib.hid (HT10.out.alloc _)
    have KJ11 : Hid (Blk w11 w10.heap.size 24 #[.int .i64 (mm : Int), .slice Aj kk cj]) := by subst hw11; exact Lib.hid (Blk.new _ _ _)
    have HB11 : Hid (Below w2.heap.size w2 w11) := by subst hw11; exact Lib.hid (bw_alloc HB10.out _)
    have HL11 : Hid (LRow w11 w9.heap.size Aj cj (twoT m T)) := by subst hw11; exact Lib.hid (LRow.alloc HLJ.out _)
    rw [← hw11]
    obtain ⟨bj, hbj⟩ : ∃ b, b = w10.heap.size := ⟨_, rfl⟩
    rw [← hbj] at KJ11
    simp only [← hbj]
    clear hw11 hbj HT10 HB10 HLJ hw9
    have HCO := Lib.hid (count_any g m T w11 HT11.out)
    rw [kN_eq] at HCO
    obtain ⟨kn, hkn⟩ : ∃ kn, kn = kN T := ⟨_, rfl⟩
    rw [← hkn] at HCO
    have HKN := Lib.hid hkn
    clear hkn
    by_cases h1 : kn = 1
    rotate_left
    · have h1b : ((kn : Int) != 1) = true := by simp; omega
      go_wp2_with fail
      refine HCO.out.mono ?_
      rintro e w12 ⟨rfl, hb⟩
      have HB12 := Lib.hid (bw_call HB2.out (bw_call HB11.out hb))
      clear hb
      go_wp2_with fail
      go_ret
      exact ⟨rfl, HB12.out⟩
    · have HK1 : Hid (kN T = 1) := Lib.hid (by rw [← HKN.out, h1])
      have h1b : ((kn : Int) != 1) = false := by simp; omega
      have ho42 := HDV.out HK1.out
      go_wp2_with fail
      refine HCO.out.mono ?_
      rintro e w12 ⟨rfl, hb⟩
      have HB12 := Lib.hid (bw_call HB11.out hb)
      have KJ12 := Lib.hid (KJ11.out.below hb KJ11.out.lt)
      have HL12 : Hid (LRow w12 w9.heap.size Aj cj (twoT m T)) := Lib.hid (LRow.below HL11.out hb)
      have HO12 : Hid (Calls Tryz.prog 21 #[.agg #[.int .i64 (mm : Int), .slice Aj kk cj]] w12 fun e w' => e = .returned (.tuple #[.int .i64 (2 * (o : Int) * (o : Int)), .int .i64 0]) ∧ Below w12.heap.size w12 w') := Lib.hid (by
       have htl : (twoT m T).length = k + k := by rw [twoT_len, HK.out]
       rw [HKK.out, HMMM.out]
       exact HOT.out HK1.out w12 Aj cj (by have := LRow.tris HL12.out; rw [htl] at this; exact this))
      clear hb HCO HL11 KJ11 HT11 HB11
      have y0 : w12.cell? ⟨bj, 0, none⟩ = some (.int .i64 (mm : Int)) := KJ12.out.cell 0
      have y1 : w12.cell? ⟨bj, 1, none⟩ = some (.slice Aj kk cj) := KJ12.out.cell 1
      have hsq : o * o ≤ 42 * 42 := Nat.mul_le_mul ho42 ho42
      have hsqI : 2 * (o : Int) * (o : Int) = ((2 * (o * o) : Nat) : Int) := by push_cast; rw [Int.mul_assoc]
      have u1 : IntKind.i64.wrap (2 * (o : Int)) = 2 * (o : Int) := IntWalk.i64_in _ (by omega)
      have u2 : IntKind.i64.wrap (2 * (o : Int) * (o : Int)) = 2 * (o : Int) * (o : Int) := IntWalk.i64_in _ (by rw [hsqI]; omega)
      clear hsqI
      have ubb : ((2 * (o : Int) * (o : Int)) == (2 * (o : Int) * (o : Int))) = true := by simp
      go_wp2_with fail
      refine HO12.out.mono ?_
      rintro e w13 ⟨rfl, hb⟩
      have HB13 := Lib.hid (bw_call HB2.out (bw_call HB12.out hb))
      clear hb
      go_wp2_with fail
      go_ret
      exact ⟨rfl, HB13.out⟩
  · rw [he] at hlx ⊢
    dsimp only at hlx ⊢
    have HLR := Lib.hid hlx
    rw [HRL.out]
    clear hlx he
    go_upto_region 11 with (fail)
    obtain ⟨wY, hwY⟩ : ∃ X, X = w6.alloc (.cells #[.int .i64 (m : Int), .slice Ax k cx] 24) := ⟨_, rfl⟩
    have KYB : Hid (Blk wY w6.heap.size 24 #[.int .i64 (m : Int), .slice Ax k cx]) := by subst hwY; exact Lib.hid (Blk.new _ _ _)
    have K1Y : Hid (Blk wY b1 24 #[.int .i64 (m : Int), .slice A k c]) := by subst hwY; exact Lib.hid (K16.out.alloc _)
    have HBY : Hid (Below w2.heap.size w2 wY) := by subst hwY; exact Lib.hid (bw_alloc HB6.out _)
    have HLY : Hid (LRow wY w5.heap.size Ax cx R) := by subst hwY; exact Lib.hid (LRow.alloc HLR.out _)
    rw [← hwY]
    obtain ⟨b9, hb9⟩ : ∃ b, b = w6.heap.size := ⟨_, rfl⟩
    rw [← hb9] at KYB
    simp only [← hb9]
    clear hwY hb9
    have y0 : wY.cell? ⟨b9, 0, none⟩ = some (.int .i64 (m : Int)) := KYB.out.cell 0
    have y1 : wY.cell? ⟨b9, 1, none⟩ = some (.slice Ax k cx) := KYB.out.cell 1
    have HHY := Lib.hid (HHR.out hp wY Ax cx (by have := LRow.tris HLY.out; rw [HRL.out] at this; exact this))
    go_wp2_with fail
    refine HHY.out.mono ?_
    rintro e wX ⟨rfl, hb⟩
    have HBX := Lib.hid (bw_call HBY.out hb)
    have K1X := Lib.hid (K1Y.out.below hb K1Y.out.lt)
    clear hb y0 y1 HHY
    go_upto_region 14 with (fail)
    have p0 : wX.cell? ⟨b1, 0, none⟩ = some (.int .i64 (m : Int)) := K1X.out.cell 0
    have p1 : wX.cell? ⟨b1, 1, none⟩ = some (.slice A k c) := K1X.out.cell 1
    have HNE := Lib.hid (new_any (m : Int) A k c T wX (by omega) (tris_on (bw_call HB2.out HBX.out) HT.out))
    go_wp2_with fail
    refine HNE.out.mono ?_
    rintro e w7 hpost
    rcases hpost with ⟨_, g, rfl, htab, hb⟩ | ⟨hne, _, _⟩
    case inr => exact absurd (surf_chk HS.out) hne
    rw [show wv (0, 0, 0) = .agg #[.int .i64 0, .int .i64 0, .int .i64 0] from rfl]
    have HTN : Hid (TabN w7 g m T) := Lib.hid ⟨htab.base (Nat.zero_le _), HS.out, by have := HK.out; omega⟩
    have K17 := Lib.hid (K1X.out.below hb K1X.out.lt)
    have HB7 := Lib.hid (bw_call HBX.out hb)
    clear htab hb HNE p0 p1
    go_upto_region 15 with (fail)
    obtain ⟨w8, hw8⟩ : ∃ U, U = w7.alloc (.cells #[.int .i64 0, .int .i64 0, .int .i64 0] 43) := ⟨_, rfl⟩
    have HT8 : Hid (TabN w8 g m T) := by subst hw8; exact Lib.hid (HTN.out.alloc _)
    have K18 : Hid (Blk w8 b1 24 #[.int .i64 (m : Int), .slice A k c]) := by subst hw8; exact Lib.hid (K17.out.alloc _)
    have HB8 : Hid (Below w2.heap.size w2 w8) := by subst hw8; exact Lib.hid (bw_alloc HB7.out _)
    rw [← hw8]
    clear hw8 HTN K17 HB7
    have p0 : w8.cell? ⟨b1, 0, none⟩ = some (.int .i64 (m : Int)) := K18.out.cell 0
    have p1 : w8.cell? ⟨b1, 1, none⟩ = some (.slice A k c) := K18.out.cell 1
    obtain ⟨w9, hw9⟩ : ∃ U, U = w8.alloc (.cells #[.int .i64 (m : Int), .slice A k c, .int .i64 (m : Int), .slice A k c] 24) := ⟨_, rfl⟩
    have HT9 : Hid (TabN w9 g m T) := by subst hw9; exact Lib.hid (HT8.out.alloc _)
    have HB9 : Hid (Below w2.heap.size w2 w9) := by subst hw9; exact Lib.hid (bw_alloc HB8.out _)
    have HJ9 : Hid (Calls Tryz.prog 23 #[.slice (some ⟨w8.heap.size, 0, none⟩) 2 2] w9 fun e w' => ∃ (Aj : Option Addr) (cj : Nat), e = .returned (.tuple #[.agg #[.int .i64 ((m + m : Nat) : Int), .slice Aj (k + k) cj], .int .i64 0]) ∧ LRow w' w9.heap.size Aj cj (twoT m T) ∧ Below w9.heap.size w9 w') := Lib.hid (HJN.out w9 w8.heap.size HB9.out (by subst hw9; exact Blk.new _ _ _))
    rw [hw9] at HJ9
    go_wp2_with fail
    rw [← hw9] at HJ9 ⊢
    refine HJ9.out.mono ?_
    rintro e w10 ⟨Aj, cj, rfl, hlj, hb⟩
    have HT10 := Lib.hid (HT9.out.below hb)
    have HB10 := Lib.hid (bw_call HB9.out hb)
    have HLJ := Lib.hid hlj
    obtain ⟨kk, hkk⟩ : ∃ x, x = k + k := ⟨_, rfl⟩
    have HKK := Lib.hid hkk
    obtain ⟨mm, hmm⟩ : ∃ x : Nat, x = m + m := ⟨_, rfl⟩
    have HMMM := Lib.hid hmm
    rw [← hkk, ← hmm]
    clear hb hlj HJ9 HT8 K18 HB8 p0 p1 hkk hmm
    go_upto_region 16 with (fail)
    obtain ⟨w11, hw11⟩ : ∃ U, U = w10.alloc (.cells #[.int .i64 (mm : Int), .slice Aj kk cj] 24) := ⟨_, rfl⟩
    have HT11 : Hid (TabN w11 g m T) := by subst hw11; exact Lib.hid (HT10.out.alloc _)
    have KJ11 : Hid (Blk w11 w10.heap.size 24 #[.int .i64 (mm : Int), .slice Aj kk cj]) := by subst hw11; exact Lib.hid (Blk.new _ _ _)
    have HB11 : Hid (Below w2.heap.size w2 w11) := by subst hw11; exact Lib.hid (bw_alloc HB10.out _)
    have HL11 : Hid (LRow w11 w9.heap.size Aj cj (twoT m T)) := by subst hw11; exact Lib.hid (LRow.alloc HLJ.out _)
    rw [← hw11]
    obtain ⟨bj, hbj⟩ : ∃ b, b = w10.heap.size := ⟨_, rfl⟩
    rw [← hbj] at KJ11
    simp only [← hbj]
    clear hw11 hbj HT10 HB10 HLJ hw9
    have HCO := Lib.hid (count_any g m T w11 HT11.out)
    rw [kN_eq] at HCO
    obtain ⟨kn, hkn⟩ : ∃ kn, kn = kN T := ⟨_, rfl⟩
    rw [← hkn] at HCO
    have HKN := Lib.hid hkn
    clear hkn
    by_cases h1 : kn = 1
    rotate_left
    · have h1b : ((kn : Int) != 1) = true := by simp; omega
      go_wp2_with fail
      refine HCO.out.mono ?_
      rintro e w12 ⟨rfl, hb⟩
      have HB12 := Lib.hid (bw_call HB2.out (bw_call HB11.out hb))
      clear hb
      go_wp2_with fail
      go_ret
      exact ⟨rfl, HB12.out⟩
    · have HK1 : Hid (kN T = 1) := Lib.hid (by rw [← HKN.out, h1])
      have h1b : ((kn : Int) != 1) = false := by simp; omega
      have ho42 := HDV.out HK1.out
      go_wp2_with fail
      refine HCO.out.mono ?_
      rintro e w12 ⟨rfl, hb⟩
      have HB12 := Lib.hid (bw_call HB11.out hb)
      have KJ12 := Lib.hid (KJ11.out.below hb KJ11.out.lt)
      have HL12 : Hid (LRow w12 w9.heap.size Aj cj (twoT m T)) := Lib.hid (LRow.below HL11.out hb)
      have HO12 : Hid (Calls Tryz.prog 21 #[.agg #[.int .i64 (mm : Int), .slice Aj kk cj]] w12 fun e w' => e = .returned (.tuple #[.int .i64 (2 * (o : Int) * (o : Int)), .int .i64 0]) ∧ Below w12.heap.size w12 w') := Lib.hid (by
       have htl : (twoT m T).length = k + k := by rw [twoT_len, HK.out]
       rw [HKK.out, HMMM.out]
       exact HOT.out HK1.out w12 Aj cj (by have := LRow.tris HL12.out; rw [htl] at this; exact this))
      clear hb HCO HL11 KJ11 HT11 HB11
      have y0 : w12.cell? ⟨bj, 0, none⟩ = some (.int .i64 (mm : Int)) := KJ12.out.cell 0
      have y1 : w12.cell? ⟨bj, 1, none⟩ = some (.slice Aj kk cj) := KJ12.out.cell 1
      have hsq : o * o ≤ 42 * 42 := Nat.mul_le_mul ho42 ho42
      have hsqI : 2 * (o : Int) * (o : Int) = ((2 * (o * o) : Nat) : Int) := by push_cast; rw [Int.mul_assoc]
      have u1 : IntKind.i64.wrap (2 * (o : Int)) = 2 * (o : Int) := IntWalk.i64_in _ (by omega)
      have u2 : IntKind.i64.wrap (2 * (o : Int) * (o : Int)) = 2 * (o : Int) * (o : Int) := IntWalk.i64_in _ (by rw [hsqI]; omega)
      clear hsqI
      have ubb : ((2 * (o : Int) * (o : Int)) == (2 * (o : Int) * (o : Int))) = true := by simp
      go_wp2_with fail
      refine HO12.out.mono ?_
      rintro e w13 ⟨rfl, hb⟩
      have HB13 := Lib.hid (bw_call HB2.out (bw_call HB12.out hb))
      clear hb
      go_wp2_with fail
      go_ret
      exact ⟨rfl, HB13.out⟩
theorem lawNumbersN_any (N : Int) (A : Option Addr) (n c : Nat) (T : List Tri) (Al : Option Addr) (nl cl : Nat) (l : List Int) (w : World) (hnl : nl ≤ 9223372036854775807) (ht : TrisAt w w.heap.size A n T) (hl : Reads w w.heap.size 1 Al nl (ZL l)) :
  Calls Tryz.prog 4 #[.agg #[.int .i64 N, .slice A n c], .slice Al nl cl] w (BoolPost w true) := by
 obtain rfl : n = T.length := ht.len.symm
 exact lawNumbers_any N A c T Al nl cl l w hnl ht hl
end Go.Proofs.YtiajlmajenabiaaGreat
