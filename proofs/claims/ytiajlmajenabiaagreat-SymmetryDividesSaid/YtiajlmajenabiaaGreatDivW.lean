/- The law SymmetryDivides, walked: it holds. No condition. -/
import Derived.Test.YtiajlmajenabiaaGreatSymA
import Derived.Test.YtiajlmajenabiaaGreatWz47
set_option maxRecDepth 100000
set_option maxHeartbeats 16000000
set_option linter.all false
namespace Go.Proofs.YtiajlmajenabiaaGreat
open Go.RowKit
theorem spot_div {w : World} {q : Addr} {v : Value} (h : w.cell? q = some v) (n : Nat) : q.add n = ⟨q.block, q.off + n, none⟩ := by
 have := cell_spot h
 conv => lhs; rw [this]
 simp [Addr.add]
def manyC (T : List Tri) (b i : Nat) : Nat := ((List.range i).filter fun c => decide (rowC T c = rowC T b)).length
theorem manyC_yes {T : List Tri} {b i : Nat} (h : rowC T i = rowC T b) : manyC T b (i + 1) = manyC T b i + 1 := by
 unfold manyC
 rw [List.range_succ, List.filter_append, List.length_append]
 simp [h]
theorem manyC_no {T : List Tri} {b i : Nat} (h : rowC T i ≠ rowC T b) : manyC T b (i + 1) = manyC T b i := by
 unfold manyC
 rw [List.range_succ, List.filter_append, List.length_append]
 simp [h]
theorem manyC_le (T : List Tri) (b i : Nat) : manyC T b i ≤ i := by
 unfold manyC
 exact Nat.le_trans (List.length_filter_le _ _) (by simp)
attribute [local irreducible] Blk World.alloc World.setCell World.cell? World.frozen? MapV MapI
theorem lawDivides_any (N : Int) (A : Option Addr) (c : Nat) (T : List Tri) (w : World) (ht : TrisAt w w.heap.size A T.length T) :
  Calls Tryz.prog 6 #[.agg #[.int .i64 N, .slice A T.length c]] w (BoolPost w true) := by
 have HT := Lib.hid ht
 clear ht
 obtain ⟨k, hk⟩ : ∃ k, k = T.length := ⟨_, rfl⟩
 rw [← hk] at HT ⊢
 have HK := Lib.hid hk
 clear hk
 go_enter Tryz.func6, Tryz.ntmps6
 go_upto_region 1 with (fail)
 obtain ⟨wA, hwA⟩ : ∃ U, U = w.alloc (.cells #[.int .i64 N, .slice A k c] 24) := ⟨_, rfl⟩
 have K1A : Hid (Blk wA w.heap.size 24 #[.int .i64 N, .slice A k c]) := by subst hwA; exact Lib.hid (Blk.new _ _ _)
 have HBA : Hid (Below w.heap.size w wA) := by subst hwA; exact Lib.hid (bw_alloc (Below.refl _ _) _)
 rw [← hwA]
 obtain ⟨b1, hb1⟩ : ∃ b, b = w.heap.size := ⟨_, rfl⟩
 rw [← hb1] at K1A
 simp only [← hb1]
 clear hwA hb1
 have HAW := Lib.hid (awake_any wA)
 go_wp2_with fail
 refine HAW.out.mono ?_
 rintro e w1 ⟨rfl, hb⟩
 have HB1 := Lib.hid (bw_call HBA.out hb)
 have K11 := Lib.hid (K1A.out.below hb K1A.out.lt)
 clear hb HAW K1A HBA
 have p0 : w1.cell? ⟨b1, 0, none⟩ = some (.int .i64 N) := K11.out.cell 0
 have p1 : w1.cell? ⟨b1, 1, none⟩ = some (.slice A k c) := K11.out.cell 1
 have HGR := Lib.hid (great47_any N A k c w1)
 by_cases hbig : big47 N k
 · rw [if_pos hbig] at HGR
   go_wp2_with fail
   refine HGR.out.mono ?_
   rintro e w2 ⟨rfl, hb⟩
   have HB2 := Lib.hid (bw_call HB1.out hb)
   clear hb
   go_wp2_with fail
   go_ret
   exact ⟨rfl, HB2.out⟩
 rw [if_neg hbig] at HGR
 have hk14 : k ≤ 14 := by unfold big47 at hbig; omega
 clear hbig
 go_wp2_with fail
 refine HGR.out.mono ?_
 rintro e w2 ⟨rfl, hb⟩
 have HB2 := Lib.hid (bw_call HB1.out hb)
 have K12 := Lib.hid (K11.out.below hb K11.out.lt)
 clear hb HGR K11 HB1 p0 p1
 have p0 : w2.cell? ⟨b1, 0, none⟩ = some (.int .i64 N) := K12.out.cell 0
 have p1 : w2.cell? ⟨b1, 1, none⟩ = some (.slice A k c) := K12.out.cell 1
 have HNE := Lib.hid (new_any N A k c T w2 (by omega) (tris_on HB2.out HT.out))
 go_wp2_with fail
 refine HNE.out.mono ?_
 rintro e w3 hpost
 rcases hpost with ⟨hs, g, rfl, htab, hb⟩ | ⟨hne, rfl, hb⟩
 case inr =>
  have HB3 := Lib.hid (bw_call HB2.out hb)
  obtain ⟨x0, x1, x2⟩ := checkR N T
  rw [show wv (x0, x1, x2) = .agg #[.int .i64 x0, .int .i64 x1, .int .i64 x2] from rfl]
  clear hb hne
  go_wp2_with fail
  go_ret
  exact ⟨rfl, bw_alloc HB3.out _⟩
 rw [show wv (0, 0, 0) = .agg #[.int .i64 0, .int .i64 0, .int .i64 0] from rfl]
 obtain ⟨m, rfl, hse⟩ := chk_surf hs
 have HS := Lib.hid hse
 have HTN : Hid (TabN w3 g m T) := Lib.hid ⟨htab.base (Nat.zero_le _), hse, by have := HK.out; omega⟩
 have K13 := Lib.hid (K12.out.below hb K12.out.lt)
 have HB3 := Lib.hid (bw_call HB2.out hb)
 clear htab hb HNE K12 hs hse p0 p1
 go_upto_region 6 with (fail)
 obtain ⟨w4, hw4⟩ : ∃ U, U = w3.alloc (.cells #[.int .i64 0, .int .i64 0, .int .i64 0] 43) := ⟨_, rfl⟩
 have HT4 : Hid (TabN w4 g m T) := by subst hw4; exact Lib.hid (HTN.out.alloc _)
 have K14 : Hid (Blk w4 b1 24 #[.int .i64 (m : Int), .slice A k c]) := by subst hw4; exact Lib.hid (K13.out.alloc _)
 have HB4 : Hid (Below w.heap.size w w4) := by subst hw4; exact Lib.hid (bw_alloc HB3.out _)
 rw [← hw4]
 clear hw4 HTN K13 HB3
 have HCO := Lib.hid (count_any g m T w4 HT4.out)
 rw [kN_eq] at HCO
 obtain ⟨kn, hkn⟩ : ∃ kn, kn = kN T := ⟨_, rfl⟩
 rw [← hkn] at HCO
 have HKN := Lib.hid hkn
 clear hkn
 by_cases h1 : kn = 1
 rotate_left
 · have h1b : ((kn : Int) != 1) = true := by simp; omega
   go_wp2_with fail
   refine HCO.out.mono ?_
   rintro e w5 ⟨rfl, hb⟩
   have HB5 := Lib.hid (bw_call HB4.out hb)
   clear hb
   go_wp2_with fail
   go_ret
   exact ⟨rfl, HB5.out⟩
 have HK1 : Hid (kN T = 1) := Lib.hid (by rw [← HKN.out, h1])
 have h1b : ((kn : Int) != 1) = false := by simp; omega
 go_wp2_with fail
 refine HCO.out.mono ?_
 rintro e w5 ⟨rfl, hb⟩
 have HB5 := Lib.hid (bw_call HB4.out hb)
 have HT5 := Lib.hid (HT4.out.below hb)
 have K15 := Lib.hid (K14.out.below hb K14.out.lt)
 clear hb HCO HT4 K14 HB4 HB2
 have p0 : w5.cell? ⟨b1, 0, none⟩ = some (.int .i64 (m : Int)) := K15.out.cell 0
 have p1 : w5.cell? ⟨b1, 1, none⟩ = some (.slice A k c) := K15.out.cell 1
 -- how many there are
 obtain ⟨n, hn⟩ : ∃ n, n = (allR m T).length := ⟨_, rfl⟩
 have HNN := Lib.hid hn
 have hkpos : 0 < k := by
  have hb := (bestN_is (T := T) (k := 0) (by rw [HK1.out]; omega)).2.lt
  have := HK.out
  omega
 have hdv : n ∣ 3 * k := by rw [hn, HK.out]; exact conn_div HS.out HK1.out
 have hn1 : 0 < n := by rw [hn]; exact allR_pos HS.out
 have hnle : n ≤ 3 * k := Nat.le_of_dvd (by omega) hdv
 have hmodN : 3 * k % n = 0 := Nat.mod_eq_zero_of_dvd hdv
 have hrem : Int.tmod (3 * (k : Int)) (n : Int) = 0 := by
  rw [Int.tmod_eq_emod_of_nonneg (by omega), show (3 * (k : Int)) = ((3 * k : Nat) : Int) by push_cast; rfl, ← Int.natCast_emod, hmodN]
  rfl
 clear hn hdv hmodN
 have HOR : Hid (Calls Tryz.prog 21 #[.agg #[.int .i64 (m : Int), .slice A k c]] w5 fun e w' => e = .returned (.tuple #[.int .i64 (n : Int), .int .i64 0]) ∧ Below w5.heap.size w5 w') := Lib.hid (by
  have := symOrder_any (m : Int) A c T w5 (by have := HK.out; omega) (by rw [← HK.out]; exact tris_on HB5.out HT.out)
  rw [← HK.out] at this
  refine this.mono ?_
  rintro e w' ⟨n', er, rfl, hO, hb⟩
  refine ⟨?_, hb⟩
  cases hO with
  | no h => exact absurd (surf_chk HS.out) h
  | yes m' e _ _ =>
   obtain rfl : m = m' := by omega
   rw [HNN.out])
 go_wp2_with fail
 refine HOR.out.mono ?_
 rintro e w6 ⟨rfl, hb⟩
 have HB6 := Lib.hid (bw_call HB5.out hb)
 have HT6 := Lib.hid (HT5.out.below hb)
 have K16 := Lib.hid (K15.out.below hb K15.out.lt)
 clear hb HOR HT5 K15 HB5 p0 p1
 have p0 : w6.cell? ⟨b1, 0, none⟩ = some (.int .i64 (m : Int)) := K16.out.cell 0
 have p1 : w6.cell? ⟨b1, 1, none⟩ = some (.slice A k c) := K16.out.cell 1
 obtain ⟨bc, hbc⟩ : ∃ b, b = bestN T 0 := ⟨_, rfl⟩
 have HBC := Lib.hid hbc
 have hbcl : bc < 3 * k := by rw [hbc, HK.out]; exact (bestN_is (by rw [HK1.out]; omega)).2.lt
 clear hbc
 have HFO : Hid (Calls Tryz.prog 27 #[.agg #[.int .i64 (m : Int), .slice A k c]] w6 fun e w' => ∃ (At Ao : Option Addr) (ct no co : Nat), e = .returned (.tuple #[.agg #[.int .i64 ((rootO T bc).length : Int), .slice At (rootT T bc).length ct], .slice Ao no co, .int .i64 0]) ∧ LRow w' w6.heap.size At ct (rootT T bc) ∧ Below w6.heap.size w6 w') := Lib.hid (by
  have h14 := HK.out
  have hkl := Nat.mul_le_mul (show T.length ≤ 14 by omega) (show kN T ≤ 1 by rw [HK1.out]; omega)
  have := formYes_any m A c T w6 (surf_chk HS.out) (by omega) (by rw [HK1.out]; omega) (by omega) (by rw [← h14]; exact tris_on HB6.out HT.out)
  rw [← h14] at this
  refine this.mono ?_
  rintro e w' ⟨p, At, Ao, ct, co, hp, rfl, hl, _, hb⟩
  have hpl := conn_form HS.out HK1.out hp
  rw [← HBC.out] at hpl
  have hj : joinC T (putL T p) 0 = rootT T bc := by
   rw [hpl]
   show (rootT T bc).map (shiftT 0) ++ [] = rootT T bc
   rw [List.append_nil]
   conv => rhs; rw [← List.map_id (rootT T bc)]
   exact List.map_congr_left fun t _ => shift_zero t
  have ho : oldsC T (putL T p) = rootO T bc := by
   rw [hpl]
   show rootO T bc ++ [] = _
   rw [List.append_nil]
  rw [hj] at hl
  rw [hj, ho]
  exact ⟨At, Ao, ct, _, co, rfl, hl, hb⟩)
 go_wp2_with fail
 refine HFO.out.mono ?_
 rintro e w7 ⟨At, Ao, ct, no, co, rfl, hl, hb⟩
 have HB7 := Lib.hid (bw_call HB6.out hb)
 have HT7 := Lib.hid (HT6.out.below hb)
 have K17 := Lib.hid (K16.out.below hb K16.out.lt)
 have HL7 := Lib.hid hl
 obtain ⟨nN, hnN⟩ : ∃ x, x = (rootO T bc).length := ⟨_, rfl⟩
 obtain ⟨LJ, hLJ⟩ : ∃ x, x = rootT T bc := ⟨_, rfl⟩
 obtain ⟨nJ, hnJ⟩ : ∃ x, x = LJ.length := ⟨_, rfl⟩
 rw [← hLJ] at HL7
 rw [← hnN, ← hLJ, ← hnJ]
 have HNJ := Lib.hid hnJ
 have HNO := Lib.hid hnN
 have HLJ := Lib.hid hLJ
 have hnJ1 : nJ ≤ 1000 := by rw [hnJ, hLJ, rootT_len]; have := (rootC_fi (T := T) (c := bc) (by rw [← HK.out]; exact hbcl)).short; have := HK.out; omega
 clear hb hl HFO HT6 K16 HB6 p0 p1 hnN hLJ hnJ
 go_upto_region 10 with (fail)
 obtain ⟨w8, hw8⟩ : ∃ U, U = w7.alloc (.cells #[.int .i64 (nN : Int), .slice At nJ ct] 24) := ⟨_, rfl⟩
 have HT8 : Hid (TabN w8 g m T) := by subst hw8; exact Lib.hid (HT7.out.alloc _)
 have K18 : Hid (Blk w8 b1 24 #[.int .i64 (m : Int), .slice A k c]) := by subst hw8; exact Lib.hid (K17.out.alloc _)
 have K78 : Hid (Blk w8 w7.heap.size 24 #[.int .i64 (nN : Int), .slice At nJ ct]) := by subst hw8; exact Lib.hid (Blk.new _ _ _)
 have HL8 : Hid (LRow w8 w6.heap.size At ct LJ) := by subst hw8; exact Lib.hid (LRow.alloc HL7.out _)
 have HB8 : Hid (Below w.heap.size w w8) := by subst hw8; exact Lib.hid (bw_alloc HB7.out _)
 rw [← hw8]
 obtain ⟨b7, hb7⟩ : ∃ b, b = w7.heap.size := ⟨_, rfl⟩
 rw [← hb7] at K78
 simp only [← hb7]
 clear hw8 hb7 HT7 K17 HL7 HB7
 have p0 : w8.cell? ⟨b1, 0, none⟩ = some (.int .i64 (m : Int)) := K18.out.cell 0
 have p1 : w8.cell? ⟨b1, 1, none⟩ = some (.slice A k c) := K18.out.cell 1
 have HAL : Hid (Calls Tryz.prog 25 #[.agg #[.int .i64 (m : Int), .slice A k c]] w8 fun e w' => ∃ (Al : Option Addr) (cl : Nat) (ws : List (List Int)), e = .returned (.tuple #[.slice Al n cl, .int .i64 0]) ∧ ws.length = n ∧ ws.Perm (allR m T) ∧ (ws.Pairwise fun x y => ¬ ltL y x) ∧ WaysAt w' w8.heap.size Al cl ws ∧ Below w8.heap.size w8 w') := Lib.hid (by
  have := symAll_any (m : Int) A c T w8 (by have := HK.out; omega) (by rw [← HK.out]; exact tris_on HB8.out HT.out)
  rw [← HK.out] at this
  refine this.mono ?_
  rintro e w' ⟨Al, cl, ws, er, rfl, hI, hws, hb⟩
  cases hI with
  | no h => exact absurd (surf_chk HS.out) h
  | full m' e _ hlt =>
   obtain rfl : m = m' := by omega
   rw [← HNN.out] at hlt
   omega
  | yes m' ws e _ _ hp ho =>
   obtain rfl : m = m' := by omega
   have hl : ws.length = n := by rw [hp.length_eq, HNN.out]
   refine ⟨Al, cl, ws, by rw [hl], hl, hp, ho, hws, hb⟩)
 go_wp2_with fail
 refine HAL.out.mono ?_
 rintro e w9 ⟨Al, cl, ws, rfl, hwl, hp, ho, hws, hb⟩
 have HB9 := Lib.hid (bw_call HB8.out hb)
 have HT9 := Lib.hid (HT8.out.below hb)
 have K19 := Lib.hid (K18.out.below hb K18.out.lt)
 have K79 := Lib.hid (K78.out.below hb K78.out.lt)
 have HL9 : Hid (LRow w9 w6.heap.size At ct LJ) := Lib.hid (LRow.below HL8.out hb)
 have HWS := Lib.hid hws
 have HWL := Lib.hid hwl
 have HP := Lib.hid hp
 have HO := Lib.hid ho
 clear hb hws hwl hp ho HAL HT8 K18 K78 HL8 HB8 p0 p1
 have p0 : w9.cell? ⟨b1, 0, none⟩ = some (.int .i64 (m : Int)) := K19.out.cell 0
 have p1 : w9.cell? ⟨b1, 1, none⟩ = some (.slice A k c) := K19.out.cell 1
 have hn1i : ¬ (n : Int) < 1 := by omega
 have hn0 : ¬ (n : Int) = 0 := by omega
 have hnn : ((n : Int) != (n : Int)) = false := by simp
 have hwk : IntKind.i64.wrap (3 * (k : Int)) = 3 * (k : Int) := IntWalk.i64_in _ (by omega)
 go_wp2_with fail
 go_loopw [12, 13] (fun mv iv wr => ∃ i : Nat, i ≤ 3 * k ∧ mv = .int .i64 (manyC T bc i : Nat) ∧ iv = .int .i64 (i : Int) ∧ Hid (Below w9.heap.size w9 wr)) (fun _ iv _ => 3 * k - (intOf iv).toNat)
 case atStart => exact ⟨0, by omega, rfl, rfl, Lib.hid (Below.refl _ _)⟩
 case round =>
  clear p0 p1
  obtain ⟨i, hik, rfl, rfl, HBr⟩ := hrel
  obtain ⟨wE, hwE⟩ : ∃ wE : World, wE = wr := ⟨_, rfl⟩
  rw [← hwE] at HBr ⊢
  clear hwE
  have K1E := Lib.hid (K19.out.below HBr.out K19.out.lt)
  have p0 : wE.cell? ⟨b1, 0, none⟩ = some (.int .i64 (m : Int)) := K1E.out.cell 0
  have p1 : wE.cell? ⟨b1, 1, none⟩ = some (.slice A k c) := K1E.out.cell 1
  obtain ⟨my, hmy⟩ : ∃ x, x = manyC T bc i := ⟨_, rfl⟩
  rw [← hmy]
  have hmy1 : my ≤ i := by rw [hmy]; exact manyC_le T bc i
  have HMY := Lib.hid hmy
  clear hmy
  by_cases hii : i < 3 * k
  · have hiI : (i : Int) < 3 * (k : Int) := by omega
    have HRO := Lib.hid (rooted_any g m T i wE (by rw [← HK.out]; exact hii) (HT9.out.below HBr.out))
    go_wp2_with fail
    refine HRO.out.mono ?_
    rintro e wF ⟨Ar, Ao2, Ac, cr, co2, cc, rfl, hl, _, _, hb⟩
    obtain ⟨R, hR⟩ : ∃ R, R = rootT T i := ⟨_, rfl⟩
    obtain ⟨nR, hnR⟩ : ∃ n, n = R.length := ⟨_, rfl⟩
    obtain ⟨nO, hnO⟩ : ∃ n, n = (rootO T i).length := ⟨_, rfl⟩
    have hnR1 : nR ≤ 1000 := by rw [hnR, hR, rootT_len]; have := (rootC_fi (T := T) (c := i) (by rw [← HK.out]; exact hii)).short; have := HK.out; omega
    rw [← rootT_len, ← hR, ← hnR, ← hnO]
    rw [← hR] at hl
    have HR := Lib.hid hR
    have HNR := Lib.hid hnR
    have HNO2 := Lib.hid hnO
    have HRl := Lib.hid (LRow.base hl (Nat.le_refl _))
    have HBF := Lib.hid (bw_call HBr.out hb)
    clear hl hb hR hnR hnO HRO HBr K1E p0 p1
    obtain ⟨nC, hnC⟩ : ∃ n, n = (rootC T i).length := ⟨_, rfl⟩
    go_upto_region 18 with (fail)
    obtain ⟨wG, hwG⟩ : ∃ U, U = wF.alloc (.cells #[.int .i64 (nO : Int), .slice Ar nR cr] 24) := ⟨_, rfl⟩
    have KXG : Hid (Blk wG wF.heap.size 24 #[.int .i64 (nO : Int), .slice Ar nR cr]) := by subst hwG; exact Lib.hid (Blk.new _ _ _)
    have HRlG : Hid (LRow wG wE.heap.size Ar cr R) := by subst hwG; exact Lib.hid (LRow.alloc HRl.out _)
    have HBG : Hid (Below w9.heap.size w9 wG) := by subst hwG; exact Lib.hid (bw_alloc HBF.out _)
    rw [← hwG]
    obtain ⟨bx, hbx⟩ : ∃ b, b = wF.heap.size := ⟨_, rfl⟩
    rw [← hbx] at KXG
    simp only [← hbx]
    clear hwG hbx HRl HBF hnC
    have K7G := Lib.hid (K79.out.below HBG.out K79.out.lt)
    have HLG : Hid (LRow wG w6.heap.size At ct LJ) := Lib.hid (LRow.below HL9.out HBG.out)
    have HSM := Lib.hid (soupSame_dec (nO : Int) (nN : Int) R LJ Ar At nR nJ cr ct wG (by omega) (by omega) (by rw [HNR.out]; exact LRow.tris HRlG.out) (by rw [HNJ.out]; exact LRow.tris HLG.out))
    have q0 : wG.cell? ⟨bx, 0, none⟩ = some (.int .i64 (nO : Int)) := KXG.out.cell 0
    have q1 : wG.cell? ⟨bx, 1, none⟩ = some (.slice Ar nR cr) := KXG.out.cell 1
    have q2 : wG.cell? ⟨b7, 0, none⟩ = some (.int .i64 (nN : Int)) := K7G.out.cell 0
    have q3 : wG.cell? ⟨b7, 1, none⟩ = some (.slice At nJ ct) := K7G.out.cell 1
    have HSI : Hid (((nO : Int) = (nN : Int) ∧ R = LJ) ↔ rowC T i = rowC T bc) := Lib.hid (by
     rw [rowC_eq, HNO2.out, HNO.out, HR.out, HLJ.out]
     constructor
     · rintro ⟨a, b⟩; exact ⟨by omega, b⟩
     · rintro ⟨a, b⟩; exact ⟨by omega, b⟩)
    by_cases hsm : rowC T i = rowC T bc
    · rw [decide_eq_true (HSI.out.2 hsm)] at HSM
      have HNX : Hid (manyC T bc (i + 1) = my + 1) := Lib.hid (by rw [manyC_yes hsm, HMY.out])
      clear hsm
      go_wp2_with fail
      refine HSM.out.mono ?_
      rintro e wH ⟨rfl, hb⟩
      have HBH := Lib.hid (bw_call HBG.out hb)
      clear hb
      go_wp2_with fail
      go_roundw
      case rel => exact ⟨i + 1, by omega, by rw [HNX.out]; go_num, by go_num, HBH⟩
      case measure => simp [intOf]; omega
    · rw [decide_eq_false (fun h => hsm (HSI.out.1 h))] at HSM
      have HNX : Hid (manyC T bc (i + 1) = my) := Lib.hid (by rw [manyC_no hsm, HMY.out])
      clear hsm
      go_wp2_with fail
      refine HSM.out.mono ?_
      rintro e wH ⟨rfl, hb⟩
      have HBH := Lib.hid (bw_call HBG.out hb)
      clear hb
      go_wp2_with fail
      go_roundw
      case rel => exact ⟨i + 1, by omega, by rw [HNX.out], by go_num, HBH⟩
      case measure => simp [intOf]; omega
  · obtain rfl : i = 3 * k := by omega
    have hiI : ¬ ((3 * k : Nat) : Int) < 3 * (k : Int) := by omega
    have hmn : my = n := by
     rw [HMY.out, HNN.out]
     unfold manyC
     rw [HK.out]
     exact class_len HS.out HK1.out (by rw [← HK.out]; exact hbcl)
    subst hmn
    obtain ⟨tl, hal⟩ := (all_group HS.out HP.out HO.out).2.2
    have HNI : Hid (∀ j, 0 < j → j < my → ws.getD j [] ≠ idL m ∧ IsoL m T T (ws.getD j [])) := Lib.hid fun j h0 hj => by
     have hjl : j < ws.length := by rw [HWL.out]; exact hj
     have hmem : ws.getD j [] ∈ ws := by
      rw [List.getD_eq_getElem?_getD, List.getElem?_eq_getElem hjl]
      exact List.getElem_mem hjl
     refine ⟨fun e => ?_, (allR_iff HS.out _).1 (HP.out.mem_iff.1 hmem)⟩
     have hnd : ws.Nodup := HP.out.nodup_iff.2 (allR_nd HS.out)
     have h0l : 0 < ws.length := by omega
     have e0 : ws[0] = idL m := by simp [hal]
     have ej : ws[j] = idL m := by
      rw [List.getD_eq_getElem?_getD, List.getElem?_eq_getElem hjl] at e
      exact e
     have hpw := List.pairwise_iff_getElem.1 hnd 0 j h0l hjl h0
     exact hpw (by rw [e0, ej])
    have HBE := HBr
    clear hal
    go_wp2_with fail
    go_loopw [17] (fun jv wr => ∃ j : Nat, 1 ≤ j ∧ j ≤ my ∧ jv = .int .i64 (j : Int) ∧ Hid (Below w9.heap.size w9 wr)) (fun jv _ => my - (intOf jv).toNat)
    case atStart => exact ⟨1, by omega, by omega, rfl, HBE⟩
    case round =>
     clear HBE HBr K1E p0 p1
     obtain ⟨j, hj1, hjn, rfl, HBr⟩ := hrel
     obtain ⟨wE, hwE⟩ : ∃ wE : World, wE = wr := ⟨_, rfl⟩
     rw [← hwE] at HBr ⊢
     clear hwE
     by_cases hjj : j < my
     · have hjI : (j : Int) < (my : Int) := by omega
       obtain ⟨gl, Ar, cr, hAl, hcl, hir⟩ := (HWS.out.below HBr.out).at_ (k := j) (by rw [HWL.out]; exact hjj)
       obtain ⟨hne, hiso⟩ := HNI.out j (by omega) hjj
       generalize ws.getD j [] = rn at hcl hir hne hiso
       have HT0 := Lib.hid (tris_on HBr.out (tris_on HB9.out HT.out))
       obtain ⟨ad, hAd, hq⟩ := HT0.out.triQ (Nat.le_refl _) hkpos
       rw [Nat.zero_mul, add_zero_] at hq
       have hok := tri_ok HS.out (i := 0) (by have := HK.out; omega)
       have hca : cv T 0 = (tri T 0).a := rfl
       have hcb : cv T (nxc 0) = (tri T 0).b := rfl
       have hfix : ¬ (gS rn (tri T 0).a = (tri T 0).a ∧ gS rn (tri T 0).b = (tri T 0).b) := fun h =>
        hne (fix_id HS.out HK1.out hiso (d := 0) (by have := HK.out; omega) (by rw [hca]; exact h.1) (by rw [hcb]; exact h.2))
       have ha := hok.a0
       have ha1 := hok.a1
       have hb := hok.b0
       have hb1 := hok.b1
       have hlen := hiso.len
       generalize tri T 0 = t at hq hfix ha ha1 hb hb1
       obtain ⟨ta, tb, tc⟩ := t
       dsimp only at hq hfix ha ha1 hb hb1
       obtain ⟨an, rfl⟩ : ∃ q : Nat, ta = (q : Int) := ⟨ta.toNat, by omega⟩
       obtain ⟨bn, rfl⟩ : ∃ q : Nat, tb = (q : Int) := ⟨tb.toNat, by omega⟩
       obtain ⟨g1, e1⟩ := gS_at (rn := rn) (v := (an : Int)) (by omega) (by omega)
       obtain ⟨g2, e2⟩ := gS_at (rn := rn) (v := (bn : Int)) (by omega) (by omega)
       obtain ⟨ar, hAr, c1⟩ := hir.cellQ (k := an) (x := gS rn (an : Int)) (by rw [e1]; exact List.getElem?_eq_getElem g1)
       obtain ⟨ar', hAr', c2⟩ := hir.cellQ (k := bn) (x := gS rn (bn : Int)) (by rw [e2]; exact List.getElem?_eq_getElem g2)
       obtain rfl : ar = ar' := by rw [hAr] at hAr'; injection hAr'
       rw [hlen] at hcl
       obtain ⟨xa, hxa⟩ : ∃ x, x = gS rn (an : Int) := ⟨_, rfl⟩
       obtain ⟨xb, hxb⟩ : ∃ x, x = gS rn (bn : Int) := ⟨_, rfl⟩
       rw [← hxa] at c1 hfix
       rw [← hxb] at c2 hfix
       have K1wE := Lib.hid (K19.out.below HBr.out K19.out.lt)
       subst hAl hAd hAr
       have CLwE : Hid (CellQ wE ⟨gl, j, none⟩ (.slice (some ar) m cr)) := Lib.hid ⟨hcl, World.block_lt_of_cell? wE _ hcl⟩
       have CAwE := Lib.hid c1
       have CBwE := Lib.hid c2
       have QAwE : Hid (CellQ wE ad (.int .i64 (an : Int))) := Lib.hid ⟨hq.c.c0, hq.lt⟩
       have QBwE : Hid (CellQ wE ⟨ad.block, ad.off + 1, none⟩ (.int .i64 (bn : Int))) := Lib.hid ⟨by rw [← spot_div hq.c.c0 1]; exact hq.c.c1, hq.lt⟩
       have hanm : (an : Int) < (m : Int) := ha1
       have hbnm : (bn : Int) < (m : Int) := hb1
       have han0 : (0 : Int) ≤ (an : Int) := by omega
       have hbn0 : (0 : Int) ≤ (bn : Int) := by omega
       have hkI : (0 : Int) < (k : Int) := by omega
       have hmm : ((m : Int) != (m : Int)) = false := by simp
       have HJwE := HBr
       clear e1 e2 g1 g2 c1 c2 hxa hxb hlen hiso hne hok hca hcb hq hcl hir hAr' ha ha1 hb hb1
       by_cases hxx : xa = (an : Int)
       · have hxe : (xa == (an : Int)) = true := by simp [hxx]
         have hyx : xb ≠ (bn : Int) := fun h => hfix ⟨hxx, h⟩
         have hye : (xb == (bn : Int)) = false := by simp [hyx]
         clear hfix hxx hyx
         go_upto_region 23 with (fail)
         refine wp_region_held_drew (S := fun w' => w'.cell? ⟨b1, 0, none⟩ = some (.int .i64 (m : Int)) ∧ w'.cell? ⟨b1, 1, none⟩ = some (.slice (some ad) k c) ∧ w'.cell? ⟨gl, j, none⟩ = some (.slice (some ar) m cr) ∧ w'.cell? (ar.add an) = some (.int .i64 xa) ∧ w'.cell? (ar.add bn) = some (.int .i64 xb) ∧ w'.cell? ad = some (.int .i64 (an : Int)) ∧ w'.cell? ⟨ad.block, ad.off + 1, none⟩ = some (.int .i64 (bn : Int))) (by kernel_rfl) ⟨(K1wE.out.drew.cell 0), (K1wE.out.drew.cell 1), (CLwE.out.drew.c), (CAwE.out.drew.c), (CBwE.out.drew.c), (QAwE.out.drew.c), (QBwE.out.drew.c)⟩ (fun hHeld => ?_)
         refine hKk 0 (v := ?v30) ?y30 ?r30
         case y30 => (intro w h; (try dsimp only at h); go_simp; try with_reducible rfl)
         (try simp only [Act.put, zQ1, zQ2, zQ3])
         refine hKk 1 (v := ?v31) ?y31 ?r31
         case y31 => (intro w h; (try dsimp only at h); go_simp; try with_reducible rfl)
         (try simp only [Act.put, zQ1, zQ2, zQ3])
         refine hKk 2 (v := ?v32) ?y32 ?r32
         case y32 => (intro w h; (try dsimp only at h); go_simp; try with_reducible rfl)
         (try simp only [Act.put, zQ1, zQ2, zQ3])
         refine hKk 3 (v := ?v33) ?y33 ?r33
         case y33 => (intro w h; (try dsimp only at h); go_simp; try with_reducible rfl)
         (try simp only [Act.put, zQ1, zQ2, zQ3])
         refine hKk 4 (v := ?v34) ?y34 ?r34
         case y34 => (intro w h; (try dsimp only at h); go_simp; try with_reducible rfl)
         (try simp only [Act.put, zQ1, zQ2, zQ3])
         refine hKk 5 (v := ?v35) ?y35 ?r35
         case y35 => (intro w h; (try dsimp only at h); go_simp; try with_reducible rfl)
         (try simp only [Act.put, zQ1, zQ2, zQ3])
         refine hKk 6 (v := ?v36) ?y36 ?r36
         case y36 => (intro w h; (try dsimp only at h); go_simp; try with_reducible rfl)
         (try simp only [Act.put, zQ1, zQ2, zQ3])
         refine hKk 7 (v := ?v37) ?y37 ?r37
         case y37 => (intro w h; (try dsimp only at h); go_simp; try with_reducible rfl)
         (try simp only [Act.put, zQ1, zQ2, zQ3])
         refine hKk 8 (v := ?v38) ?y38 ?r38
         case y38 => (intro w h; (try dsimp only at h); go_simp; try with_reducible rfl)
         (try simp only [Act.put, zQ1, zQ2, zQ3])
         refine hKk 9 (v := ?v39) ?y39 ?r39
         case y39 => (intro w h; (try dsimp only at h); go_simp; try with_reducible rfl)
         (try simp only [Act.put, zQ1, zQ2, zQ3])
         refine hKk 10 (v := ?v40) ?y40 ?r40
         case y40 => (intro w h; (try dsimp only at h); go_simp; try with_reducible rfl)
         (try simp only [Act.put, zQ1, zQ2, zQ3])
         refine hKk 11 (v := ?v41) ?y41 ?r41
         case y41 => (intro w h; (try dsimp only at h); go_simp; try with_reducible rfl)
         (try simp only [Act.put, zQ1, zQ2, zQ3])
         refine hKk 12 (v := ?v42) ?y42 ?r42
         case y42 => (intro w h; (try dsimp only at h); go_simp; try with_reducible rfl)
         (try simp only [Act.put, zQ1, zQ2, zQ3])
         refine hKk 13 (v := ?v43) ?y43 ?r43
         case y43 => (intro w h; (try dsimp only at h); go_simp; try with_reducible rfl)
         (try simp only [Act.put, zQ1, zQ2, zQ3])
         refine hKk 14 (v := ?v44) ?y44 ?r44
         case y44 => (intro w h; (try dsimp only at h); go_simp; try with_reducible rfl)
         (try simp only [Act.put, zQ1, zQ2, zQ3])
         refine hKk 15 (v := ?v45) ?y45 ?r45
         case y45 => (intro w h; (try dsimp only at h); go_simp; try with_reducible rfl)
         (try simp only [Act.put, zQ1, zQ2, zQ3])
         refine hKk 16 (v := ?v46) ?y46 ?r46
         case y46 => (intro w h; (try dsimp only at h); go_simp; try with_reducible rfl)
         (try simp only [Act.put, zQ1, zQ2, zQ3])
         refine hKk 17 (v := ?v47) ?y47 ?r47
         case y47 => (intro w h; (try dsimp only at h); go_simp; try with_reducible rfl)
         (try simp only [Act.put, zQ1, zQ2, zQ3])
         refine hKk 18 (v := ?v48) ?y48 ?r48
         case y48 => (intro w h; (try dsimp only at h); go_simp; try with_reducible rfl)
         (try simp only [Act.put, zQ1, zQ2, zQ3])
         refine hKk 19 (v := ?v49) ?y49 ?r49
         case y49 => (intro w h; (try dsimp only at h); go_simp; try with_reducible rfl)
         (try simp only [Act.put, zQ1, zQ2, zQ3])
         refine hKk 20 (v := ?v50) ?y50 ?r50
         case y50 => (intro w h; (try dsimp only at h); go_simp; try with_reducible rfl)
         (try simp only [Act.put, zQ1, zQ2, zQ3])
         refine hKk 21 (v := ?v51) ?y51 ?r51
         case y51 => (intro w h; (try dsimp only at h); go_simp; try with_reducible rfl)
         (try simp only [Act.put, zQ1, zQ2, zQ3])
         refine hKk 22 (v := ?v52) ?y52 ?r52
         case y52 => (intro w h; (try dsimp only at h); go_simp; try with_reducible rfl)
         (try simp only [Act.put, zQ1, zQ2, zQ3])
         refine hKk 23 (v := ?v53) ?y53 ?r53
         case y53 => (intro w h; (try dsimp only at h); go_simp; try with_reducible rfl)
         (try simp only [Act.put, zQ1, zQ2, zQ3])
         refine hKk 24 (v := ?v54) ?y54 ?r54
         case y54 => (intro w h; (try dsimp only at h); go_simp; try with_reducible rfl)
         (try simp only [Act.put, zQ1, zQ2, zQ3])
         refine hKk 25 (v := ?v55) ?y55 ?r55
         case y55 => (intro w h; (try dsimp only at h); go_simp; try with_reducible rfl)
         (try simp only [Act.put, zQ1, zQ2, zQ3])
         refine hKk 26 (v := ?v56) ?y56 ?r56
         case y56 => (intro w h; (try dsimp only at h); go_simp; try with_reducible rfl)
         (try simp only [Act.put, zQ1, zQ2, zQ3])
         refine hKk 27 (v := ?v57) ?y57 ?r57
         case y57 => (intro w h; (try dsimp only at h); go_simp; try with_reducible rfl)
         (try simp only [Act.put, zQ1, zQ2, zQ3])
         refine hKk 28 (v := ?v58) ?y58 ?r58
         case y58 => (intro w h; (try dsimp only at h); go_simp; try with_reducible rfl)
         (try simp only [Act.put, zQ1, zQ2, zQ3])
         refine hKk 29 (v := ?v59) ?y59 ?r59
         case y59 => (intro w h; (try dsimp only at h); go_simp; try with_reducible rfl)
         (try simp only [Act.put, zQ1, zQ2, zQ3])
         refine hKk 30 (v := ?v60) ?y60 ?r60
         case y60 => (intro w h; (try dsimp only at h); go_simp; try with_reducible rfl)
         (try simp only [Act.put, zQ1, zQ2, zQ3])
         refine hKk 31 (v := ?v61) ?y61 ?r61
         case y61 => (intro w h; (try dsimp only at h); go_simp; try with_reducible rfl)
         (try simp only [Act.put, zQ1, zQ2, zQ3])
         refine hKk 32 (v := ?v62) ?y62 ?r62
         case y62 => (intro w h; (try dsimp only at h); go_simp; try with_reducible rfl)
         (try simp only [Act.put, zQ1, zQ2, zQ3])
         refine hKk 33 (v := ?v63) ?y63 ?r63
         case y63 => (intro w h; (try dsimp only at h); go_simp; try with_reducible rfl)
         (try simp only [Act.put, zQ1, zQ2, zQ3])
         refine hKk 34 (v := ?v64) ?y64 ?r64
         case y64 => (intro w h; (try dsimp only at h); go_simp; try with_reducible rfl)
         (try simp only [Act.put, zQ1, zQ2, zQ3])
         refine hKk 35 (v := ?v65) ?y65 ?r65
         case y65 => (intro w h; (try dsimp only at h); go_simp; try with_reducible rfl)
         (try simp only [Act.put, zQ1, zQ2, zQ3])
         refine hKk 36 (v := ?v66) ?y66 ?r66
         case y66 => (intro w h; (try dsimp only at h); go_simp; try with_reducible rfl)
         (try simp only [Act.put, zQ1, zQ2, zQ3])
         refine hKk 37 (v := ?v67) ?y67 ?r67
         case y67 => (intro w h; (try dsimp only at h); go_simp; try with_reducible rfl)
         (try simp only [Act.put, zQ1, zQ2, zQ3])
         refine hKk 38 (v := ?v68) ?y68 ?r68
         case y68 => (intro w h; (try dsimp only at h); go_simp; try with_reducible rfl)
         (try simp only [Act.put, zQ1, zQ2, zQ3])
         refine hKk 39 (v := ?v69) ?y69 ?r69
         case y69 => (intro w h; (try dsimp only at h); go_simp; try with_reducible rfl)
         (try simp only [Act.put, zQ1, zQ2, zQ3])
         refine hKk 40 (v := ?v70) ?y70 ?r70
         case y70 => (intro w h; (try dsimp only at h); go_simp; try with_reducible rfl)
         (try simp only [Act.put, zQ1, zQ2, zQ3])
         refine hKk 41 (v := ?v71) ?y71 ?r71
         case y71 => (intro w h; (try dsimp only at h); go_simp; try with_reducible rfl)
         (try simp only [Act.put, zQ1, zQ2, zQ3])
         refine hKk 42 (v := ?v72) ?y72 ?r72
         case y72 => (intro w h; (try dsimp only at h); go_simp; try with_reducible rfl)
         (try simp only [Act.put, zQ1, zQ2, zQ3])
         refine hKk 43 (v := ?v73) ?y73 ?r73
         case y73 => (intro w h; (try dsimp only at h); go_simp; try with_reducible rfl)
         (try simp only [Act.put, zQ1, zQ2, zQ3])
         refine hKk 44 (v := ?v74) ?y74 ?r74
         case y74 => (intro w h; (try dsimp only at h); go_simp; try with_reducible rfl)
         (try simp only [Act.put, zQ1, zQ2, zQ3])
         refine hKk 45 (v := ?v75) ?y75 ?r75
         case y75 => (intro w h; (try dsimp only at h); go_simp; try with_reducible rfl)
         (try simp only [Act.put, zQ1, zQ2, zQ3])
         refine wpAnyH_done (by kernel_rfl) ?_ _
         have HJn : Hid (Below w9.heap.size w9 wE.drew) := Lib.hid (bw_drew HJwE.out)
         go_wp2_with fail
         go_roundw
         case rel => exact ⟨j + 1, by omega, by omega, by go_num, HJn⟩
         case measure => simp [intOf]; omega
       · have hxe : (xa == (an : Int)) = false := by simp [hxx]
         clear hfix hxx
         go_upto_region 23 with (fail)
         refine wp_region_held_drew (S := fun w' => w'.cell? ⟨b1, 0, none⟩ = some (.int .i64 (m : Int)) ∧ w'.cell? ⟨b1, 1, none⟩ = some (.slice (some ad) k c) ∧ w'.cell? ⟨gl, j, none⟩ = some (.slice (some ar) m cr) ∧ w'.cell? (ar.add an) = some (.int .i64 xa) ∧ w'.cell? (ar.add bn) = some (.int .i64 xb) ∧ w'.cell? ad = some (.int .i64 (an : Int)) ∧ w'.cell? ⟨ad.block, ad.off + 1, none⟩ = some (.int .i64 (bn : Int))) (by kernel_rfl) ⟨(K1wE.out.drew.cell 0), (K1wE.out.drew.cell 1), (CLwE.out.drew.c), (CAwE.out.drew.c), (CBwE.out.drew.c), (QAwE.out.drew.c), (QBwE.out.drew.c)⟩ (fun hHeld => ?_)
         refine hKk 0 (v := ?v1) ?y1 ?r1
         case y1 => (intro w h; (try dsimp only at h); go_simp; try with_reducible rfl)
         (try simp only [Act.put, zQ1, zQ2, zQ3])
         refine hKk 1 (v := ?v2) ?y2 ?r2
         case y2 => (intro w h; (try dsimp only at h); go_simp; try with_reducible rfl)
         (try simp only [Act.put, zQ1, zQ2, zQ3])
         refine hKk 2 (v := ?v3) ?y3 ?r3
         case y3 => (intro w h; (try dsimp only at h); go_simp; try with_reducible rfl)
         (try simp only [Act.put, zQ1, zQ2, zQ3])
         refine hKk 3 (v := ?v4) ?y4 ?r4
         case y4 => (intro w h; (try dsimp only at h); go_simp; try with_reducible rfl)
         (try simp only [Act.put, zQ1, zQ2, zQ3])
         refine hKk 4 (v := ?v5) ?y5 ?r5
         case y5 => (intro w h; (try dsimp only at h); go_simp; try with_reducible rfl)
         (try simp only [Act.put, zQ1, zQ2, zQ3])
         refine hKk 5 (v := ?v6) ?y6 ?r6
         case y6 => (intro w h; (try dsimp only at h); go_simp; try with_reducible rfl)
         (try simp only [Act.put, zQ1, zQ2, zQ3])
         refine hKk 6 (v := ?v7) ?y7 ?r7
         case y7 => (intro w h; (try dsimp only at h); go_simp; try with_reducible rfl)
         (try simp only [Act.put, zQ1, zQ2, zQ3])
         refine hKk 7 (v := ?v8) ?y8 ?r8
         case y8 => (intro w h; (try dsimp only at h); go_simp; try with_reducible rfl)
         (try simp only [Act.put, zQ1, zQ2, zQ3])
         refine hKk 8 (v := ?v9) ?y9 ?r9
         case y9 => (intro w h; (try dsimp only at h); go_simp; try with_reducible rfl)
         (try simp only [Act.put, zQ1, zQ2, zQ3])
         refine hKk 9 (v := ?v10) ?y10 ?r10
         case y10 => (intro w h; (try dsimp only at h); go_simp; try with_reducible rfl)
         (try simp only [Act.put, zQ1, zQ2, zQ3])
         refine hKk 10 (v := ?v11) ?y11 ?r11
         case y11 => (intro w h; (try dsimp only at h); go_simp; try with_reducible rfl)
         (try simp only [Act.put, zQ1, zQ2, zQ3])
         refine hKk 11 (v := ?v12) ?y12 ?r12
         case y12 => (intro w h; (try dsimp only at h); go_simp; try with_reducible rfl)
         (try simp only [Act.put, zQ1, zQ2, zQ3])
         refine hKk 12 (v := ?v13) ?y13 ?r13
         case y13 => (intro w h; (try dsimp only at h); go_simp; try with_reducible rfl)
         (try simp only [Act.put, zQ1, zQ2, zQ3])
         refine hKk 13 (v := ?v14) ?y14 ?r14
         case y14 => (intro w h; (try dsimp only at h); go_simp; try with_reducible rfl)
         (try simp only [Act.put, zQ1, zQ2, zQ3])
         refine hKk 14 (v := ?v15) ?y15 ?r15
         case y15 => (intro w h; (try dsimp only at h); go_simp; try with_reducible rfl)
         (try simp only [Act.put, zQ1, zQ2, zQ3])
         refine hKk 15 (v := ?v16) ?y16 ?r16
         case y16 => (intro w h; (try dsimp only at h); go_simp; try with_reducible rfl)
         (try simp only [Act.put, zQ1, zQ2, zQ3])
         refine hKk 16 (v := ?v17) ?y17 ?r17
         case y17 => (intro w h; (try dsimp only at h); go_simp; try with_reducible rfl)
         (try simp only [Act.put, zQ1, zQ2, zQ3])
         refine hKk 17 (v := ?v18) ?y18 ?r18
         case y18 => (intro w h; (try dsimp only at h); go_simp; try with_reducible rfl)
         (try simp only [Act.put, zQ1, zQ2, zQ3])
         refine hKk 18 (v := ?v19) ?y19 ?r19
         case y19 => (intro w h; (try dsimp only at h); go_simp; try with_reducible rfl)
         (try simp only [Act.put, zQ1, zQ2, zQ3])
         refine hKk 19 (v := ?v20) ?y20 ?r20
         case y20 => (intro w h; (try dsimp only at h); go_simp; try with_reducible rfl)
         (try simp only [Act.put, zQ1, zQ2, zQ3])
         refine hKk 20 (v := ?v21) ?y21 ?r21
         case y21 => (intro w h; (try dsimp only at h); go_simp; try with_reducible rfl)
         (try simp only [Act.put, zQ1, zQ2, zQ3])
         refine hKk 21 (v := ?v22) ?y22 ?r22
         case y22 => (intro w h; (try dsimp only at h); go_simp; try with_reducible rfl)
         (try simp only [Act.put, zQ1, zQ2, zQ3])
         refine hKk 22 (v := ?v23) ?y23 ?r23
         case y23 => (intro w h; (try dsimp only at h); go_simp; try with_reducible rfl)
         (try simp only [Act.put, zQ1, zQ2, zQ3])
         refine hKk 23 (v := ?v24) ?y24 ?r24
         case y24 => (intro w h; (try dsimp only at h); go_simp; try with_reducible rfl)
         (try simp only [Act.put, zQ1, zQ2, zQ3])
         refine hKk 24 (v := ?v25) ?y25 ?r25
         case y25 => (intro w h; (try dsimp only at h); go_simp; try with_reducible rfl)
         (try simp only [Act.put, zQ1, zQ2, zQ3])
         refine hKk 25 (v := ?v26) ?y26 ?r26
         case y26 => (intro w h; (try dsimp only at h); go_simp; try with_reducible rfl)
         (try simp only [Act.put, zQ1, zQ2, zQ3])
         refine hKk 26 (v := ?v27) ?y27 ?r27
         case y27 => (intro w h; (try dsimp only at h); go_simp; try with_reducible rfl)
         (try simp only [Act.put, zQ1, zQ2, zQ3])
         refine held_take (i := 27) rfl (by kernel_rfl) (by kernel_rfl) (by kernel_rfl) (fun _ _ _ h => h) (Or.inr ⟨by rfl, rfl⟩) (by assumption) ?_
         (try simp only [Act.put, zQ1, zQ2, zQ3])
         refine held_take (i := 28) rfl (by kernel_rfl) (by kernel_rfl) (by kernel_rfl) (fun _ _ _ h => h) (Or.inr ⟨by rfl, rfl⟩) (by assumption) ?_
         (try simp only [Act.put, zQ1, zQ2, zQ3])
         refine held_take (i := 29) rfl (by kernel_rfl) (by kernel_rfl) (by kernel_rfl) (fun _ _ _ h => h) (Or.inr ⟨by rfl, rfl⟩) (by assumption) ?_
         (try simp only [Act.put, zQ1, zQ2, zQ3])
         refine held_take (i := 30) rfl (by kernel_rfl) (by kernel_rfl) (by kernel_rfl) (fun _ _ _ h => h) (Or.inr ⟨by rfl, rfl⟩) (by assumption) ?_
         (try simp only [Act.put, zQ1, zQ2, zQ3])
         refine held_take (i := 31) rfl (by kernel_rfl) (by kernel_rfl) (by kernel_rfl) (fun _ _ _ h => h) (Or.inr ⟨by rfl, rfl⟩) (by assumption) ?_
         (try simp only [Act.put, zQ1, zQ2, zQ3])
         refine held_take (i := 32) rfl (by kernel_rfl) (by kernel_rfl) (by kernel_rfl) (fun _ _ _ h => h) (Or.inr ⟨by rfl, rfl⟩) (by assumption) ?_
         (try simp only [Act.put, zQ1, zQ2, zQ3])
         refine held_take (i := 33) rfl (by kernel_rfl) (by kernel_rfl) (by kernel_rfl) (fun _ _ _ h => h) (Or.inr ⟨by rfl, rfl⟩) (by assumption) ?_
         (try simp only [Act.put, zQ1, zQ2, zQ3])
         refine held_take (i := 34) rfl (by kernel_rfl) (by kernel_rfl) (by kernel_rfl) (fun _ _ _ h => h) (Or.inr ⟨by rfl, rfl⟩) (by assumption) ?_
         (try simp only [Act.put, zQ1, zQ2, zQ3])
         refine held_take (i := 35) rfl (by kernel_rfl) (by kernel_rfl) (by kernel_rfl) (fun _ _ _ h => h) (Or.inr ⟨by rfl, rfl⟩) (by assumption) ?_
         (try simp only [Act.put, zQ1, zQ2, zQ3])
         refine held_take (i := 36) rfl (by kernel_rfl) (by kernel_rfl) (by kernel_rfl) (fun _ _ _ h => h) (Or.inr ⟨by rfl, rfl⟩) (by assumption) ?_
         (try simp only [Act.put, zQ1, zQ2, zQ3])
         refine held_take (i := 37) rfl (by kernel_rfl) (by kernel_rfl) (by kernel_rfl) (fun _ _ _ h => h) (Or.inr ⟨by rfl, rfl⟩) (by assumption) ?_
         (try simp only [Act.put, zQ1, zQ2, zQ3])
         refine held_take (i := 38) rfl (by kernel_rfl) (by kernel_rfl) (by kernel_rfl) (fun _ _ _ h => h) (Or.inr ⟨by rfl, rfl⟩) (by assumption) ?_
         (try simp only [Act.put, zQ1, zQ2, zQ3])
         refine held_take (i := 39) rfl (by kernel_rfl) (by kernel_rfl) (by kernel_rfl) (fun _ _ _ h => h) (Or.inr ⟨by rfl, rfl⟩) (by assumption) ?_
         (try simp only [Act.put, zQ1, zQ2, zQ3])
         refine held_take (i := 40) rfl (by kernel_rfl) (by kernel_rfl) (by kernel_rfl) (fun _ _ _ h => h) (Or.inr ⟨by rfl, rfl⟩) (by assumption) ?_
         (try simp only [Act.put, zQ1, zQ2, zQ3])
         refine held_take (i := 41) rfl (by kernel_rfl) (by kernel_rfl) (by kernel_rfl) (fun _ _ _ h => h) (Or.inr ⟨by rfl, rfl⟩) (by assumption) ?_
         (try simp only [Act.put, zQ1, zQ2, zQ3])
         refine held_take (i := 42) rfl (by kernel_rfl) (by kernel_rfl) (by kernel_rfl) (fun _ _ _ h => h) (Or.inr ⟨by rfl, rfl⟩) (by assumption) ?_
         (try simp only [Act.put, zQ1, zQ2, zQ3])
         refine held_take (i := 43) rfl (by kernel_rfl) (by kernel_rfl) (by kernel_rfl) (fun _ _ _ h => h) (Or.inr ⟨by rfl, rfl⟩) (by assumption) ?_
         (try simp only [Act.put, zQ1, zQ2, zQ3])
         refine hKk 44 (v := ?v28) ?y28 ?r28
         case y28 => (intro w h; (try dsimp only at h); go_simp; try with_reducible rfl)
         (try simp only [Act.put, zQ1, zQ2, zQ3])
         refine hKk 45 (v := ?v29) ?y29 ?r29
         case y29 => (intro w h; (try dsimp only at h); go_simp; try with_reducible rfl)
         (try simp only [Act.put, zQ1, zQ2, zQ3])
         refine wpAnyH_done (by kernel_rfl) ?_ _
         have HJn : Hid (Below w9.heap.size w9 wE.drew) := Lib.hid (bw_drew HJwE.out)
         go_wp2_with fail
         go_roundw
         case rel => exact ⟨j + 1, by omega, by omega, by go_num, HJn⟩
         case measure => simp [intOf]; omega
     · obtain rfl : j = my := by omega
       have hjI : ¬ (j : Int) < (j : Int) := by omega
       have hjb : ((j : Int) == (j : Int)) = true := by simp
       go_wp2_with fail
       go_ret
       exact ⟨rfl, bw_call HB9.out HBr.out⟩
theorem lawDividesN_any (N : Int) (A : Option Addr) (n c : Nat) (T : List Tri) (w : World) (ht : TrisAt w w.heap.size A n T) :
  Calls Tryz.prog 6 #[.agg #[.int .i64 N, .slice A n c]] w (BoolPost w true) := by
 obtain rfl : n = T.length := ht.len.symm
 exact lawDivides_any N A c T w ht
end Go.Proofs.YtiajlmajenabiaaGreat
