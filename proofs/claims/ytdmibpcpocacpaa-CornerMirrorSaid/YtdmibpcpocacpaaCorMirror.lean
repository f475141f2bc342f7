/- CornerMirror, walked. No condition. -/
import Derived.Test.YtdmibpcpocacpaaCorner
import Derived.Test.YtdmibpcpocacpaaCorP2
import Derived.Test.YtdmibpcpocacpaaEach8
import Derived.IntWalk
namespace Go.Proofs.Ytdmibpcpocacpaa
open Go.RowKit

set_option linter.unusedSimpArgs false
set_option linter.unusedVariables false
attribute [local irreducible] Blk LRow World.alloc World.setCell World.cell? World.frozen? MapV
set_option maxRecDepth 100000 in
set_option maxHeartbeats 8000000 in
theorem mirrorLaw_any (N : Int) (A : Option Addr) (n c : Nat) (T : List Tri) (w : World) (ht : TrisAt w w.heap.size A n T) :
    Calls Try.prog 6 #[.agg #[.int .i64 N, .slice A n c]] w (BoolPost w true) := by
  obtain rfl : n = T.length := ht.len.symm
  have HT := Lib.hid ht
  clear ht
  obtain ⟨V, hV⟩ : ∃ V, V = (w.alloc (.cells #[.int .i64 N, .slice A T.length c] 24)) := ⟨_, rfl⟩
  have GA0 : Hid (Blk V w.heap.size 24 #[.int .i64 N, .slice A T.length c]) := by subst hV; exact Lib.hid (Blk.new _ _ _)
  have HB0 : Hid (Below w.heap.size w V) := by subst hV; exact Lib.hid (bw_alloc (Below.refl _ _) _)
  go_enter Try.func6, Try.ntmps6
  go_upto_region 1 with (fail)
  rw [← hV]
  clear hV
  obtain ⟨ga, hga⟩ : ∃ g, g = w.heap.size := ⟨_, rfl⟩
  rw [← hga] at GA0
  simp only [← hga]
  clear hga
  go_wp2_with fail
  refine (awake_any _).mono ?_
  rintro e w1 ⟨rfl, hb⟩
  have GA1 := Lib.hid (blk_call GA0.out hb)
  have HB1 := Lib.hid (bw_call HB0.out hb)
  clear hb HB0 GA0
  obtain ⟨s0, s1, _, _, _⟩ := soup_facts GA1.out
  go_wp2_with fail
  refine (laid_any N A T.length c T w1 ((HT.out.below HB1.out).more HB1.out.size)).mono ?_
  rintro e w3 (⟨hbg, rfl, hb⟩ | ⟨hbg, hx, rfl, hb⟩ | ⟨hbg, hx, g, rfl, htab, hb⟩)
  · have HB3 := Lib.hid (bw_call HB1.out hb)
    clear hb s0 s1 hbg
    go_wp2_with fail
    go_ret
    exact ⟨rfl, HB3.out⟩
  · have HB3 := Lib.hid (bw_call HB1.out hb)
    clear hb s0 s1 hbg hx
    go_wp2_with fail
    go_ret
    exact ⟨rfl, HB3.out⟩
  · have HBw3 := Lib.hid (bw_call HB1.out hb)
    have GAw3 := Lib.hid (blk_call GA1.out hb)
    have hT8 : T.length ≤ 8192 := by unfold bigS at hbg; omega
    have hT40 : T.length ≤ 40 := by unfold bigS at hbg; omega
    obtain ⟨m, hs⟩ := surf_of (checkR_zero (by rw [hx])).1
    obtain rfl : N = (m : Int) := hs.n
    have TBw3 : Hid (TabAt w3 0 g (m : Int) T) := Lib.hid (htab.base (Nat.zero_le _))
    have hm1 := hs.m1
    have HS := Lib.hid hs
    clear hb htab hx hs hbg s0 s1 HB1 GA1
    obtain ⟨s0, s1, _, _, _⟩ := soup_facts GAw3.out
    have hse : SurfE m T := (surf_e.1 HS.out).2
    have hsm := surf_mir hse
    have HCK : Hid (checkR (m : Int) (T.map mirT) = (0, 0, 0)) := Lib.hid (by unfold checkR; rw [is_surf.2 ⟨m, rfl, hsm⟩]; rfl)
    have HSE := Lib.hid hse
    have HSM := Lib.hid hsm
    clear hse hsm
    go_wp2_with fail
    refine (mirror_any (m : Int) A T.length c T w3 (by omega) ((HT.out.below HBw3.out).more HBw3.out.size)).mono ?_
    rintro e w4 ⟨A1, c1, rfl, hr, hb⟩
    have TBw4 := Lib.hid (TBw3.out.below hb)
    have HBw4 := Lib.hid (bw_call HBw3.out hb)
    have HR := Lib.hid hr
    clear hr
    clear hb TBw3 HBw3
    go_wp2_with fail
    refine (new_any (m : Int) A1 T.length c1 (T.map mirT) w4 (by omega) (by have h := HR.out.tris; simpa only [List.length_map] using h)).mono ?_
    rintro e w5 (⟨hx, g', rfl, htab, hb⟩ | ⟨hx, rfl, hb⟩)
    rotate_left
    · exact absurd HCK.out hx
    have TBw5 := Lib.hid (TBw4.out.below hb)
    have HBw5 := Lib.hid (bw_call HBw4.out hb)
    have TUw5 : Hid (TabAt w5 0 g' (m : Int) (T.map mirT)) := Lib.hid (htab.base (Nat.zero_le _))
    clear hb htab hx HR TBw4 HBw4 s0 s1 GAw3 HCK
    unfold wv
    simp only
    obtain ⟨w6, hw6⟩ : ∃ w6, w6 = w5.alloc (.cells #[.int .i64 0, .int .i64 0, .int .i64 0] 41) := ⟨_, rfl⟩
    have TBw6 : Hid (TabAt w6 0 g (m : Int) T) := by subst hw6; exact Lib.hid (TBw5.out.alloc _)
    have TUw6 : Hid (TabAt w6 0 g' (m : Int) (T.map mirT)) := by subst hw6; exact Lib.hid (TUw5.out.alloc _)
    have HBw6 : Hid (Below w.heap.size w w6) := by subst hw6; exact Lib.hid (bw_alloc HBw5.out _)
    go_upto_region 9 with (fail)
    rw [← hw6]
    clear hw6 TBw5 TUw5 HBw5
    go_wp2_with fail
    refine (tris_any g 0 m T w6 TBw6.out.s).mono ?_
    rintro e w7 ⟨rfl, rfl⟩
    go_wp2_with fail
    go_loopw [26] (fun iv wr => ∃ k : Nat, k ≤ 3 * T.length ∧ iv = .int .i64 k ∧ Hid (TabAt wr 0 g (m : Int) T) ∧ Hid (TabAt wr 0 g' (m : Int) (T.map mirT)) ∧ Hid (Below w.heap.size w wr)) (fun iv _ => 3 * T.length - (intOf iv).toNat)
    case atStart => exact ⟨0, by omega, rfl, TBw6, TUw6, HBw6⟩
    case round =>
      obtain ⟨k, hk, rfl, TBk, TUk, HBk⟩ := hrel
      obtain ⟨wB, hwB⟩ : ∃ wB : World, wB = wr := ⟨_, rfl⟩
      rw [← hwB] at TBk TUk HBk ⊢
      clear hwB TBw6 TUw6 HBw6
      by_cases hlt : k < 3 * T.length
      · have hki : (k : Int) < 3 * (T.length : Int) := by omega
        have hT8' : (T.map mirT).length ≤ 8192 := by rw [List.length_map]; exact hT8
        have n1 := nxc_lt hlt
        have n3 := pvc_lt hlt
        have nm := mirC_lt hlt
        have nm' : mirC k < 3 * (T.map mirT).length := by rw [List.length_map]; exact nm
        have o1 := cv_ok HS.out.ok n1
        have o2 := cv_ok HS.out.ok n3
        have hwf1 : wfE (cv T (pvc k), cv T (nxc k)) := ⟨wf_small (by omega) (by omega), wf_small (by omega) (by omega)⟩
        have hwf0 : wfE (cv T (nxc k), cv T (pvc k)) := ⟨hwf1.2, hwf1.1⟩
        have e1 : edgeI T (k : Int) = (cv T (nxc k), cv T (pvc k)) := edgeI_nat hlt
        have e2 : edgeI (T.map mirT) (mirC k : Int) = (cv T (pvc k), cv T (nxc k)) := (edgeI_nat nm').trans (ce_mir hlt)
        have f1 : facingI (T.map mirT) (cv T (pvc k), cv T (nxc k)) = (mirC k : Int) := by
          have h := facing_mir HSE.out hlt
          unfold facingI
          unfold ce at h
          rw [h]
          rfl
        have v1 : vertexI (T.map mirT) (mirC k : Int) = cv T k := (vertexI_nat nm').trans (cv_mir hlt)
        have v2 := vertexI_nat hlt
        have b1 : oppI T (k : Int) = optI (oppF T k) := by unfold oppI oppF facingI; rw [edgeI_nat hlt]
        have b2 : oppI (T.map mirT) (mirC k : Int) = optI ((oppF T k).map mirC) := by rw [← opp_mir HSE.out hlt]; unfold oppI oppF facingI; rw [edgeI_nat nm']
        have HOP : Hid (∀ d, oppF T k = some d → d < 3 * T.length) := Lib.hid fun d hd => (facing_some hd).1
        obtain ⟨ea, hea⟩ : ∃ ea, ea = cv T (nxc k) := ⟨_, rfl⟩
        obtain ⟨eb, heb⟩ : ∃ eb, eb = cv T (pvc k) := ⟨_, rfl⟩
        rw [← hea, ← heb] at hwf0 hwf1 f1 e1 e2
        have HWF1 := Lib.hid hwf1
        have HWK : Hid (wfE ((edgeI T (k : Int)).2, (edgeI T (k : Int)).1)) := Lib.hid (by rw [e1]; exact hwf1)
        have HWU : Hid (wfE ((edgeI (T.map mirT) (mirC k : Int)).2, (edgeI (T.map mirT) (mirC k : Int)).1)) := Lib.hid (by rw [e2]; exact hwf0)
        have HE1 : Hid (∀ (W : World), TabAt W 0 g (m : Int) T → Calls Try.prog 18 #[.pointer (some ⟨g, 0, none⟩), .int .i64 (k : Int)] W (EdPost W (ea, eb))) := Lib.hid fun W h => e1 ▸ edge_any g 0 m T k W hT8 h.s
        have HF1 : Hid (∀ (W : World), TabAt W 0 g' (m : Int) (T.map mirT) → Calls Try.prog 24 #[.pointer (some ⟨g', 0, none⟩), .agg #[.int .i64 eb, .int .i64 ea]] W (IntPost W (mirC k : Int))) := Lib.hid fun W h => f1 ▸ facing_any g' 0 m (T.map mirT) eb ea W hT8' HWF1.out h
        have HV1 : Hid (∀ (W : World), TabAt W 0 g' (m : Int) (T.map mirT) → Calls Try.prog 14 #[.pointer (some ⟨g', 0, none⟩), .int .i64 (mirC k : Int)] W (IntPost W (cv T k))) := Lib.hid fun W h => v1 ▸ (vertex_any g' 0 m (T.map mirT) (mirC k) W hT8' h.s).mono fun e w' h => int_of_is h
        have HV2 : Hid (∀ (W : World), TabAt W 0 g (m : Int) T → Calls Try.prog 14 #[.pointer (some ⟨g, 0, none⟩), .int .i64 (k : Int)] W (IntPost W (cv T k))) := Lib.hid fun W h => v2 ▸ (vertex_any g 0 m T k W hT8 h.s).mono fun e w' h => int_of_is h
        have HO1 : Hid (∀ (W : World), TabAt W 0 g' (m : Int) (T.map mirT) → Calls Try.prog 17 #[.pointer (some ⟨g', 0, none⟩), .int .i64 (mirC k : Int)] W (IntPost W (optI ((oppF T k).map mirC)))) := Lib.hid fun W h => b2 ▸ opp_any g' 0 m (T.map mirT) (mirC k) W hT8' HWU.out h
        have HO2 : Hid (∀ (W : World), TabAt W 0 g (m : Int) T → Calls Try.prog 17 #[.pointer (some ⟨g, 0, none⟩), .int .i64 (k : Int)] W (IntPost W (optI (oppF T k)))) := Lib.hid fun W h => b1 ▸ opp_any g 0 m T k W hT8 HWK.out h

        have hm3 : mirC k / 3 = k / 3 := mirC_div k
        have t1 : Int.tdiv (mirC k : Int) 3 = ((k / 3 : Nat) : Int) := by rw [← hm3]; exact Int.ofNat_tdiv _ 3
        have t2 : Int.tdiv (k : Int) 3 = ((k / 3 : Nat) : Int) := Int.ofNat_tdiv k 3
        have t3 : (mirC k : Int) / 3 = ((k / 3 : Nat) : Int) := by omega
        have t4 : (k : Int) / 3 = ((k / 3 : Nat) : Int) := by omega
        have hw1 : IntKind.i64.wrap ((k / 3 : Nat) : Int) = ((k / 3 : Nat) : Int) := IntWalk.i64_in _ (by omega)
        clear v1 v2 e1 e2 f1 b1 b2 hea heb hwf0 hwf1 o1 o2 n1 n3 nm nm' hm3 HWF1 HWK HWU
        generalize mirC k = mk at *
        generalize cv T k = vk at *
        generalize k / 3 = kq at *
        go_wp2_with fail
        refine (HE1.out wB TBk.out).mono ?_
        rintro e w8 ⟨rfl, hb⟩
        have TBw8 := Lib.hid (TBk.out.below hb)
        have TUw8 := Lib.hid (TUk.out.below hb)
        have HBw8 := Lib.hid (bw_call HBk.out hb)
        clear hb TBk TUk HBk HE1
        obtain ⟨w9, hw9⟩ : ∃ w9, w9 = w8.alloc (.cells #[.int .i64 ea, .int .i64 eb] 31) := ⟨_, rfl⟩
        have GEw9 : Hid (Blk w9 w8.heap.size 31 #[.int .i64 ea, .int .i64 eb]) := by subst hw9; exact Lib.hid (Blk.new _ _ _)
        have TBw9 : Hid (TabAt w9 0 g (m : Int) T) := by subst hw9; exact Lib.hid (TBw8.out.alloc _)
        have TUw9 : Hid (TabAt w9 0 g' (m : Int) (T.map mirT)) := by subst hw9; exact Lib.hid (TUw8.out.alloc _)
        have HBw9 : Hid (Below w.heap.size w w9) := by subst hw9; exact Lib.hid (bw_alloc HBw8.out _)
        go_upto_region 13 with (fail)
        rw [← hw9]
        generalize w8.heap.size = ge at *
        clear hw9 TBw8 TUw8 HBw8
        obtain ⟨e0, e1, _, _⟩ := edge_facts GEw9.out
        go_wp2_with fail
        refine (HF1.out w9 TUw9.out).mono ?_
        rintro e w10 ⟨rfl, hb⟩
        have TBw10 := Lib.hid (TBw9.out.below hb)
        have TUw10 := Lib.hid (TUw9.out.below hb)
        have HBw10 := Lib.hid (bw_call HBw9.out hb)
        clear hb TBw9 TUw9 HBw9
        clear HF1 e0 e1 GEw9
        go_wp2_with fail
        refine (HV1.out w10 TUw10.out).mono ?_
        rintro e w11 ⟨rfl, hb⟩
        have TBw11 := Lib.hid (TBw10.out.below hb)
        have TUw11 := Lib.hid (TUw10.out.below hb)
        have HBw11 := Lib.hid (bw_call HBw10.out hb)
        clear hb TBw10 TUw10 HBw10
        clear HV1
        go_wp2_with fail
        refine (HV2.out w11 TBw11.out).mono ?_
        rintro e w12 ⟨rfl, hb⟩
        have TBw12 := Lib.hid (TBw11.out.below hb)
        have TUw12 := Lib.hid (TUw11.out.below hb)
        have HBw12 := Lib.hid (bw_call HBw11.out hb)
        clear hb TBw11 TUw11 HBw11
        clear HV2
        cases ho : oppF T k with
        | none =>
          rw [ho] at HO1 HO2
          replace HO1 : Hid (∀ (W : World), TabAt W 0 g' (m : Int) (T.map mirT) → Calls Try.prog 17 #[.pointer (some ⟨g', 0, none⟩), .int .i64 (mk : Int)] W (IntPost W (-1))) := HO1
          replace HO2 : Hid (∀ (W : World), TabAt W 0 g (m : Int) T → Calls Try.prog 17 #[.pointer (some ⟨g, 0, none⟩), .int .i64 (k : Int)] W (IntPost W (-1))) := HO2
          clear ho HOP
          go_wp2_with fail
          refine (HO1.out w12 TUw12.out).mono ?_
          rintro e w13 ⟨rfl, hb⟩
          have TBw13 := Lib.hid (TBw12.out.below hb)
          have TUw13 := Lib.hid (TUw12.out.below hb)
          have HBw13 := Lib.hid (bw_call HBw12.out hb)
          clear hb TBw12 TUw12 HBw12
          go_wp2_with fail
          refine (HO2.out w13 TBw13.out).mono ?_
          rintro e w14 ⟨rfl, hb⟩
          have TBw14 := Lib.hid (TBw13.out.below hb)
          have TUw14 := Lib.hid (TUw13.out.below hb)
          have HBw14 := Lib.hid (bw_call HBw13.out hb)
          clear hb TBw13 TUw13 HBw13
          go_wp2_with fail
          refine (HO2.out w14 TBw14.out).mono ?_
          rintro e w15 ⟨rfl, hb⟩
          have TBw15 := Lib.hid (TBw14.out.below hb)
          have TUw15 := Lib.hid (TUw14.out.below hb)
          have HBw15 := Lib.hid (bw_call HBw14.out hb)
          clear hb TBw14 TUw14 HBw14
          go_wp2_with fail
          go_roundw
          case rel => exact ⟨k + 1, by omega, by go_num, TBw15, TUw15, HBw15⟩
          case measure => simp [intOf]; omega
        | some d =>
          have hd := HOP.out d ho
          rw [ho] at HO1 HO2
          replace HO1 : Hid (∀ (W : World), TabAt W 0 g' (m : Int) (T.map mirT) → Calls Try.prog 17 #[.pointer (some ⟨g', 0, none⟩), .int .i64 (mk : Int)] W (IntPost W (mirC d : Int))) := HO1
          replace HO2 : Hid (∀ (W : World), TabAt W 0 g (m : Int) T → Calls Try.prog 17 #[.pointer (some ⟨g, 0, none⟩), .int .i64 (k : Int)] W (IntPost W (d : Int))) := HO2
          have hd3 : mirC d / 3 = d / 3 := mirC_div d
          have u1 : Int.tdiv (mirC d : Int) 3 = ((d / 3 : Nat) : Int) := by rw [← hd3]; exact Int.ofNat_tdiv _ 3
          have u2 : Int.tdiv (d : Int) 3 = ((d / 3 : Nat) : Int) := Int.ofNat_tdiv d 3
          have u3 : (mirC d : Int) / 3 = ((d / 3 : Nat) : Int) := by omega
          have u4 : (d : Int) / 3 = ((d / 3 : Nat) : Int) := by omega
          have hw2 : IntKind.i64.wrap ((d / 3 : Nat) : Int) = ((d / 3 : Nat) : Int) := IntWalk.i64_in _ (by omega)
          clear ho HOP hd3 hd
          generalize mirC d = md at *
          generalize d / 3 = dq at *
          go_wp2_with fail
          refine (HO1.out w12 TUw12.out).mono ?_
          rintro e w13 ⟨rfl, hb⟩
          have TBw13 := Lib.hid (TBw12.out.below hb)
          have TUw13 := Lib.hid (TUw12.out.below hb)
          have HBw13 := Lib.hid (bw_call HBw12.out hb)
          clear hb TBw12 TUw12 HBw12
          go_wp2_with fail
          refine (HO2.out w13 TBw13.out).mono ?_
          rintro e w14 ⟨rfl, hb⟩
          have TBw14 := Lib.hid (TBw13.out.below hb)
          have TUw14 := Lib.hid (TUw13.out.below hb)
          have HBw14 := Lib.hid (bw_call HBw13.out hb)
          clear hb TBw13 TUw13 HBw13
          go_wp2_with fail
          refine (HO2.out w14 TBw14.out).mono ?_
          rintro e w15 ⟨rfl, hb⟩
          have TBw15 := Lib.hid (TBw14.out.below hb)
          have TUw15 := Lib.hid (TUw14.out.below hb)
          have HBw15 := Lib.hid (bw_call HBw14.out hb)
          clear hb TBw14 TUw14 HBw14
          go_wp2_with fail
          refine (HO1.out w15 TUw15.out).mono ?_
          rintro e w16 ⟨rfl, hb⟩
          have TBw16 := Lib.hid (TBw15.out.below hb)
          have TUw16 := Lib.hid (TUw15.out.below hb)
          have HBw16 := Lib.hid (bw_call HBw15.out hb)
          clear hb TBw15 TUw15 HBw15
          go_wp2_with fail
          refine (HO2.out w16 TBw16.out).mono ?_
          rintro e w17 ⟨rfl, hb⟩
          have TBw17 := Lib.hid (TBw16.out.below hb)
          have TUw17 := Lib.hid (TUw16.out.below hb)
          have HBw17 := Lib.hid (bw_call HBw16.out hb)
          clear hb TBw16 TUw16 HBw16
          go_wp2_with fail
          go_roundw
          case rel => exact ⟨k + 1, by omega, by go_num, TBw17, TUw17, HBw17⟩
          case measure => simp [intOf]; omega
      · obtain rfl : k = 3 * T.length := by omega
        go_wp2_with fail
        go_ret
        exact ⟨rfl, HBk.out⟩
end Go.Proofs.Ytdmibpcpocacpaa
