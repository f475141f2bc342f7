/- SeamEdges, walked. -/
import Derived.Test.YtcahbcminonfbaaGreatSmW
namespace Go.Proofs.YtcahbcminonfbaaGreat
open Go.RowKit

set_option linter.unusedSimpArgs false
set_option linter.unusedVariables false
theorem BR.drewN {w : World} {B c : Nat} {A : Option Addr} {L : List Bool} (h : BR w B A c L) (n : Nat) : BR (w.drewN n) B A c L := h
attribute [local irreducible] Blk LRow World.alloc World.setCell World.cell? World.frozen? MapV ERow BR
set_option maxRecDepth 100000 in
set_option maxHeartbeats 8000000 in
theorem edgesLaw_any (N : Int) (A : Option Addr) (n c : Nat) (T : List Tri) (Ak : Option Addr) (nk ck : Nat) (K : List Int) (w : World) (hnk : K.length = nk) (hnk2 : nk ≤ 9223372036854775807) (ht : TrisAt w w.heap.size A n T) (hk : Reads w w.heap.size 1 Ak nk (ZL K)) :
    Calls Tryz.prog 3 #[.agg #[.int .i64 N, .slice A n c], .slice Ak nk ck] w (BoolPost w true) := by
  obtain rfl : n = T.length := ht.len.symm
  subst hnk
  have HT := Lib.hid ht
  have HK0 : Hid (KR w Ak K) := Lib.hid ⟨hk⟩
  clear ht hk
  obtain ⟨V, hV⟩ : ∃ V, V = w.alloc (.cells #[.int .i64 N, .slice A T.length c] 24) := ⟨_, rfl⟩
  have GA0 : Hid (Blk V w.heap.size 24 #[.int .i64 N, .slice A T.length c]) := by subst hV; exact Lib.hid (Blk.new _ _ _)
  have HB0 : Hid (Below w.heap.size w V) := by subst hV; exact Lib.hid (bw_alloc (Below.refl _ _) _)
  go_enter Tryz.func3, Tryz.ntmps3
  go_upto_region 1 with (fail)
  rw [← hV]
  clear hV
  obtain ⟨ga, hga⟩ : ∃ g, g = w.heap.size := ⟨_, rfl⟩
  rw [← hga] at GA0
  simp only [← hga]
  clear hga
  go_wp2_with fail
  refine (awake_any _).mono ?_
  rintro e w1 ⟨rfl, hb⟩
  have GA1 := Lib.hid (blk_call GA0.out hb)
  have HB1 := Lib.hid (bw_call HB0.out hb)
  clear hb HB0 GA0
  by_cases hk200 : 200 < K.length
  · have hki : (200 : Int) < (K.length : Int) := by omega
    go_wp2_with fail
    go_ret
    exact ⟨rfl, HB1.out⟩
  have hki : ¬ (200 : Int) < (K.length : Int) := by omega
  obtain ⟨s0, s1, _, _, _⟩ := soup_facts GA1.out
  go_wp2_with fail
  refine (table31_any N A c T w1 ((HT.out.below HB1.out).more HB1.out.size)).mono ?_
  rintro e w2 (⟨rfl, hb, _⟩ | ⟨g, m, rfl, hm60, hT40, hck, rfl, htab, hb⟩)
  · have HB2 := Lib.hid (bw_call HB1.out hb)
    clear hb
    go_wp2_with fail
    refine (edges_nil Ak ck K.length w2).mono ?_
    rintro e w3 ⟨rfl, hw3⟩
    replace hw3 := hw3.symm
    subst hw3
    go_wp2_with fail
    refine (bits_nil Ak ck K.length w2).mono ?_
    rintro e w3 ⟨rfl, hw3⟩
    replace hw3 := hw3.symm
    subst hw3
    go_wp2_with fail
    go_ret
    exact ⟨rfl, HB2.out⟩
  have GA2 := Lib.hid (blk_call GA1.out hb)
  have HT2 := Lib.hid htab
  have HB2 := Lib.hid (bw_call HB1.out hb)
  have HSE := Lib.hid htab.s
  clear hb htab hck GA1 HB1 s0 s1
  have HK2 := Lib.hid (HK0.out.below HB2.out)
  obtain ⟨s0, s1, _, _, _⟩ := soup_facts GA2.out
  by_cases hok : okK T.length K
  rotate_left
  · go_wp2_with fail
    refine (edges_bad g m T Ak ck K w2 (by omega) HT2.out HK2.out hok).mono ?_
    rintro e w3 ⟨rfl, hw3⟩
    replace hw3 := hw3.symm
    subst hw3
    go_wp2_with fail
    refine (bits_bad g m T Ak ck K w2 (by omega) HT2.out HK2.out hok).mono ?_
    rintro e w3 ⟨rfl, hw3⟩
    replace hw3 := hw3.symm
    subst hw3
    go_wp2_with fail
    refine (check31_any (m : Int) A c T Ak ck K w2 (by omega) (by omega) HK2.out).mono ?_
    rw [decide_eq_false hok]
    rintro e w3 ⟨rfl, hb⟩
    have HB3 := Lib.hid (bw_call HB2.out hb)
    clear hok hb
    go_wp2_with fail
    go_ret
    exact ⟨rfl, HB3.out⟩
  have HOK := Lib.hid hok
  clear hok
  have HEQ1 : Hid (sortE (seamsN T K (3 * T.length)) = rE T K (pairsP m m)) := Lib.hid (edges_ref HSE.out)
  have HEQ2 : Hid (bitsL T K (edgesL (m : Int) T) = rB T K (pairsP m m)) := Lib.hid (bits_ref HSE.out)
  clear s0 s1
  go_wp2_with fail
  refine (edges31_any g m T Ak ck K w2 (by omega) HT2.out HK2.out HOK.out).mono ?_
  rintro e w3 ⟨A3, c3, rfl, he, hb⟩
  rw [HEQ1.out] at he ⊢
  have E3 := Lib.hid he.ec
  have HT3 := Lib.hid (HT2.out.below hb)
  have HK3 := Lib.hid (HK2.out.below hb)
  have GA3 := Lib.hid (blk_call GA2.out hb)
  have HB3 := Lib.hid (bw_call HB2.out hb)
  clear he hb HT2 HK2 GA2 HB2
  go_upto_region 7 with (fail)
  go_wp2_with fail
  refine (bits31_any g m T Ak ck K w3 (by omega) HT3.out HK3.out HOK.out).mono ?_
  rintro e w4 ⟨A4, c4, rfl, hbr, hb⟩
  rw [HEQ2.out] at hbr ⊢
  have E4 := Lib.hid (E3.out.below hb)
  have B4 := Lib.hid hbr
  have HK4 := Lib.hid (HK3.out.below hb)
  have GA4 := Lib.hid (blk_call GA3.out hb)
  have HB4 := Lib.hid (bw_call HB3.out hb)
  have hl1 : (rE T K (pairsP m m)).length ≤ 3600 := Nat.le_trans (rE_len T K _) (by have := pairsP_len hm60 m; omega)
  have hl2 : (rB T K (pairsP m m)).length ≤ 3600 := Nat.le_trans (rB_len T K _) (by have := pairsP_len hm60 m; omega)
  clear hbr hb E3 HT3 HK3 GA3 HB3 HEQ1 HEQ2
  obtain ⟨s0, s1, _, _, _⟩ := soup_facts GA4.out
  go_upto_region 10 with (fail)
  go_wp2_with fail
  refine (check31_any (m : Int) A c T Ak ck K w4 (by omega) (by omega) HK4.out).mono ?_
  rw [decide_eq_true HOK.out]
  rintro e w5 ⟨rfl, hb⟩
  have E5 := Lib.hid (E4.out.below hb)
  have B5 := Lib.hid (B4.out.below hb)
  have HK5 := Lib.hid (HK4.out.below hb)
  have GA5 := Lib.hid (blk_call GA4.out hb)
  have HB5 := Lib.hid (bw_call HB4.out hb)
  clear hb E4 B4 HK4 GA4 HB4 s0 s1
  obtain ⟨s0, s1, _, _, _⟩ := soup_facts GA5.out
  go_wp2_with fail
  refine (refBits31_any A c m T Ak ck K w5 hm60 (by omega) HSE.out HOK.out ((HT.out.below HB5.out).more HB5.out.size) HK5.out).mono ?_
  rintro e w6 ⟨A6, c6, rfl, hbr, hb⟩
  have E6 := Lib.hid (E5.out.below hb)
  have B6 := Lib.hid (B5.out.below hb)
  have C6 := Lib.hid hbr
  have HK6 := Lib.hid (HK5.out.below hb)
  have GA6 := Lib.hid (blk_call GA5.out hb)
  have HB6 := Lib.hid (bw_call HB5.out hb)
  clear hbr hb E5 B5 HK5 GA5 HB5 s0 s1
  obtain ⟨s0, s1, _, _, _⟩ := soup_facts GA6.out
  have HREF := Lib.hid (refEdges31_any A c m T Ak ck K w6 hm60 (by omega) HSE.out HOK.out ((HT.out.below HB6.out).more HB6.out.size) HK6.out)
  generalize rE T K (pairsP m m) = SE at *
  generalize rB T K (pairsP m m) = SB at *
  go_wp2_with fail
  refine HREF.out.mono ?_
  rintro e w7 ⟨A7, c7, rfl, he, hb⟩
  have E7 := Lib.hid (E6.out.below hb)
  have F7 := Lib.hid he.ec
  have B7 := Lib.hid (B6.out.below hb)
  have C7 := Lib.hid (C6.out.below hb)
  have HB7 := Lib.hid (bw_call HB6.out hb)
  clear he hb E6 B6 C6 HK6 GA6 HB6 s0 s1 HREF
  go_wp2_with fail
  refine (alike31_any A3 A7 c3 c7 SE w7 (by omega) E7.out F7.out).mono ?_
  rintro e w8 ⟨rfl, hb⟩
  have B8 := Lib.hid (B7.out.below hb)
  have C8 := Lib.hid (C7.out.below hb)
  have HB8 := Lib.hid (bw_call HB7.out hb)
  clear hb E7 F7 B7 C7 HB7
  have hbl : ((SB.length : Int) != (SB.length : Int)) = false := by simp
  go_wp2_with fail
  go_loopw [11] (fun iv wr => ∃ k q : Nat, k ≤ SB.length ∧ iv = .int .i64 k ∧ wr = w8.drewN q) (fun iv _ => SB.length - (intOf iv).toNat)
  case atStart => exact ⟨0, 0, by omega, rfl, rfl⟩
  case round =>
    obtain ⟨k, q, hk, rfl, rfl⟩ := hrel
    by_cases hlt : k < SB.length
    · have hki2 : (k : Int) < (SB.length : Int) := by omega
      have hje := List.getElem?_eq_getElem hlt
      obtain ⟨g1, hg1, _, c1⟩ := B8.out.cell hje
      obtain ⟨g2, hg2, _, c2⟩ := C8.out.cell hje
      subst hg1 hg2
      clear hje
      generalize SB[k] = bb at c1 c2
      go_upto_region 18 with (fail)
      cases bb with
      | true =>
        go_quiet (fail)
        go_wp2_with fail
        exact ⟨⟨k + 1, _, by omega, by go_num, rfl⟩, by simp [intOf]; omega⟩
      | false =>
        go_quiet (fail)
        go_wp2_with fail
        exact ⟨⟨k + 1, _, by omega, by go_num, rfl⟩, by simp [intOf]; omega⟩
    · obtain rfl : k = SB.length := by omega
      go_wp2_with fail
      go_ret
      exact ⟨rfl, below_drewN HB8.out _⟩
end Go.Proofs.YtcahbcminonfbaaGreat
