/- SeamNumbers, walked. -/
import Derived.Test.YtcahbcminonfbaaOne31W
import Derived.Test.YtcahbcminonfbaaSmN
namespace Go.Proofs.Ytcahbcminonfbaa
open Go.RowKit

set_option linter.unusedSimpArgs false
set_option linter.unusedVariables false
theorem numbers_ne {m : Nat} {T : List Tri} {K : List Int} {ρ : Int → Int} (hr : Renames m ρ) (hs : SurfE m T) {e : Int × Int} (h : e ∈ seamsN T K (3 * T.length)) : (∃ x y : Nat, e = ((x : Int), (y : Int)) ∧ x < m ∧ y < m) ∧ ρ e.1 ≠ ρ e.2 := by
  obtain ⟨c, hc, hb, rfl⟩ := seamsN_mem.1 h
  unfold seamB at hb
  rw [Bool.and_eq_true, decide_eq_true_eq] at hb
  have h1 := cv_ok hs.ok (nxc_lt hc)
  have h2 := cv_ok hs.ok (pvc_lt hc)
  refine ⟨⟨(cv T (nxc c)).toNat, (cv T (pvc c)).toNat, ?_, by omega, by omega⟩, fun e => absurd (hr.inj _ _ e) (by have := hb.1; omega)⟩
  unfold ce
  rw [show ((cv T (nxc c)).toNat : Int) = cv T (nxc c) by omega, show ((cv T (pvc c)).toNat : Int) = cv T (pvc c) by omega]
attribute [local irreducible] Blk LRow World.alloc World.setCell World.cell? World.frozen? MapV ERow
set_option maxRecDepth 100000 in
set_option maxHeartbeats 8000000 in
theorem numLaw_any (N : Int) (A : Option Addr) (n c : Nat) (T : List Tri) (Ak : Option Addr) (nk ck : Nat) (K : List Int) (Al : Option Addr) (nl cl : Nat) (l : List Int) (w : World) (hnk : K.length = nk) (hnk2 : nk ≤ 9223372036854775807) (hnl : l.length = nl) (hnl2 : nl ≤ 9223372036854775807) (ht : TrisAt w w.heap.size A n T) (hk : Reads w w.heap.size 1 Ak nk (ZL K)) (hl : Reads w w.heap.size 1 Al nl (ZL l)) :
    Calls Try.prog 5 #[.agg #[.int .i64 N, .slice A n c], .slice Ak nk ck, .slice Al nl cl] w (BoolPost w true) := by
  obtain rfl : n = T.length := ht.len.symm
  subst hnk hnl
  have HT := Lib.hid ht
  have HK0 : Hid (KR w Ak K) := Lib.hid ⟨hk⟩
  have HL0 : Hid (KR w Al l) := Lib.hid ⟨hl⟩
  clear ht hk hl
  obtain ⟨V, hV⟩ : ∃ V, V = w.alloc (.cells #[.int .i64 N, .slice A T.length c] 24) := ⟨_, rfl⟩
  have GA0 : Hid (Blk V w.heap.size 24 #[.int .i64 N, .slice A T.length c]) := by subst hV; exact Lib.hid (Blk.new _ _ _)
  have HB0 : Hid (Below w.heap.size w V) := by subst hV; exact Lib.hid (bw_alloc (Below.refl _ _) _)
  go_enter Try.func5, Try.ntmps5
  go_upto_region 1 with (fail)
  rw [← hV]
  clear hV
  obtain ⟨ga, hga⟩ : ∃ g, g = w.heap.size := ⟨_, rfl⟩
  rw [← hga] at GA0
  simp only [← hga]
  clear hga
  go_wp2_with fail
  refine (awake_any _).mono ?_
  rintro e w1 ⟨rfl, hb⟩
  have GA1 := Lib.hid (blk_call GA0.out hb)
  have HB1 := Lib.hid (bw_call HB0.out hb)
  clear hb HB0 GA0
  obtain ⟨s0, s1, _, _, _⟩ := soup_facts GA1.out
  go_wp2_with fail
  refine (table31_any N A c T w1 ((HT.out.below HB1.out).more HB1.out.size)).mono ?_
  rintro e w2 (⟨rfl, hb, _⟩ | ⟨g, m, rfl, hm60, hT40, hck, rfl, htab, hb⟩)
  · have HB2 := Lib.hid (bw_call HB1.out hb)
    clear hb
    go_wp2_with fail
    go_ret
    exact ⟨rfl, HB2.out⟩
  have GA2 := Lib.hid (blk_call GA1.out hb)
  have HT2 := Lib.hid htab
  have HB2 := Lib.hid (bw_call HB1.out hb)
  clear hb htab hck GA1 HB1 s0 s1
  obtain ⟨s0, s1, _, _, _⟩ := soup_facts GA2.out
  by_cases hk200 : 200 < K.length
  · have hki : (200 : Int) < (K.length : Int) := by omega
    go_wp2_with fail
    go_ret
    exact ⟨rfl, HB2.out⟩
  have hki : ¬ (200 : Int) < (K.length : Int) := by omega
  have HSE := Lib.hid HT2.out.s
  have hfit := fit_surf HSE.out
  go_wp2_with fail
  refine (rename_any (m : Int) A T.length c T Al l.length cl l w2 (by omega) (by omega) ((HT.out.below HB2.out).more HB2.out.size) (HL0.out.below HB2.out).r).mono ?_
  rintro e w4 ⟨A1, c1, rfl, hr, hb⟩
  have HT4 := Lib.hid (HT2.out.below hb)
  have HB4 := Lib.hid (bw_call HB2.out hb)
  have HR := Lib.hid hr
  clear hb hr HT2 HB2 GA2 s0 s1
  by_cases hp : permP (m : Int) l
  rotate_left
  · rw [renL_form hfit hp] at HR ⊢
    simp only at HR ⊢
    simp only [List.length_nil]
    clear hfit hp
    obtain ⟨w5, hw5⟩ : ∃ w5, w5 = w4.alloc (.cells #[.int .i64 0, .slice A1 0 c1] 24) := ⟨_, rfl⟩
    have GR5 : Hid (Blk w5 w4.heap.size 24 #[.int .i64 0, .slice A1 0 c1]) := by subst hw5; exact Lib.hid (Blk.new _ _ _)
    have HT5 : Hid (TabN w5 g m T) := by subst hw5; exact Lib.hid (HT4.out.alloc _)
    have HR5 : Hid (LRow w5 w2.heap.size A1 c1 []) := by subst hw5; exact Lib.hid (HR.out.alloc _)
    have HB5 : Hid (Below w.heap.size w w5) := by subst hw5; exact Lib.hid (bw_alloc HB4.out _)
    go_upto_region 7 with (fail)
    rw [← hw5]
    generalize w4.heap.size = gr at *
    clear hw5 HT4 HB4 HR
    obtain ⟨s0, s1, _, _, _⟩ := soup_facts GR5.out
    go_wp2_with fail
    refine (new_any 0 A1 0 c1 [] w5 (by omega) HR5.out.tris).mono ?_
    have key : ∀ e w6, NewPost w5 0 [] e w6 → ∃ (pu : Option Addr) (k : Int × Int × Int), e = .returned (.tuple #[.pointer pu, wv k]) ∧ Below w5.heap.size w5 w6 := fun e w6 h => by
      rcases h with ⟨_, g', rfl, _, hb⟩ | ⟨_, rfl, hb⟩
      · exact ⟨_, _, rfl, hb⟩
      · exact ⟨_, _, rfl, hb⟩
    intro e w6 hnp
    obtain ⟨pu, ⟨k1, k2, k3⟩, rfl, hb⟩ := key e w6 hnp
    have HT6 := Lib.hid (HT5.out.below hb)
    have HB6 := Lib.hid (bw_call HB5.out hb)
    clear hb key hnp HT5 HB5 HR5 GR5 s0 s1
    unfold wv
    simp only
    obtain ⟨w7, hw7⟩ : ∃ w7, w7 = w6.alloc (.cells #[.int .i64 k1, .int .i64 k2, .int .i64 k3] 45) := ⟨_, rfl⟩
    have HT7 : Hid (TabN w7 g m T) := by subst hw7; exact Lib.hid (HT6.out.alloc _)
    have HB7 : Hid (Below w.heap.size w w7) := by subst hw7; exact Lib.hid (bw_alloc HB6.out _)
    go_upto_region 8 with (fail)
    rw [← hw7]
    clear hw7 HT6 HB6
    have HK7 := Lib.hid (HK0.out.below HB7.out)
    by_cases hok : okK T.length K
    · go_wp2_with fail
      refine (edges31_any g m T Ak ck K w7 (by omega) HT7.out HK7.out hok).mono ?_
      rintro e w8 ⟨A8, c8, rfl, he, hb⟩
      have HB8 := Lib.hid (bw_call HB7.out hb)
      clear he hb HT7 HK7 HB7
      go_wp2_with fail
      go_ret
      exact ⟨rfl, HB8.out⟩
    · go_wp2_with fail
      refine (edges_bad g m T Ak ck K w7 (by omega) HT7.out HK7.out hok).mono ?_
      rintro e w8 ⟨rfl, hw8⟩
      replace hw8 := hw8.symm
      subst hw8
      go_wp2_with fail
      go_ret
      exact ⟨rfl, HB7.out⟩
  rw [renL_ok hfit hp] at HR ⊢
  have hrn := ren_list (perm_list hp)
  have HRN := Lib.hid hrn
  have HLM : Hid (l.length = m) := Lib.hid (by have := hp.1; omega)
  obtain ⟨U, HU⟩ : ∃ U, Hid (T.map (renT l) = U) := ⟨_, Lib.hid rfl⟩
  have HUM : Hid (U = T.map (mapT (renB l m))) := Lib.hid (by rw [← HU.out]; exact ren_same HSE.out.ok)
  have hUl : U.length = T.length := by rw [← HU.out, List.length_map]
  have hsu : SurfE m U := by rw [HUM.out]; exact surf_ren hrn HSE.out
  have HCK : Hid (checkR (m : Int) U = (0, 0, 0)) := Lib.hid (by unfold checkR; rw [is_surf.2 ⟨m, rfl, hsu⟩]; rfl)
  rw [HU.out] at HR ⊢
  simp only at HR ⊢
  have HUL := Lib.hid hUl
  have HSU := Lib.hid hsu
  rw [hUl]
  clear hfit hp hrn hsu HU hUl
  obtain ⟨w5, hw5⟩ : ∃ w5, w5 = w4.alloc (.cells #[.int .i64 (m : Int), .slice A1 T.length c1] 24) := ⟨_, rfl⟩
  have GR5 : Hid (Blk w5 w4.heap.size 24 #[.int .i64 (m : Int), .slice A1 T.length c1]) := by subst hw5; exact Lib.hid (Blk.new _ _ _)
  have HT5 : Hid (TabN w5 g m T) := by subst hw5; exact Lib.hid (HT4.out.alloc _)
  have HR5 : Hid (LRow w5 w2.heap.size A1 c1 U) := by subst hw5; exact Lib.hid (HR.out.alloc _)
  have HB5 : Hid (Below w.heap.size w w5) := by subst hw5; exact Lib.hid (bw_alloc HB4.out _)
  go_upto_region 7 with (fail)
  rw [← hw5]
  generalize w4.heap.size = gr at *
  clear hw5 HT4 HB4 HR
  obtain ⟨s0, s1, _, _, _⟩ := soup_facts GR5.out
  go_wp2_with fail
  refine (new_any (m : Int) A1 T.length c1 U w5 (by omega) (by have h := HR5.out.tris; rwa [HUL.out] at h)).mono ?_
  rintro e w6 (⟨hx, g', rfl, htab, hb⟩ | ⟨hx, rfl, hb⟩)
  rotate_left
  · exact absurd HCK.out hx
  have HT6 := Lib.hid (HT5.out.below hb)
  have HB6 := Lib.hid (bw_call HB5.out hb)
  have HU6 : Hid (TabN w6 g' m U) := Lib.hid ⟨htab.base (Nat.zero_le _), HSU.out, by rw [HUL.out]; omega⟩
  clear hb htab hx HR5 HT5 HB5 s0 s1 GR5 HCK
  unfold wv
  simp only
  obtain ⟨w7, hw7⟩ : ∃ w7, w7 = w6.alloc (.cells #[.int .i64 0, .int .i64 0, .int .i64 0] 45) := ⟨_, rfl⟩
  have HT7 : Hid (TabN w7 g m T) := by subst hw7; exact Lib.hid (HT6.out.alloc _)
  have HU7 : Hid (TabN w7 g' m U) := by subst hw7; exact Lib.hid (HU6.out.alloc _)
  have HB7 : Hid (Below w.heap.size w w7) := by subst hw7; exact Lib.hid (bw_alloc HB6.out _)
  go_upto_region 8 with (fail)
  rw [← hw7]
  clear hw7 HT6 HU6 HB6
  have HK7 := Lib.hid (HK0.out.below HB7.out)
  by_cases hok : okK T.length K
  rotate_left
  · go_wp2_with fail
    refine (edges_bad g m T Ak ck K w7 (by omega) HT7.out HK7.out hok).mono ?_
    rintro e w8 ⟨rfl, hw8⟩
    replace hw8 := hw8.symm
    subst hw8
    go_wp2_with fail
    go_ret
    exact ⟨rfl, HB7.out⟩
  have HOK := Lib.hid hok
  clear hok
  go_wp2_with fail
  refine (edges31_any g m T Ak ck K w7 (by omega) HT7.out HK7.out HOK.out).mono ?_
  rintro e w8 ⟨A8, c8, rfl, he, hb⟩
  have HE8 := Lib.hid he
  have HU8 := Lib.hid (HU7.out.below hb)
  have HB8 := Lib.hid (bw_call HB7.out hb)
  clear he hb HT7 HU7 HB7 HK7
  go_upto_region 11 with (fail)
  have HK8 := Lib.hid (HK0.out.below HB8.out)
  go_wp2_with fail
  refine (edges31_any g' m U Ak ck K w8 (by omega) HU8.out HK8.out (by rw [HUL.out]; exact HOK.out)).mono ?_
  rintro e w9 ⟨A9, c9, rfl, he, hb⟩
  have E19 := Lib.hid (HE8.out.below hb).ec
  have E29 := Lib.hid he.ec
  have HC9 := Lib.hid (bw_call HB8.out hb)
  rw [HUL.out] at E29 ⊢
  have HLEN : Hid ((sortE (seamsN T K (3 * T.length))).length = (sortE (seamsN U K (3 * T.length))).length) := Lib.hid (by rw [sortE_len, sortE_len, HUM.out, numbers_len HRN.out HSE.out])
  have HLAW : Hid (∀ e ∈ sortE (seamsN T K (3 * T.length)), (∃ x y : Nat, e = ((x : Int), (y : Int)) ∧ x < m ∧ y < m) ∧ renB l m e.1 ≠ renB l m e.2 ∧ (min (renB l m e.1) (renB l m e.2), max (renB l m e.1) (renB l m e.2)) ∈ sortE (seamsN U K (3 * T.length))) := Lib.hid fun e h1 => by
    have h2 := sortE_mem.1 h1
    have h3 := numbers_ne HRN.out HSE.out h2
    refine ⟨h3.1, h3.2, sortE_mem.2 ?_⟩
    rw [HUM.out]
    exact numbers_mem HRN.out HSE.out h2
  have HS1 : Hid ((sortE (seamsN T K (3 * T.length))).length ≤ 1000) := Lib.hid (by rw [sortE_len]; have := seamsN_len T K (3 * T.length); omega)
  clear he hb HE8 HU8 HB8 HK8 HOK HUM HSU
  generalize sortE (seamsN T K (3 * T.length)) = S1 at *
  generalize sortE (seamsN U K (3 * T.length)) = S2 at *
  have hs1 := HS1.out
  have hs2 : S2.length ≤ 1000 := by have := HLEN.out; omega
  have hbl : ((S1.length : Int) != (S2.length : Int)) = false := by have := HLEN.out; simp; omega
  have HL9 := Lib.hid (HL0.out.below HC9.out)
  go_upto_region 14 with (fail)
  clear hbl
  go_wp2_with fail
  go_loopw [16] (fun iv wr => ∃ i : Nat, i ≤ S1.length ∧ iv = .int .i64 i ∧ Hid (Below w9.heap.size w9 wr)) (fun iv _ => S1.length - (intOf iv).toNat)
  case atStart => exact ⟨0, by omega, rfl, Lib.hid (Below.refl _ _)⟩
  case round =>
    obtain ⟨i, hi, rfl, HBwJ⟩ := hrel
    obtain ⟨wJ, hwJ⟩ : ∃ wJ : World, wJ = wr := ⟨_, rfl⟩
    rw [← hwJ] at HBwJ ⊢
    clear hwJ
    by_cases hlti : i < S1.length
    rotate_left
    · obtain rfl : i = S1.length := by omega
      go_wp2_with fail
      go_ret
      exact ⟨rfl, bw_call HC9.out HBwJ.out⟩
    have hii : (i : Int) < (S1.length : Int) := by omega
    have hje := List.getElem?_eq_getElem hlti
    obtain ⟨gx, hgx, hek⟩ := (E19.out.below HBwJ.out).ek hje
    subst hgx
    obtain ⟨⟨xn, yn, hxy, hxm, hym⟩, hne, hmm⟩ := HLAW.out S1[i] (List.getElem_mem hlti)
    rw [hxy] at hek hne hmm
    have EXwJ := Lib.hid hek
    obtain ⟨al, rfl, cq1⟩ := (HL9.out.below HBwJ.out).cell (show xn < l.length by rw [HLM.out]; exact hxm)
    obtain ⟨al', hal', cq2⟩ := (HL9.out.below HBwJ.out).cell (show yn < l.length by rw [HLM.out]; exact hym)
    injection hal' with hal'
    subst hal'
    have CPwJ := Lib.hid cq1
    have CQwJ := Lib.hid cq2
    have hr1 : renB l m (xn : Int) = kval l xn := (to_ren (by omega) (by omega)).symm
    have hr2 : renB l m (yn : Int) = kval l yn := (to_ren (by omega) (by omega)).symm
    simp only at hne hmm
    rw [hr1, hr2] at hne hmm
    have HNE := Lib.hid hne
    have HMM := Lib.hid hmm
    have hxi : (xn : Int) < (l.length : Int) := by have := HLM.out; omega
    have hyi : (yn : Int) < (l.length : Int) := by have := HLM.out; omega
    clear hje hxy hek cq1 cq2 hr1 hr2 hne hmm
    generalize kval l xn = p at *
    generalize kval l yn = q at *
    go_upto_region 17 with (fail)
    refine wp_region_till (S := fun w' => w'.cell? ⟨gx, i * 2, none⟩ = some (.int .i64 (xn : Int)) ∧ w'.cell? ⟨gx, i * 2 + 1, none⟩ = some (.int .i64 (yn : Int)) ∧ w'.cell? (al.add xn) = some (.int .i64 p) ∧ w'.cell? (al.add yn) = some (.int .i64 q)) 17 (by kernel_rfl) ⟨EXwJ.out.drew.c0, EXwJ.out.drew.c1, CPwJ.out.drew.c, CQwJ.out.drew.c⟩ (fun hHeld => ?_)
    refine Till.take (i := 0) (v := ?vt1) rfl (by kernel_rfl) (by kernel_rfl) (by kernel_rfl) (by kernel_rfl) (fun _ _ _ h => h) (Or.inl ⟨by rfl, ?ht1⟩) (by assumption) ?restt1
    case ht1 => (intro w hSw; (try dsimp only at hSw); go_simp; try with_reducible rfl)
    (try simp only [Act.put, List.setIfInBounds_toArray, List.set_cons_zero, List.set_cons_succ])
    refine Till.take (i := 1) (v := ?vt2) rfl (by kernel_rfl) (by kernel_rfl) (by kernel_rfl) (by kernel_rfl) (fun _ _ _ h => h) (Or.inl ⟨by rfl, ?ht2⟩) (by assumption) ?restt2
    case ht2 => (intro w hSw; (try dsimp only at hSw); go_simp; try with_reducible rfl)
    (try simp only [Act.put, List.setIfInBounds_toArray, List.set_cons_zero, List.set_cons_succ])
    refine Till.take (i := 2) (v := ?vt3) rfl (by kernel_rfl) (by kernel_rfl) (by kernel_rfl) (by kernel_rfl) (fun _ _ _ h => h) (Or.inl ⟨by rfl, ?ht3⟩) (by assumption) ?restt3
    case ht3 => (intro w hSw; (try dsimp only at hSw); go_simp; try with_reducible rfl)
    (try simp only [Act.put, List.setIfInBounds_toArray, List.set_cons_zero, List.set_cons_succ])
    refine Till.take (i := 3) (v := ?vt4) rfl (by kernel_rfl) (by kernel_rfl) (by kernel_rfl) (by kernel_rfl) (fun _ _ _ h => h) (Or.inl ⟨by rfl, ?ht4⟩) (by assumption) ?restt4
    case ht4 => (intro w hSw; (try dsimp only at hSw); go_simp; try with_reducible rfl)
    (try simp only [Act.put, List.setIfInBounds_toArray, List.set_cons_zero, List.set_cons_succ])
    refine Till.take (i := 4) (v := ?vt5) rfl (by kernel_rfl) (by kernel_rfl) (by kernel_rfl) (by kernel_rfl) (fun _ _ _ h => h) (Or.inl ⟨by rfl, ?ht5⟩) (by assumption) ?restt5
    case ht5 => (intro w hSw; (try dsimp only at hSw); go_simp; try with_reducible rfl)
    (try simp only [Act.put, List.setIfInBounds_toArray, List.set_cons_zero, List.set_cons_succ])
    refine Till.take (i := 5) (v := ?vt6) rfl (by kernel_rfl) (by kernel_rfl) (by kernel_rfl) (by kernel_rfl) (fun _ _ _ h => h) (Or.inl ⟨by rfl, ?ht6⟩) (by assumption) ?restt6
    case ht6 => (intro w hSw; (try dsimp only at hSw); go_simp; try with_reducible rfl)
    (try simp only [Act.put, List.setIfInBounds_toArray, List.set_cons_zero, List.set_cons_succ])
    refine Till.take (i := 6) (v := ?vt7) rfl (by kernel_rfl) (by kernel_rfl) (by kernel_rfl) (by kernel_rfl) (fun _ _ _ h => h) (Or.inl ⟨by rfl, ?ht7⟩) (by assumption) ?restt7
    case ht7 => (intro w hSw; (try dsimp only at hSw); go_simp; try with_reducible rfl)
    (try simp only [Act.put, List.setIfInBounds_toArray, List.set_cons_zero, List.set_cons_succ])
    refine Till.take (i := 7) (v := ?vt8) rfl (by kernel_rfl) (by kernel_rfl) (by kernel_rfl) (by kernel_rfl) (fun _ _ _ h => h) (Or.inl ⟨by rfl, ?ht8⟩) (by assumption) ?restt8
    case ht8 => (intro w hSw; (try dsimp only at hSw); go_simp; try with_reducible rfl)
    (try simp only [Act.put, List.setIfInBounds_toArray, List.set_cons_zero, List.set_cons_succ])
    refine Till.take (i := 8) (v := ?vt9) rfl (by kernel_rfl) (by kernel_rfl) (by kernel_rfl) (by kernel_rfl) (fun _ _ _ h => h) (Or.inl ⟨by rfl, ?ht9⟩) (by assumption) ?restt9
    case ht9 => (intro w hSw; (try dsimp only at hSw); go_simp; try with_reducible rfl)
    (try simp only [Act.put, List.setIfInBounds_toArray, List.set_cons_zero, List.set_cons_succ])
    refine Till.take (i := 9) (v := ?vt10) rfl (by kernel_rfl) (by kernel_rfl) (by kernel_rfl) (by kernel_rfl) (fun _ _ _ h => h) (Or.inl ⟨by rfl, ?ht10⟩) (by assumption) ?restt10
    case ht10 => (intro w hSw; (try dsimp only at hSw); go_simp; try with_reducible rfl)
    (try simp only [Act.put, List.setIfInBounds_toArray, List.set_cons_zero, List.set_cons_succ])
    refine Till.take (i := 10) (v := ?vt11) rfl (by kernel_rfl) (by kernel_rfl) (by kernel_rfl) (by kernel_rfl) (fun _ _ _ h => h) (Or.inl ⟨by rfl, ?ht11⟩) (by assumption) ?restt11
    case ht11 => (intro w hSw; (try dsimp only at hSw); go_simp; try with_reducible rfl)
    (try simp only [Act.put, List.setIfInBounds_toArray, List.set_cons_zero, List.set_cons_succ])
    refine Till.take (i := 11) (v := ?vt12) rfl (by kernel_rfl) (by kernel_rfl) (by kernel_rfl) (by kernel_rfl) (fun _ _ _ h => h) (Or.inl ⟨by rfl, ?ht12⟩) (by assumption) ?restt12
    case ht12 => (intro w hSw; (try dsimp only at hSw); go_simp; try with_reducible rfl)
    (try simp only [Act.put, List.setIfInBounds_toArray, List.set_cons_zero, List.set_cons_succ])
    refine Till.take (i := 12) (v := ?vt13) rfl (by kernel_rfl) (by kernel_rfl) (by kernel_rfl) (by kernel_rfl) (fun _ _ _ h => h) (Or.inl ⟨by rfl, ?ht13⟩) (by assumption) ?restt13
    case ht13 => (intro w hSw; (try dsimp only at hSw); go_simp; try with_reducible rfl)
    (try simp only [Act.put, List.setIfInBounds_toArray, List.set_cons_zero, List.set_cons_succ])
    refine Till.take (i := 13) (v := ?vt14) rfl (by kernel_rfl) (by kernel_rfl) (by kernel_rfl) (by kernel_rfl) (fun _ _ _ h => h) (Or.inl ⟨by rfl, ?ht14⟩) (by assumption) ?restt14
    case ht14 => (intro w hSw; (try dsimp only at hSw); go_simp; try with_reducible rfl)
    (try simp only [Act.put, List.setIfInBounds_toArray, List.set_cons_zero, List.set_cons_succ])
    refine Till.take (i := 14) (v := ?vt15) rfl (by kernel_rfl) (by kernel_rfl) (by kernel_rfl) (by kernel_rfl) (fun _ _ _ h => h) (Or.inl ⟨by rfl, ?ht15⟩) (by assumption) ?restt15
    case ht15 => (intro w hSw; (try dsimp only at hSw); go_simp; try with_reducible rfl)
    (try simp only [Act.put, List.setIfInBounds_toArray, List.set_cons_zero, List.set_cons_succ])
    refine Till.take (i := 15) (v := ?vt16) rfl (by kernel_rfl) (by kernel_rfl) (by kernel_rfl) (by kernel_rfl) (fun _ _ _ h => h) (Or.inl ⟨by rfl, ?ht16⟩) (by assumption) ?restt16
    case ht16 => (intro w hSw; (try dsimp only at hSw); go_simp; try with_reducible rfl)
    (try simp only [Act.put, List.setIfInBounds_toArray, List.set_cons_zero, List.set_cons_succ])
    refine Till.take (i := 16) (v := ?vt17) rfl (by kernel_rfl) (by kernel_rfl) (by kernel_rfl) (by kernel_rfl) (fun _ _ _ h => h) (Or.inl ⟨by rfl, ?ht17⟩) (by assumption) ?restt17
    case ht17 => (intro w hSw; (try dsimp only at hSw); go_simp; try with_reducible rfl)
    (try simp only [Act.put, List.setIfInBounds_toArray, List.set_cons_zero, List.set_cons_succ])
    refine Till.ready (rs := [17]) (by kernel_rfl) (by simp) ?_
    refine TillEach.last rfl (fun K hK => ?_)
    · go_simp
      refine hK.out _ _ ?_
      clear hK K
      (try simp only [Act.put, List.setIfInBounds_toArray, List.set_cons_zero, List.set_cons_succ])
      refine Till.done (by kernel_rfl) ?_ _
      have HBD : Hid (Below w9.heap.size w9 wJ.drew) := Lib.hid (bw_drew HBwJ.out)
      obtain ⟨wD, hwD⟩ : ∃ W, W = wJ.drew := ⟨_, rfl⟩
      rw [← hwD] at HBD ⊢
      clear hwD EXwJ CPwJ CQwJ HBwJ
      have HMEM := HMM
      clear HMM HNE
      go_wp2_with fail
      go_loopw [19, 20] (fun nv iv wr => ∃ h : Nat, h ≤ S2.length ∧ nv = .bool (decide ((min p q, max p q) ∈ S2.take h)) ∧ iv = .int .i64 h ∧ Hid (Below w9.heap.size w9 wr)) (fun _ iv _ => S2.length - (intOf iv).toNat)
      case atStart => exact ⟨0, by omega, by simp, rfl, HBD⟩
      case round =>
        obtain ⟨h, hh, rfl, rfl, HBwH⟩ := hrel
        obtain ⟨wH, hwH⟩ : ∃ wH : World, wH = wr := ⟨_, rfl⟩
        rw [← hwH] at HBwH ⊢
        clear hwH HBD
        by_cases hlth : h < S2.length
        · have hhi : (h : Int) < (S2.length : Int) := by omega
          have hhe := List.getElem?_eq_getElem hlth
          have HST := Lib.hid (mem_step (e := (min p q, max p q)) hhe)
          obtain ⟨gy, hgy, hek⟩ := ((E29.out).below HBwH.out).ek hhe
          subst hgy
          have y0 := hek.c0
          have y1 := hek.c1
          clear hek hhe
          generalize S2[h] = ey at HST y0 y1
          obtain ⟨x2, y2⟩ := ey
          simp only at HST y0 y1
          rw [← pair_eqB] at HST
          have heq := run_eq_ed3 x2 y2 (min p q) (max p q)
          rw [show (x2 == (min p q) && y2 == (max p q)) = ((min p q) == x2 && (max p q) == y2) by rw [Bool.beq_comm (a := x2), Bool.beq_comm (a := y2)]] at heq
          cases hin : decide ((min p q, max p q) ∈ S2.take h) with
          | true =>
            rw [hin] at HST
            clear hin heq
            go_wp2_with fail
            exact ⟨⟨h + 1, by omega, by rw [HST.out]; rfl, by go_num, HBwH⟩, by simp [intOf]; omega⟩
          | false =>
            rw [hin] at HST
            rw [Bool.false_or] at HST
            clear hin
            generalize ((min p q) == x2 && (max p q) == y2) = bt at *
            go_wp2_with fail
            exact ⟨⟨h + 1, by omega, by rw [HST.out], by go_num, HBwH⟩, by simp [intOf]; omega⟩
        · obtain rfl : h = S2.length := by omega
          have HIN : Hid (decide ((min p q, max p q) ∈ S2.take S2.length) = true) := Lib.hid (by rw [List.take_length]; exact decide_eq_true HMEM.out)
          rw [HIN.out]
          clear HIN
          go_wp2_with fail
          exact ⟨⟨i + 1, by omega, by go_num, HBwH⟩, by simp [intOf]; omega⟩
end Go.Proofs.Ytcahbcminonfbaa
