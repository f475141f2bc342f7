/- CornerRenamed, walked. No condition. -/
import Derived.Test.YtdmibpcpocacpaaCorner
import Derived.Test.YtdmibpcpocacpaaCorP3
import Derived.IntWalk
namespace Go.Proofs.Ytdmibpcpocacpaa
open Go.RowKit

set_option linter.unusedSimpArgs false
set_option linter.unusedVariables false
theorem run_ne_wit10 (x y : Int × Int × Int) (w : World) : (binOp .neq 41 (wv x) (wv y)).run Try.prog w = .ok (.bool (!decide (x = y))) w := by
  have h := run_eq_wit x y w
  unfold wv at h ⊢
  rw [run_eql_struct] at h
  rw [run_neq_struct]
  generalize (Op.equalIn 10000 41 (.agg #[.int .i64 x.1, .int .i64 x.2.1, .int .i64 x.2.2]) (.agg #[.int .i64 y.1, .int .i64 y.2.1, .int .i64 y.2.2])).run Try.prog w = r at h ⊢
  cases r with
  | ok b w1 =>
    simp [Result.andThen] at h ⊢
    obtain ⟨h, rfl⟩ := h
    rw [h]
    simp
  | _ => simp [Result.andThen] at h
attribute [local irreducible] Blk LRow World.alloc World.setCell World.cell? World.frozen? MapV
set_option maxRecDepth 100000 in
set_option maxHeartbeats 8000000 in
theorem renamedLaw_any (N : Int) (A : Option Addr) (n c : Nat) (T : List Tri) (Al : Option Addr) (cl : Nat) (l : List Int) (w : World) (ht : TrisAt w w.heap.size A n T) (HL : Hid (Reads w w.heap.size 1 Al l.length (ZL l))) :
    Calls Try.prog 10 #[.agg #[.int .i64 N, .slice A n c], .slice Al l.length cl] w (BoolPost w true) := by
  obtain rfl : n = T.length := ht.len.symm
  have HT := Lib.hid ht
  clear ht
  obtain ⟨V, hV⟩ : ∃ V, V = (w.alloc (.cells #[.int .i64 N, .slice A T.length c] 24)) := ⟨_, rfl⟩
  have GA0 : Hid (Blk V w.heap.size 24 #[.int .i64 N, .slice A T.length c]) := by subst hV; exact Lib.hid (Blk.new _ _ _)
  have HB0 : Hid (Below w.heap.size w V) := by subst hV; exact Lib.hid (bw_alloc (Below.refl _ _) _)
  go_enter Try.func10, Try.ntmps10
  go_upto_region 1 with (fail)
  rw [← hV]
  clear hV
  obtain ⟨ga, hga⟩ : ∃ g, g = w.heap.size := ⟨_, rfl⟩
  rw [← hga] at GA0
  simp only [← hga]
  clear hga
  go_wp2_with fail
  refine (awake_any _).mono ?_
  rintro e w1 ⟨rfl, hb⟩
  have GA1 := Lib.hid (blk_call GA0.out hb)
  have HB1 := Lib.hid (bw_call HB0.out hb)
  clear hb HB0 GA0
  obtain ⟨s0, s1, _, _, _⟩ := soup_facts GA1.out
  go_wp2_with fail
  refine (laid_any N A T.length c T w1 ((HT.out.below HB1.out).more HB1.out.size)).mono ?_
  rintro e w3 (⟨hbg, rfl, hb⟩ | ⟨hbg, hx, rfl, hb⟩ | ⟨hbg, hx, g, rfl, htab, hb⟩)
  · have HB3 := Lib.hid (bw_call HB1.out hb)
    clear hb s0 s1 hbg
    go_wp2_with fail
    go_ret
    exact ⟨rfl, HB3.out⟩
  · have HB3 := Lib.hid (bw_call HB1.out hb)
    clear hb s0 s1 hbg hx
    go_wp2_with fail
    go_ret
    exact ⟨rfl, HB3.out⟩
  · have HBw3 := Lib.hid (bw_call HB1.out hb)
    have GAw3 := Lib.hid (blk_call GA1.out hb)
    have hT8 : T.length ≤ 8192 := by unfold bigS at hbg; omega
    have hT40 : T.length ≤ 40 := by unfold bigS at hbg; omega
    obtain ⟨m, hs⟩ := surf_of (checkR_zero (by rw [hx])).1
    obtain rfl : N = (m : Int) := hs.n
    have TBw3 : Hid (TabAt w3 0 g (m : Int) T) := Lib.hid (htab.base (Nat.zero_le _))
    have hm1 := hs.m1
    have HS := Lib.hid hs
    clear hb htab hx hs hbg s0 s1 HB1 GA1
    by_cases hm60 : 60 < l.length
    · have hm60' : (60 : Int) < (l.length : Int) := by omega
      go_wp2_with fail
      go_ret
      exact ⟨rfl, HBw3.out⟩
    have hm60' : ¬ (60 : Int) < (l.length : Int) := by omega
    obtain ⟨s0, s1, _, _, _⟩ := soup_facts GAw3.out
    have hse : SurfE m T := (surf_e.1 HS.out).2
    have hfit := fit_surf hse
    have HSE := Lib.hid hse
    go_wp2_with fail
    refine (rename_any (m : Int) A T.length c T Al l.length cl l w3 (by omega) (by omega) ((HT.out.below HBw3.out).more HBw3.out.size) ((HL.out.below HBw3.out).more HBw3.out.size)).mono ?_
    rintro e w4 ⟨A1, c1, rfl, hr, hb⟩
    have TBw4 := Lib.hid (TBw3.out.below hb)
    have HBw4 := Lib.hid (bw_call HBw3.out hb)
    have HR := Lib.hid hr
    clear hb hr TBw3 HBw3 GAw3 s0 s1
    by_cases hp : permP (m : Int) l
    rotate_left
    · rw [renL_form hfit hp]
      simp only
      clear hfit hp hse HR
      go_wp2_with fail
      go_ret
      exact ⟨rfl, bw_alloc HBw4.out _⟩
    rw [renL_ok hfit hp] at HR ⊢
    have HLM : Hid (l.length = m) := Lib.hid (by have := hp.1; omega)
    have hrn := ren_list (perm_list hp)
    have HRN := Lib.hid hrn
    obtain ⟨U, HU⟩ : ∃ U, Hid (T.map (renT l) = U) := ⟨_, Lib.hid rfl⟩
    have HUM : Hid (U = T.map (mapT (renB l m))) := Lib.hid (by rw [← HU.out]; exact ren_same hse.ok)
    have hUl : U.length = T.length := by rw [← HU.out, List.length_map]
    have hsu : SurfE m U := by rw [HUM.out]; exact surf_ren hrn hse
    have HCK : Hid (checkR (m : Int) U = (0, 0, 0)) := Lib.hid (by unfold checkR; rw [is_surf.2 ⟨m, rfl, hsu⟩]; rfl)
    rw [HU.out] at HR ⊢
    simp only at HR ⊢
    rw [hUl]
    have HUL := Lib.hid hUl
    clear hfit hse hrn hsu HU hUl
    obtain ⟨w5, hw5⟩ : ∃ w5, w5 = w4.alloc (.cells #[.int .i64 (m : Int), .slice A1 T.length c1] 24) := ⟨_, rfl⟩
    have GRw5 : Hid (Blk w5 w4.heap.size 24 #[.int .i64 (m : Int), .slice A1 T.length c1]) := by subst hw5; exact Lib.hid (Blk.new _ _ _)
    have TBw5 : Hid (TabAt w5 0 g (m : Int) T) := by subst hw5; exact Lib.hid (TBw4.out.alloc _)
    have HRw5 : Hid (LRow w5 w3.heap.size A1 c1 U) := by subst hw5; exact Lib.hid (HR.out.alloc _)
    have HBw5 : Hid (Below w.heap.size w w5) := by subst hw5; exact Lib.hid (bw_alloc HBw4.out _)
    go_upto_region 7 with (fail)
    rw [← hw5]
    generalize w4.heap.size = gr at *
    clear hw5 TBw4 HBw4 HR
    obtain ⟨s0, s1, _, _, _⟩ := soup_facts GRw5.out
    go_wp2_with fail
    refine (new_any (m : Int) A1 T.length c1 U w5 (by omega) (by have h := HRw5.out.tris; rwa [HUL.out] at h)).mono ?_
    rintro e w6 (⟨hx, g', rfl, htab, hb⟩ | ⟨hx, rfl, hb⟩)
    rotate_left
    · exact absurd HCK.out hx
    have TBw6 := Lib.hid (TBw5.out.below hb)
    have HBw6 := Lib.hid (bw_call HBw5.out hb)
    have TUw6 : Hid (TabAt w6 0 g' (m : Int) U) := Lib.hid (htab.base (Nat.zero_le _))
    clear hb htab hx HRw5 TBw5 HBw5 s0 s1 GRw5 HCK
    unfold wv
    simp only
    obtain ⟨w7, hw7⟩ : ∃ w7, w7 = w6.alloc (.cells #[.int .i64 0, .int .i64 0, .int .i64 0] 41) := ⟨_, rfl⟩
    have GXw7 : Hid (Blk w7 w6.heap.size 41 #[.int .i64 0, .int .i64 0, .int .i64 0]) := by subst hw7; exact Lib.hid (Blk.new _ _ _)
    have TBw7 : Hid (TabAt w7 0 g (m : Int) T) := by subst hw7; exact Lib.hid (TBw6.out.alloc _)
    have TUw7 : Hid (TabAt w7 0 g' (m : Int) U) := by subst hw7; exact Lib.hid (TUw6.out.alloc _)
    have HBw7 : Hid (Below w.heap.size w w7) := by subst hw7; exact Lib.hid (bw_alloc HBw6.out _)
    go_upto_region 10 with (fail)
    rw [← hw7]
    clear hw7 TBw6 TUw6 HBw6
    generalize w6.heap.size = gx at *
    obtain ⟨x0, x1, x2, _, _, _⟩ := wit_facts GXw7.out
    have hw0 := run_ne_wit10 (0, 0, 0) (0, 0, 0)
    unfold wv at hw0
    simp only [decide_true, Bool.not_true] at hw0
    go_wp2_with fail
    refine (tris_any g 0 m T w7 TBw7.out.s).mono ?_
    rintro e w8 ⟨rfl, rfl⟩
    clear x0 x1 x2 hw0 GXw7
    go_wp2_with fail
    go_loopw [46] (fun iv wr => ∃ k : Nat, k ≤ 3 * T.length ∧ iv = .int .i64 k ∧ Hid (TabAt wr 0 g (m : Int) T) ∧ Hid (TabAt wr 0 g' (m : Int) U) ∧ Hid (Below w.heap.size w wr)) (fun iv _ => 3 * T.length - (intOf iv).toNat)
    case atStart => exact ⟨0, by omega, rfl, TBw7, TUw7, HBw7⟩
    case round =>
      obtain ⟨k, hk, rfl, TBk, TUk, HBk⟩ := hrel
      obtain ⟨wB, hwB⟩ : ∃ wB : World, wB = wr := ⟨_, rfl⟩
      rw [← hwB] at TBk TUk HBk ⊢
      clear hwB TBw7 TUw7 HBw7
      by_cases hlt : k < 3 * T.length
      · have hki : (k : Int) < 3 * (T.length : Int) := by omega
        have hT8' : U.length ≤ 8192 := by rw [HUL.out]; exact hT8
        have hlt' : k < 3 * U.length := by rw [HUL.out]; exact hlt
        have n1 := nxc_lt hlt
        have n3 := pvc_lt hlt
        have o1 := cv_ok HS.out.ok n1
        have o2 := cv_ok HS.out.ok n3
        have o3 := cv_ok HS.out.ok hlt
        have hmu := cv_ren (renB l m) hlt
        have heu := ce_ren (renB l m) hlt
        rw [← HUM.out] at hmu heu
        have hou := opp_ren HRN.out HSE.out hlt
        rw [← HUM.out] at hou
        have p1 := cv_ok (HUM.out ▸ (surf_ren HRN.out HSE.out).ok) (nxc_lt hlt')
        have p2 := cv_ok (HUM.out ▸ (surf_ren HRN.out HSE.out).ok) (pvc_lt hlt')
        have HWK : Hid (wfE ((edgeI T (k : Int)).2, (edgeI T (k : Int)).1)) := Lib.hid (by rw [edgeI_nat hlt]; exact ⟨wf_small (by show -1 ≤ cv T (pvc k); omega) (by show cv T (pvc k) < 100000; omega), wf_small (by show -1 ≤ cv T (nxc k); omega) (by show cv T (nxc k) < 100000; omega)⟩)
        have HWU : Hid (wfE ((edgeI U (k : Int)).2, (edgeI U (k : Int)).1)) := Lib.hid (by rw [edgeI_nat hlt']; exact ⟨wf_small (by show -1 ≤ cv U (pvc k); omega) (by show cv U (pvc k) < 100000; omega), wf_small (by show -1 ≤ cv U (nxc k); omega) (by show cv U (nxc k) < 100000; omega)⟩)
        have b1 : oppI T (k : Int) = optI (oppF T k) := by unfold oppI oppF facingI; rw [edgeI_nat hlt]
        have b2 : oppI U (k : Int) = optI (oppF T k) := by rw [← hou]; unfold oppI oppF facingI; rw [edgeI_nat hlt']
        have v1 : vertexI U (k : Int) = toL l (cv T k) := (vertexI_nat hlt').trans (hmu.trans (to_ren o3.1 o3.2).symm)
        have v2 := vertexI_nat hlt
        have HT1 : Hid (∀ (W : World), TabAt W 0 g (m : Int) T → Calls Try.prog 17 #[.pointer (some ⟨g, 0, none⟩), .int .i64 (k : Int)] W (IntPost W (optI (oppF T k)))) := Lib.hid fun W h => b1 ▸ opp_any g 0 m T k W hT8 HWK.out h
        have HU1 : Hid (∀ (W : World), TabAt W 0 g' (m : Int) U → Calls Try.prog 17 #[.pointer (some ⟨g', 0, none⟩), .int .i64 (k : Int)] W (IntPost W (optI (oppF T k)))) := Lib.hid fun W h => b2 ▸ opp_any g' 0 m U k W hT8' HWU.out h
        have HU2 : Hid (∀ (W : World), TabAt W 0 g' (m : Int) U → Calls Try.prog 14 #[.pointer (some ⟨g', 0, none⟩), .int .i64 (k : Int)] W (IntPost W (toL l (cv T k)))) := Lib.hid fun W h => v1 ▸ (vertex_any g' 0 m U k W hT8' h.s).mono fun e w' h => int_of_is h
        have HV2 : Hid (∀ (W : World), TabAt W 0 g (m : Int) T → Calls Try.prog 14 #[.pointer (some ⟨g, 0, none⟩), .int .i64 (k : Int)] W (IntPost W (cv T k))) := Lib.hid fun W h => v2 ▸ (vertex_any g 0 m T k W hT8 h.s).mono fun e w' h => int_of_is h
        obtain ⟨vn, hvn⟩ : ∃ vn : Nat, cv T k = (vn : Int) := ⟨(cv T k).toNat, by omega⟩
        have hvm : vn < l.length := by rw [HLM.out]; omega
        obtain ⟨adl, eAl, hbl, hcl⟩ := to_cells ((HL.out.below HBk.out).more HBk.out.size) (Nat.lt_of_le_of_lt (Nat.zero_le _) hvm)
        have GCk : Hid (CellAt wB (adl.add vn) (.int .i64 (toL l (vn : Int)))) := Lib.hid ⟨hcl vn hvm, by rw [show (adl.add vn).block = adl.block by simp only [Addr.add]; split <;> rfl]; exact hbl⟩
        rw [hvn] at HU2 HV2
        clear v1 v2 b1 b2 o1 o2 o3 p1 p2 n1 n3 hmu heu hou hcl hbl HWK HWU
        subst eAl
        generalize toL l (vn : Int) = q at *
        generalize optI (oppF T k) = r at *
        have hvi0 : ¬ (vn : Int) < 0 := by omega
        have hvi1 : (vn : Int) < (l.length : Int) := by omega
        have hvi2 : ¬ (l.length : Int) ≤ (vn : Int) := by omega
        have hvi3 : ¬ l.length ≤ vn := by omega
        go_wp2_with fail
        refine (HV2.out wB TBk.out).mono ?_
        rintro e w9 ⟨rfl, hb⟩
        have TBw9 := Lib.hid (TBk.out.below hb)
        have TUw9 := Lib.hid (TUk.out.below hb)
        have GCw9 := Lib.hid (GCk.out.below hb)
        have HBw9 := Lib.hid (bw_call HBk.out hb)
        clear hb TBk TUk GCk HBk HV2
        go_upto_region 16 with (fail)
        refine wp_region_held_drew (S := fun w' => w'.cell? (adl.add vn) = some (.int .i64 q)) (by kernel_rfl) GCw9.out.drew.c (fun hHeld => ?_)
        refine held_take (i := 0) (v := ?v114) rfl (by kernel_rfl) (by kernel_rfl) (by kernel_rfl) (fun _ _ _ h => h) (Or.inl ⟨by rfl, ?hy114⟩) (by assumption) ?rest114
        case hy114 => (intro w hSw; (try dsimp only at hSw); go_simp; try with_reducible rfl)
        (try simp only [Act.put, List.setIfInBounds_toArray, List.set_cons_zero, List.set_cons_succ])
        refine held_take (i := 1) (v := ?v115) rfl (by kernel_rfl) (by kernel_rfl) (by kernel_rfl) (fun _ _ _ h => h) (Or.inl ⟨by rfl, ?hy115⟩) (by assumption) ?rest115
        case hy115 => (intro w hSw; (try dsimp only at hSw); go_simp; try with_reducible rfl)
        (try simp only [Act.put, List.setIfInBounds_toArray, List.set_cons_zero, List.set_cons_succ])
        refine held_take (i := 3) (v := ?v116) rfl (by kernel_rfl) (by kernel_rfl) (by kernel_rfl) (fun _ _ _ h => h) (Or.inl ⟨by rfl, ?hy116⟩) (by assumption) ?rest116
        case hy116 => (intro w hSw; (try dsimp only at hSw); go_simp; try with_reducible rfl)
        (try simp only [Act.put, List.setIfInBounds_toArray, List.set_cons_zero, List.set_cons_succ])
        refine held_take (i := 4) (v := ?v117) rfl (by kernel_rfl) (by kernel_rfl) (by kernel_rfl) (fun _ _ _ h => h) (Or.inl ⟨by rfl, ?hy117⟩) (by assumption) ?rest117
        case hy117 => (intro w hSw; (try dsimp only at hSw); go_simp; try with_reducible rfl)
        (try simp only [Act.put, List.setIfInBounds_toArray, List.set_cons_zero, List.set_cons_succ])
        refine wpAnyH_ready (rs := [2]) (by kernel_rfl) (by simp) ?_
        refine held_cons rfl (fun K hK => ?_) ?_
        · go_simp
          go_wp2_with (go_at_call 17; refine (HU1.out w9.drew TUw9.out.drew).mono ?_; rintro e v20 ⟨rfl, hb⟩)
          have GCv20 := Lib.hid (GCw9.out.drew.below hb)
          have TBv20 := Lib.hid (TBw9.out.drew.below hb)
          have TUv20 := Lib.hid (TUw9.out.drew.below hb)
          have HBv20 := Lib.hid (bw_call (bw_drew HBw9.out) hb)
          clear hb
          refine hK.out _ _ ?_ (fun hHeld => ?_)
          · exact GCv20.out.c
          clear hK K
          (try simp only [Act.put, List.setIfInBounds_toArray, List.set_cons_zero, List.set_cons_succ])
          refine wpAnyH_ready (rs := [5]) (by kernel_rfl) (by simp) ?_
          refine held_cons rfl (fun K hK => ?_) ?_
          · go_simp
            go_wp2_with (go_at_call 17; refine (HT1.out v20 TBv20.out).mono ?_; rintro e v21 ⟨rfl, hb⟩)
            have GCv21 := Lib.hid (GCv20.out.below hb)
            have TBv21 := Lib.hid (TBv20.out.below hb)
            have TUv21 := Lib.hid (TUv20.out.below hb)
            have HBv21 := Lib.hid (bw_call HBv20.out hb)
            clear hb GCv20 TBv20 TUv20 HBv20
            refine hK.out _ _ ?_ (fun hHeld => ?_)
            · exact GCv21.out.c
            clear hK K
            (try simp only [Act.put, List.setIfInBounds_toArray, List.set_cons_zero, List.set_cons_succ])
            refine held_take (i := 6) (v := ?v118) rfl (by kernel_rfl) (by kernel_rfl) (by kernel_rfl) (fun _ _ _ h => h) (Or.inl ⟨by rfl, ?hy118⟩) (by assumption) ?rest118
            case hy118 => (intro w hSw; (try dsimp only at hSw); go_simp; try with_reducible rfl)
            (try simp only [Act.put, List.setIfInBounds_toArray, List.set_cons_zero, List.set_cons_succ])
            refine held_take (i := 7) (v := ?v119) rfl (by kernel_rfl) (by kernel_rfl) (by kernel_rfl) (fun _ _ _ h => h) (Or.inl ⟨by rfl, ?hy119⟩) (by assumption) ?rest119
            case hy119 => (intro w hSw; (try dsimp only at hSw); go_simp; try with_reducible rfl)
            (try simp only [Act.put, List.setIfInBounds_toArray, List.set_cons_zero, List.set_cons_succ])
            refine held_take (i := 8) (v := ?v120) rfl (by kernel_rfl) (by kernel_rfl) (by kernel_rfl) (fun _ _ _ h => h) (Or.inl ⟨by rfl, ?hy120⟩) (by assumption) ?rest120
            case hy120 => (intro w hSw; (try dsimp only at hSw); go_simp; try with_reducible rfl)
            (try simp only [Act.put, List.setIfInBounds_toArray, List.set_cons_zero, List.set_cons_succ])
            refine held_take (i := 9) (v := ?v121) rfl (by kernel_rfl) (by kernel_rfl) (by kernel_rfl) (fun _ _ _ h => h) (Or.inl ⟨by rfl, ?hy121⟩) (by assumption) ?rest121
            case hy121 => (intro w hSw; (try dsimp only at hSw); go_simp; try with_reducible rfl)
            (try simp only [Act.put, List.setIfInBounds_toArray, List.set_cons_zero, List.set_cons_succ])
            refine held_take (i := 10) (v := ?v122) rfl (by kernel_rfl) (by kernel_rfl) (by kernel_rfl) (fun _ _ _ h => h) (Or.inl ⟨by rfl, ?hy122⟩) (by assumption) ?rest122
            case hy122 => (intro w hSw; (try dsimp only at hSw); go_simp; try with_reducible rfl)
            (try simp only [Act.put, List.setIfInBounds_toArray, List.set_cons_zero, List.set_cons_succ])
            refine held_take (i := 11) (v := ?v123) rfl (by kernel_rfl) (by kernel_rfl) (by kernel_rfl) (fun _ _ _ h => h) (Or.inl ⟨by rfl, ?hy123⟩) (by assumption) ?rest123
            case hy123 => (intro w hSw; (try dsimp only at hSw); go_simp; try with_reducible rfl)
            (try simp only [Act.put, List.setIfInBounds_toArray, List.set_cons_zero, List.set_cons_succ])
            refine held_take (i := 12) (v := ?v124) rfl (by kernel_rfl) (by kernel_rfl) (by kernel_rfl) (fun _ _ _ h => h) (Or.inl ⟨by rfl, ?hy124⟩) (by assumption) ?rest124
            case hy124 => (intro w hSw; (try dsimp only at hSw); go_simp; try with_reducible rfl)
            (try simp only [Act.put, List.setIfInBounds_toArray, List.set_cons_zero, List.set_cons_succ])
            refine held_take (i := 13) (v := ?v125) rfl (by kernel_rfl) (by kernel_rfl) (by kernel_rfl) (fun _ _ _ h => h) (Or.inl ⟨by rfl, ?hy125⟩) (by assumption) ?rest125
            case hy125 => (intro w hSw; (try dsimp only at hSw); go_simp; try with_reducible rfl)
            (try simp only [Act.put, List.setIfInBounds_toArray, List.set_cons_zero, List.set_cons_succ])
            refine held_take (i := 14) (v := ?v126) rfl (by kernel_rfl) (by kernel_rfl) (by kernel_rfl) (fun _ _ _ h => h) (Or.inl ⟨by rfl, ?hy126⟩) (by assumption) ?rest126
            case hy126 => (intro w hSw; (try dsimp only at hSw); go_simp; try with_reducible rfl)
            (try simp only [Act.put, List.setIfInBounds_toArray, List.set_cons_zero, List.set_cons_succ])
            refine held_take (i := 15) (v := ?v127) rfl (by kernel_rfl) (by kernel_rfl) (by kernel_rfl) (fun _ _ _ h => h) (Or.inl ⟨by rfl, ?hy127⟩) (by assumption) ?rest127
            case hy127 => (intro w hSw; (try dsimp only at hSw); go_simp; try with_reducible rfl)
            (try simp only [Act.put, List.setIfInBounds_toArray, List.set_cons_zero, List.set_cons_succ])
            refine held_take (i := 16) (v := ?v128) rfl (by kernel_rfl) (by kernel_rfl) (by kernel_rfl) (fun _ _ _ h => h) (Or.inl ⟨by rfl, ?hy128⟩) (by assumption) ?rest128
            case hy128 => (intro w hSw; (try dsimp only at hSw); go_simp; try with_reducible rfl)
            (try simp only [Act.put, List.setIfInBounds_toArray, List.set_cons_zero, List.set_cons_succ])
            refine held_take (i := 17) (v := ?v129) rfl (by kernel_rfl) (by kernel_rfl) (by kernel_rfl) (fun _ _ _ h => h) (Or.inl ⟨by rfl, ?hy129⟩) (by assumption) ?rest129
            case hy129 => (intro w hSw; (try dsimp only at hSw); go_simp; try with_reducible rfl)
            (try simp only [Act.put, List.setIfInBounds_toArray, List.set_cons_zero, List.set_cons_succ])
            refine held_take (i := 18) (v := ?v130) rfl (by kernel_rfl) (by kernel_rfl) (by kernel_rfl) (fun _ _ _ h => h) (Or.inl ⟨by rfl, ?hy130⟩) (by assumption) ?rest130
            case hy130 => (intro w hSw; (try dsimp only at hSw); go_simp; try with_reducible rfl)
            (try simp only [Act.put, List.setIfInBounds_toArray, List.set_cons_zero, List.set_cons_succ])
            refine held_take (i := 19) (v := ?v131) rfl (by kernel_rfl) (by kernel_rfl) (by kernel_rfl) (fun _ _ _ h => h) (Or.inl ⟨by rfl, ?hy131⟩) (by assumption) ?rest131
            case hy131 => (intro w hSw; (try dsimp only at hSw); go_simp; try with_reducible rfl)
            (try simp only [Act.put, List.setIfInBounds_toArray, List.set_cons_zero, List.set_cons_succ])
            refine held_take (i := 21) (v := ?v132) rfl (by kernel_rfl) (by kernel_rfl) (by kernel_rfl) (fun _ _ _ h => h) (Or.inl ⟨by rfl, ?hy132⟩) (by assumption) ?rest132
            case hy132 => (intro w hSw; (try dsimp only at hSw); go_simp; try with_reducible rfl)
            (try simp only [Act.put, List.setIfInBounds_toArray, List.set_cons_zero, List.set_cons_succ])
            refine held_take (i := 22) (v := ?v133) rfl (by kernel_rfl) (by kernel_rfl) (by kernel_rfl) (fun _ _ _ h => h) (Or.inl ⟨by rfl, ?hy133⟩) (by assumption) ?rest133
            case hy133 => (intro w hSw; (try dsimp only at hSw); go_simp; try with_reducible rfl)
            (try simp only [Act.put, List.setIfInBounds_toArray, List.set_cons_zero, List.set_cons_succ])
            refine held_take (i := 23) (v := ?v134) rfl (by kernel_rfl) (by kernel_rfl) (by kernel_rfl) (fun _ _ _ h => h) (Or.inl ⟨by rfl, ?hy134⟩) (by assumption) ?rest134
            case hy134 => (intro w hSw; (try dsimp only at hSw); go_simp; try with_reducible rfl)
            (try simp only [Act.put, List.setIfInBounds_toArray, List.set_cons_zero, List.set_cons_succ])
            refine held_take (i := 24) (v := ?v135) rfl (by kernel_rfl) (by kernel_rfl) (by kernel_rfl) (fun _ _ _ h => h) (Or.inl ⟨by rfl, ?hy135⟩) (by assumption) ?rest135
            case hy135 => (intro w hSw; (try dsimp only at hSw); go_simp; try with_reducible rfl)
            (try simp only [Act.put, List.setIfInBounds_toArray, List.set_cons_zero, List.set_cons_succ])
            refine wpAnyH_ready (rs := [20]) (by kernel_rfl) (by simp) ?_
            refine held_cons rfl (fun K hK => ?_) ?_
            · go_simp
              go_wp2_with (go_at_call 14; refine (HU2.out v21 TUv21.out).mono ?_; rintro e v22 ⟨rfl, hb⟩)
              have GCv22 := Lib.hid (GCv21.out.below hb)
              have TBv22 := Lib.hid (TBv21.out.below hb)
              have TUv22 := Lib.hid (TUv21.out.below hb)
              have HBv22 := Lib.hid (bw_call HBv21.out hb)
              clear hb GCv21 TBv21 TUv21 HBv21
              refine hK.out _ _ ?_ (fun hHeld => ?_)
              · exact GCv22.out.c
              clear hK K
              (try simp only [Act.put, List.setIfInBounds_toArray, List.set_cons_zero, List.set_cons_succ])
              refine held_take (i := 25) (v := ?v136) rfl (by kernel_rfl) (by kernel_rfl) (by kernel_rfl) (fun _ _ _ h => h) (Or.inl ⟨by rfl, ?hy136⟩) (by assumption) ?rest136
              case hy136 => (intro w hSw; (try dsimp only at hSw); go_simp; try with_reducible rfl)
              (try simp only [Act.put, List.setIfInBounds_toArray, List.set_cons_zero, List.set_cons_succ])
              refine held_take (i := 26) (v := ?v137) rfl (by kernel_rfl) (by kernel_rfl) (by kernel_rfl) (fun _ _ _ h => h) (Or.inl ⟨by rfl, ?hy137⟩) (by assumption) ?rest137
              case hy137 => (intro w hSw; (try dsimp only at hSw); go_simp; try with_reducible rfl)
              (try simp only [Act.put, List.setIfInBounds_toArray, List.set_cons_zero, List.set_cons_succ])
              refine wpAnyH_done (by kernel_rfl) ?_ _
              go_wp2_with fail
              exact ⟨⟨k + 1, by omega, by go_num, TBv22, TUv22, HBv22⟩, by simp [intOf]; omega⟩
            exact AllReadyH.nil
          exact AllReadyH.nil
        exact AllReadyH.nil
      · obtain rfl : k = 3 * T.length := by omega
        go_wp2_with fail
        go_ret
        exact ⟨rfl, HBk.out⟩
theorem renamedLaw_row (N : Int) (A : Option Addr) (n c : Nat) (T : List Tri) (Al : Option Addr) (m cl : Nat) (l : List Int) (w : World) (ht : TrisAt w w.heap.size A n T) (hl : Reads w w.heap.size 1 Al m (ZL l)) :
    Calls Try.prog 10 #[.agg #[.int .i64 N, .slice A n c], .slice Al m cl] w (BoolPost w true) := by
  obtain rfl : m = l.length := by have := hl.1; simp [ZL] at this; exact this.symm
  exact renamedLaw_any N A n c T Al cl l w ht (Lib.hid hl)
end Go.Proofs.Ytdmibpcpocacpaa
