/- The law SymmetryTold, walked: it holds. No condition. -/
import Derived.Test.YtiajlmajenabiaaGreatWith47
import Derived.Test.YtiajlmajenabiaaGreatMr47
set_option maxRecDepth 100000
set_option maxHeartbeats 16000000
set_option linter.all false
namespace Go.Proofs.YtiajlmajenabiaaGreat
open Go.RowKit
theorem spot47 {w : World} {q : Addr} {v : Value} (h : w.cell? q = some v) (n : Nat) : q.add n = ⟨q.block, q.off + n, none⟩ := by
 have := cell_spot h
 conv => lhs; rw [this]
 simp [Addr.add]
section
variable {m : Nat} {T : List Tri} {rn : List Int}
theorem told_tri (hs : SurfE m T) (h : IsoL m T T rn) {j : Nat} (hj : j < T.length) : ∃ i : Nat, withF T (tri (T.map (renU rn)) j).a (tri (T.map (renU rn)) j).b = some i ∧ withF T (tri (T.map (renU rn)) j).b (tri (T.map (renU rn)) j).c = some i := by
 have hp := iso_perm h
 have hu := ren_surf47 hs hp
 have hi := self_iso hs h
 have ht := hi.tri (3 * j) (by rw [List.length_map]; omega)
 rw [← tri_goes hs] at ht
 have hok := tri_ok hu (i := j) (by rw [List.length_map]; exact hj)
 rw [gS_id ⟨hok.a0, hok.a1⟩, gS_id ⟨hok.b0, hok.b1⟩, gS_id ⟨hok.c0, hok.c1⟩] at ht
 unfold isT at ht
 split at ht
 · cases ht
 · rename_i i hi
   exact ⟨i, hi, of_decide_eq_true ht⟩
end
theorem told_equal (m : Nat) (A A' : Option Addr) (c c' : Nat) (T : List Tri) (rn : List Int) (w : World) (hs : SurfE m T) (hn : T.length ≤ 14) (h : IsoL m T T rn) (ht : TrisAt w w.heap.size A T.length T) (hu : TrisAt w w.heap.size A' T.length (T.map (renU rn))) :
  Calls Tryz.prog 19 #[.agg #[.int .i64 (m : Int), .slice A' T.length c'], .agg #[.int .i64 (m : Int), .slice A T.length c]] w (BoolPost w true) := by
 have hl : (T.map (renU rn)).length = T.length := List.length_map _
 have hk : ∀ {U : List Tri}, U.length ≤ 14 → kN U < 20 ∧ U.length * kN U ≤ 1000 := fun {U} h => by
  have h1 := kN_le U
  refine ⟨by omega, ?_⟩
  have := Nat.mul_le_mul h (show kN U ≤ 14 by omega)
  omega
 obtain ⟨k1, k2⟩ := hk hn
 obtain ⟨k3, k4⟩ := hk (U := T.map (renU rn)) (by omega)
 have := equal_any (m : Int) (m : Int) A' A c' c (T.map (renU rn)) T w (by omega) k3 k4 (by rw [hl]; exact hu) (by omega) k1 k2 ht
 rw [hl] at this
 refine this.mono ?_
 rintro e w' ⟨N1, L1, e1, N2, L2, e2, h1, h2, rfl, hb⟩
 refine ⟨?_, hb⟩
 rw [decide_eq_true ((equal_iff (ren_surf47 hs (iso_perm h)) hs h1 h2).2 ⟨rfl, hl, _, self_iso hs h⟩)]
attribute [local irreducible] Blk World.alloc World.setCell World.cell? World.frozen? MapV MapI
theorem lawTold_any (N : Int) (A : Option Addr) (c : Nat) (T : List Tri) (w : World) (ht : TrisAt w w.heap.size A T.length T) :
  Calls Tryz.prog 8 #[.agg #[.int .i64 N, .slice A T.length c]] w (BoolPost w true) := by
 have HT := Lib.hid ht
 clear ht
 obtain ⟨k, hk⟩ : ∃ k, k = T.length := ⟨_, rfl⟩
 rw [← hk] at HT ⊢
 have HK := Lib.hid hk
 clear hk
 go_enter Tryz.func8, Tryz.ntmps8
 go_upto_region 1 with (fail)
 obtain ⟨wA, hwA⟩ : ∃ U, U = w.alloc (.cells #[.int .i64 N, .slice A k c] 24) := ⟨_, rfl⟩
 have K1A : Hid (Blk wA w.heap.size 24 #[.int .i64 N, .slice A k c]) := by subst hwA; exact Lib.hid (Blk.new _ _ _)
 have HBA : Hid (Below w.heap.size w wA) := by subst hwA; exact Lib.hid (bw_alloc (Below.refl _ _) _)
 rw [← hwA]
 obtain ⟨b1, hb1⟩ : ∃ b, b = w.heap.size := ⟨_, rfl⟩
 rw [← hb1] at K1A
 simp only [← hb1]
 clear hwA hb1
 have HAW := Lib.hid (awake_any wA)
 go_wp2_with fail
 refine HAW.out.mono ?_
 rintro e w1 ⟨rfl, hb⟩
 have HB1 := Lib.hid (bw_call HBA.out hb)
 have K11 := Lib.hid (K1A.out.below hb K1A.out.lt)
 clear hb HAW K1A HBA
 have p0 : w1.cell? ⟨b1, 0, none⟩ = some (.int .i64 N) := K11.out.cell 0
 have p1 : w1.cell? ⟨b1, 1, none⟩ = some (.slice A k c) := K11.out.cell 1
 have HGR := Lib.hid (great47_any N A k c w1)
 by_cases hbig : big47 N k
 · rw [if_pos hbig] at HGR
   go_wp2_with fail
   refine HGR.out.mono ?_
   rintro e w2 ⟨rfl, hb⟩
   have HB2 := Lib.hid (bw_call HB1.out hb)
   clear hb
   go_wp2_with fail
   go_ret
   exact ⟨rfl, HB2.out⟩
 rw [if_neg hbig] at HGR
 have hk14 : k ≤ 14 := by unfold big47 at hbig; omega
 clear hbig
 go_wp2_with fail
 refine HGR.out.mono ?_
 rintro e w2 ⟨rfl, hb⟩
 have HB2 := Lib.hid (bw_call HB1.out hb)
 have K12 := Lib.hid (K11.out.below hb K11.out.lt)
 clear hb HGR K11 HB1 p0 p1
 have p0 : w2.cell? ⟨b1, 0, none⟩ = some (.int .i64 N) := K12.out.cell 0
 have p1 : w2.cell? ⟨b1, 1, none⟩ = some (.slice A k c) := K12.out.cell 1
 have HAL : Hid (Calls Tryz.prog 25 #[.agg #[.int .i64 N, .slice A k c]] w2 (AllAny w2 N T)) := Lib.hid (by
  have := symAll_any N A c T w2 (by have := HK.out; omega) (by rw [← HK.out]; exact tris_on HB2.out HT.out)
  rw [← HK.out] at this
  exact this)
 go_wp2_with fail
 refine HAL.out.mono ?_
 rintro e w3 ⟨Al, cl, ws, er, rfl, hI, hws, hb⟩
 have HB3 := Lib.hid (bw_call HB2.out hb)
 have K13 := Lib.hid (K12.out.below hb K12.out.lt)
 have HWS := Lib.hid hws
 clear hb hws HAL p0 p1 K12 HB2
 cases hI with
 | no _ =>
  go_wp2_with fail
  go_ret
  exact ⟨rfl, HB3.out⟩
 | full m _ _ _ =>
  go_wp2_with fail
  go_ret
  exact ⟨rfl, HB3.out⟩
 | yes m ws hN hs hle hp ho =>
  subst hN
  have HS := Lib.hid hs
  have HP := Lib.hid hp
  obtain ⟨nw, hnw⟩ : ∃ n, n = ws.length := ⟨_, rfl⟩
  have HNW := Lib.hid hnw
  rw [← hnw]
  have hm := hs.m1
  have hnw1 : ¬ (1000 : Int) < (nw : Int) := by have := hp.length_eq; omega
  have HT3 := Lib.hid (tris_on HB3.out HT.out)
  have HWI : Hid (∀ (a b : Int) (W : World), Below w3.heap.size w3 W → Calls Tryz.prog 30 #[.agg #[.int .i64 (m : Int), .slice A k c], .int .i64 a, .int .i64 b] W (IntPost W (optI (withF T a b)))) := Lib.hid fun a b W hW => by
   rw [HK.out]
   exact with47_any (m : Int) A c T a b W (by have := HK.out; omega) (by rw [← HK.out]; exact tris_on hW HT3.out)
  have HRN : Hid (∀ (rn : List Int) (Ar : Option Addr) (cr : Nat) (W : World), Below w3.heap.size w3 W → IsoL m T T rn → Reads W W.heap.size 1 Ar m (ZL rn) → Calls Tryz.prog 20 #[.agg #[.int .i64 (m : Int), .slice A k c], .slice Ar m cr] W fun e w' => ∃ (Ax : Option Addr) (cx : Nat), e = .returned (.tuple #[.agg #[.int .i64 (m : Int), .slice Ax k cx], .int .i64 0]) ∧ LRow w' W.heap.size Ax cx (T.map (renU rn)) ∧ Below W.heap.size W w') := Lib.hid fun rn Ar cr W hW hi hr => by
   have := rename_any (m : Int) A k c T Ar m cr rn W (by omega) (by omega) (tris_on hW HT3.out) hr
   rw [renL_ok (fit_surf HS.out) (iso_perm hi)] at this
   refine this.mono ?_
   rintro e w' ⟨Ax, cx, rfl, hl, hb⟩
   exact ⟨Ax, cx, by dsimp only; rw [List.length_map, HK.out], hl, hb⟩
  have HEQ : Hid (∀ (rn : List Int) (Ax : Option Addr) (cx : Nat) (W : World), Below w3.heap.size w3 W → IsoL m T T rn → TrisAt W W.heap.size Ax k (T.map (renU rn)) → Calls Tryz.prog 19 #[.agg #[.int .i64 (m : Int), .slice Ax k cx], .agg #[.int .i64 (m : Int), .slice A k c]] W (BoolPost W true)) := Lib.hid fun rn Ax cx W hW hi ht => by
   have := told_equal m A Ax c cx T rn W HS.out (by have := HK.out; omega) hi (by rw [← HK.out]; exact tris_on hW HT3.out) (by rw [← HK.out]; exact ht)
   rw [← HK.out] at this
   exact this
  clear hs hp ho hle hnw
  go_wp2_with fail
  go_loopw [5] (fun iv wr => ∃ i : Nat, i ≤ nw ∧ iv = .int .i64 (i : Int) ∧ Hid (Below w3.heap.size w3 wr)) (fun iv _ => nw - (intOf iv).toNat)
  case atStart => exact ⟨0, by omega, rfl, Lib.hid (Below.refl _ _)⟩
  case round =>
   obtain ⟨i, hin, rfl, HBr⟩ := hrel
   obtain ⟨wE, hwE⟩ : ∃ wE : World, wE = wr := ⟨_, rfl⟩
   rw [← hwE] at HBr ⊢
   clear hwE
   by_cases hii : i < nw
   · have hiI : (i : Int) < (nw : Int) := by omega
     obtain ⟨gl, Ar, cr, hAl, hcl, hir⟩ := (HWS.out.below HBr.out).at_ (k := i) (by rw [← HNW.out]; exact hii)
     obtain ⟨rn, hrn⟩ : ∃ rn, rn = ws.getD i [] := ⟨_, rfl⟩
     rw [← hrn] at hcl hir
     have hmem : rn ∈ ws := by
      have hl : i < ws.length := by rw [← HNW.out]; exact hii
      rw [hrn, List.getD_eq_getElem?_getD, List.getElem?_eq_getElem hl]
      exact List.getElem_mem hl
     have HIS : Hid (IsoL m T T rn) := Lib.hid ((allR_iff HS.out rn).1 (HP.out.mem_iff.1 hmem))
     rw [HIS.out.len] at hcl
     have HIR := Lib.hid hir
     subst hAl
     clear hrn hmem hir
     have K1wE := Lib.hid (K13.out.below HBr.out K13.out.lt)
     have CLwE : Hid (CellQ wE ⟨gl, i, none⟩ (.slice Ar m cr)) := Lib.hid ⟨hcl, World.block_lt_of_cell? wE _ hcl⟩
     have HBwE := HBr
     have HRX : Hid (∀ (W : World), Below wE.heap.size wE W → Below w3.heap.size w3 W → Calls Tryz.prog 20 #[.agg #[.int .i64 (m : Int), .slice A k c], .slice Ar m cr] W fun e w' => ∃ (Ax : Option Addr) (cx : Nat), e = .returned (.tuple #[.agg #[.int .i64 (m : Int), .slice Ax k cx], .int .i64 0]) ∧ LRow w' W.heap.size Ax cx (T.map (renU rn)) ∧ Below W.heap.size W w') := Lib.hid fun W h1 h2 =>
      HRN.out rn Ar cr W h2 HIS.out (by have := Reads.of_own (HIR.out.below h1); rw [HIS.out.len] at this; exact this)
     clear hcl
     go_upto_region 11 with (fail)
     refine wp_region_till (S := fun w' => w'.cell? ⟨b1, 0, none⟩ = some (.int .i64 (m : Int)) ∧ w'.cell? ⟨b1, 1, none⟩ = some (.slice A k c) ∧ w'.cell? ⟨gl, i, none⟩ = some (.slice Ar m cr)) 11 (by kernel_rfl) ⟨(K1wE.out.drew.cell 0), (K1wE.out.drew.cell 1), (CLwE.out.drew.c)⟩ (fun hHeld => ?_)
     refine tKk 0 (v := ?vt1) ?ht1 ?rt1
     case ht1 => (intro w h; (try dsimp only at h); go_simp; try with_reducible rfl)
     (try simp only [Act.put, zQ1, zQ2, zQ3])
     refine tKk 1 (v := ?vt2) ?ht2 ?rt2
     case ht2 => (intro w h; (try dsimp only at h); go_simp; try with_reducible rfl)
     (try simp only [Act.put, zQ1, zQ2, zQ3])
     refine tKk 2 (v := ?vt3) ?ht3 ?rt3
     case ht3 => (intro w h; (try dsimp only at h); go_simp; try with_reducible rfl)
     (try simp only [Act.put, zQ1, zQ2, zQ3])
     refine tKk 3 (v := ?vt4) ?ht4 ?rt4
     case ht4 => (intro w h; (try dsimp only at h); go_simp; try with_reducible rfl)
     (try simp only [Act.put, zQ1, zQ2, zQ3])
     refine tKk 4 (v := ?vt5) ?ht5 ?rt5
     case ht5 => (intro w h; (try dsimp only at h); go_simp; try with_reducible rfl)
     (try simp only [Act.put, zQ1, zQ2, zQ3])
     refine Till.ready (rs := [5, 9]) (by kernel_rfl) (by simp) ?_
     refine TillEach.cons rfl (fun K hK => ?_) ?_
     · go_simp
       go_wp2_with (go_at_call 20; refine (HRX.out wE.drew (bw_drew (Below.refl _ _)) (bw_drew HBwE.out)).mono ?_; rintro e v3 ⟨Ax, cx, rfl, hlx, hb⟩)
       have K1v3 := Lib.hid (blk_call K1wE.out.drew hb)
       have CLv3 := Lib.hid (CLwE.out.drew.below hb)
       have HXv3 : Hid (LRow v3 wE.heap.size Ax cx (T.map (renU rn))) := Lib.hid (LRow.base hlx ((bw_drew (Below.refl _ _))).size)
       have HEv3 : Hid (Below wE.heap.size wE v3) := Lib.hid (bw_call (bw_drew (Below.refl _ _)) hb)
       try (have KXv3 : Hid (Blk v3 b6 24 #[.int .i64 0, .slice none 0 0]) := Lib.hid (KXwE.out.below hb KXwE.out.lt))
       have HBv3 := Lib.hid (bw_call (bw_drew HBwE.out) hb)
       clear hb
       refine hK.out _ _ ?_ (fun hHeld => ?_)
       · exact ⟨(K1v3.out.cell 0), (K1v3.out.cell 1), (CLv3.out.c)⟩
       clear hK K
       (try simp only [Act.put, zQ1, zQ2, zQ3])
       refine tKk 6 (v := ?vt6) ?ht6 ?rt6
       case ht6 => (intro w h; (try dsimp only at h); go_simp; try with_reducible rfl)
       (try simp only [Act.put, zQ1, zQ2, zQ3])
       refine tKk 7 (v := ?vt7) ?ht7 ?rt7
       case ht7 => (intro w h; (try dsimp only at h); go_simp; try with_reducible rfl)
       (try simp only [Act.put, zQ1, zQ2, zQ3])
       refine tKk 8 (v := ?vt8) ?ht8 ?rt8
       case ht8 => (intro w h; (try dsimp only at h); go_simp; try with_reducible rfl)
       (try simp only [Act.put, zQ1, zQ2, zQ3])
       refine Till.ready (rs := [9]) (by kernel_rfl) (by simp) ?_
       refine TillEach.cons rfl (fun K hK => ?_) ?_
       · go_simp
         go_wp2_with fail
         obtain ⟨v4, hvU⟩ : ∃ U, U = (v3.alloc (.cells #[.int .i64 0, .slice none 0 0] 24)) := ⟨_, rfl⟩
         have HBv4 : Hid (Below w3.heap.size w3 v4) := by subst hvU; first | exact Lib.hid (bw_alloc HBv3.out _) | exact Lib.hid (bw_drew (bw_alloc HBv3.out _))
         have K1v4 : Hid (Blk v4 b1 24 #[.int .i64 (m : Int), .slice A k c]) := by subst hvU; first | exact Lib.hid (K1v3.out.alloc _) | exact Lib.hid (K1v3.out.alloc _).drew
         have CLv4 : Hid (CellQ v4 ⟨gl, i, none⟩ (.slice Ar m cr)) := by subst hvU; first | exact Lib.hid (CLv3.out.below (bw_alloc (Below.refl _ _) _)) | exact Lib.hid (CLv3.out.below (bw_alloc (Below.refl _ _) _)).drew
         have KXv4 : Hid (Blk v4 v3.heap.size 24 #[.int .i64 0, .slice none 0 0]) := by subst hvU; first | exact Lib.hid (Blk.new _ _ _) | exact Lib.hid (Blk.new _ _ _).drew
         have HEv4 : Hid (Below wE.heap.size wE v4) := by subst hvU; first | exact Lib.hid (bw_alloc HEv3.out _) | exact Lib.hid (bw_drew (bw_alloc (Below.refl _ _) _))
         try (have HXv4 : Hid (LRow v4 wE.heap.size Ax cx (T.map (renU rn))) := (by subst hvU; exact Lib.hid (LRow.alloc HXv3.out _)))
         rw [← hvU]
         obtain ⟨b6, hb6⟩ : ∃ b, b = v3.heap.size := ⟨_, rfl⟩
         have HG6 : Hid (w3.heap.size ≤ b6 ∧ wE.heap.size ≤ b6) := Lib.hid ⟨by rw [hb6]; exact HBv3.out.size, by rw [hb6]; first | exact HEv3.out.size | exact Nat.le_refl _⟩
         rw [← hb6] at KXv4
         simp only [← hb6]
         clear hvU hb6
         refine hK.out _ _ ?_ (fun hHeld => ?_)
         · exact ⟨(K1v4.out.cell 0), (K1v4.out.cell 1), (CLv4.out.c)⟩
         clear hK K
         (try simp only [Act.put, zQ1, zQ2, zQ3])
         refine Till.ready (rs := [10]) (by kernel_rfl) (by simp) ?_
         refine TillEach.cons rfl (fun K hK => ?_) ?_
         · go_simp
           have hf0 := KXv4.out.frozen 0
           have hf1 := KXv4.out.frozen 1
           have hc0 := KXv4.out.cell 0
           have hc1 := KXv4.out.cell 1
           have hf2 := (KXv4.out.set_ 0 (.int .i64 (m : Int))).frozen 1
           have hc2 := (KXv4.out.set_ 0 (.int .i64 (m : Int))).cell 1
           simp at hc0 hc1 hc2
           go_wp2_with fail
           all_goals try (exact absurd (by assumption : v4.frozen? ⟨b6, 0, none⟩ = true) (by rw [hf0]; simp))
           obtain ⟨v5, hvU⟩ : ∃ U, U = (v4.setCell ⟨b6, 0, none⟩ (.int .i64 (m : Int))).setCell ⟨b6, 1, none⟩ (.slice Ax k cx) := ⟨_, rfl⟩
           have HNE : Hid (b1 ≠ b6) := Lib.hid (by have h1 := K13.out.lt; have := HG6.out.1; omega)
           have HNL : Hid (gl ≠ b6) := Lib.hid (by have h1 := CLwE.out.lt; have := HG6.out.2; simp only at h1; omega)
           have HBv5 : Hid (Below w3.heap.size w3 v5) := by subst hvU; exact Lib.hid (bw_set (bw_set HBv4.out HG6.out.1 _) HG6.out.1 _)
           have K1v5 : Hid (Blk v5 b1 24 #[.int .i64 (m : Int), .slice A k c]) := by subst hvU; exact Lib.hid ((K1v4.out.far (p := ⟨b6, 0, none⟩) HNE.out _).far (p := ⟨b6, 1, none⟩) HNE.out _)
           have KXv5 : Hid (Blk v5 b6 24 #[.int .i64 (m : Int), .slice Ax k cx]) := by subst hvU; exact Lib.hid ((KXv4.out.set_ 0 (.int .i64 (m : Int))).set_ 1 (.slice Ax k cx))
           have HXv5 : Hid (LRow v5 wE.heap.size Ax cx (T.map (renU rn))) := by subst hvU; exact Lib.hid (own_off (own_off HXv4.out KXv4.out (by decide) 0 (.int .i64 (m : Int))) (KXv4.out.set_ 0 (.int .i64 (m : Int))) (by decide) 1 (.slice Ax k cx))
           have CLv5 : Hid (CellQ v5 ⟨gl, i, none⟩ (.slice Ar m cr)) := by subst hvU; exact Lib.hid ⟨by rw [World.cell?_of_block (Below.heap_setCell _ ⟨b6, 1, none⟩ _ _ HNL.out), World.cell?_of_block (Below.heap_setCell _ ⟨b6, 0, none⟩ _ _ HNL.out)]; exact CLv4.out.c, by rw [World.size_setCell, World.size_setCell]; exact CLv4.out.lt⟩
           rw [← hvU]
           clear hvU hf0 hf1 hc0 hc1 hf2 hc2
           refine hK.out _ _ ?_ (fun hHeld => ?_)
           · exact ⟨(K1v5.out.cell 0), (K1v5.out.cell 1), (CLv5.out.c)⟩
           clear hK K
           (try simp only [Act.put, zQ1, zQ2, zQ3])
           refine Till.ready (rs := [11]) (by kernel_rfl) (by simp) ?_
           refine TillEach.last rfl (fun K hK => ?_)
           · go_simp
             refine hK.out _ _ ?_
             clear hK K
             (try simp only [Act.put, zQ1, zQ2, zQ3])
             refine Till.done (by kernel_rfl) ?_ _
             have K1n := K1v5
             have KXn := KXv5
             have HXn := HXv5
             have HBn := HBv5
             have HGE : Hid (w3.heap.size ≤ wE.heap.size) := Lib.hid HBr.out.size
             obtain ⟨wX, hwX⟩ : ∃ X, X = v5 := ⟨_, rfl⟩
             rw [← hwX] at K1n KXn HXn HBn ⊢
             clear hwX
             obtain ⟨X, hX⟩ : ∃ X, X = T.map (renU rn) := ⟨_, rfl⟩
             rw [← hX] at HXn
             have HXL : Hid (X.length = k) := Lib.hid (by rw [hX, List.length_map]; exact HK.out.symm)
             have HTR : Hid (TrisAt wX wX.heap.size Ax k X) := Lib.hid (by have := LRow.tris HXn.out; rw [HXL.out] at this; exact this)
             have HTT : Hid (∀ j, j < k → ∃ i : Nat, withF T (tri X j).a (tri X j).b = some i ∧ withF T (tri X j).b (tri X j).c = some i) := Lib.hid fun j hj => by
              rw [hX]
              exact told_tri HS.out HIS.out (by rw [← HK.out]; exact hj)
             have HEX : Hid (∀ W, Below wX.heap.size wX W → Calls Tryz.prog 19 #[.agg #[.int .i64 (m : Int), .slice Ax k cx], .agg #[.int .i64 (m : Int), .slice A k c]] W (BoolPost W true)) := Lib.hid fun W hW =>
              HEQ.out rn Ax cx W (bw_call HBn.out hW) HIS.out (by rw [← hX]; exact tris_on hW HTR.out)
             have HWX : Hid (∀ (a b : Int) (W : World), Below wX.heap.size wX W → Calls Tryz.prog 30 #[.agg #[.int .i64 (m : Int), .slice A k c], .int .i64 a, .int .i64 b] W (IntPost W (optI (withF T a b)))) := Lib.hid fun a b W hW => HWI.out a b W (bw_call HBn.out hW)
             clear hX
             have x0 : wX.cell? ⟨b6, 0, none⟩ = some (.int .i64 (m : Int)) := KXn.out.cell 0
             have x1 : wX.cell? ⟨b6, 1, none⟩ = some (.slice Ax k cx) := KXn.out.cell 1
             go_wp2_with fail
             go_loopw [8] (fun jv wr => ∃ j : Nat, j ≤ k ∧ jv = .int .i64 (j : Int) ∧ Hid (Below wX.heap.size wX wr)) (fun jv _ => k - (intOf jv).toNat)
             case atStart => exact ⟨0, by omega, rfl, Lib.hid (Below.refl _ _)⟩
             case round =>
              obtain ⟨j, hjk, rfl, HBj⟩ := hrel
              obtain ⟨wF, hwF⟩ : ∃ X, X = wr := ⟨_, rfl⟩
              rw [← hwF] at HBj ⊢
              clear hwF x0 x1
              have K1wF := Lib.hid (K1n.out.below HBj.out K1n.out.lt)
              have KXwF := Lib.hid (KXn.out.below HBj.out KXn.out.lt)
              have x0 : wF.cell? ⟨b6, 0, none⟩ = some (.int .i64 (m : Int)) := KXwF.out.cell 0
              have x1 : wF.cell? ⟨b6, 1, none⟩ = some (.slice Ax k cx) := KXwF.out.cell 1
              by_cases hjj : j < k
              · have hjI : (j : Int) < (k : Int) := by omega
                obtain ⟨ax, hAx, hq⟩ := (tris_on HBj.out HTR.out).triQ (Nat.le_refl _) hjj
                obtain ⟨iw, hw1, hw2⟩ := HTT.out j hjj
                generalize tri X j = t at hq hw1 hw2
                obtain ⟨ta, tb, tc⟩ := t
                dsimp only at hq hw1 hw2
                have HW1 := Lib.hid (HWX.out ta tb)
                have HW2 := Lib.hid (HWX.out tb tc)
                rw [hw1, show optI (some iw) = (iw : Int) from rfl] at HW1
                rw [hw2, show optI (some iw) = (iw : Int) from rfl] at HW2
                have C0wF : Hid (CellQ wF (ax.add (j * 3)) (.int .i64 ta)) := Lib.hid ⟨hq.c.c0, hq.lt⟩
                have C1wF : Hid (CellQ wF ⟨(ax.add (j * 3)).block, (ax.add (j * 3)).off + 1, none⟩ (.int .i64 tb)) := Lib.hid ⟨by rw [← spot47 hq.c.c0 1]; exact hq.c.c1, hq.lt⟩
                have C2wF : Hid (CellQ wF ⟨(ax.add (j * 3)).block, (ax.add (j * 3)).off + 2, none⟩ (.int .i64 tc)) := Lib.hid ⟨by rw [← spot47 hq.c.c0 2]; exact hq.c.c2, hq.lt⟩
                have HJwF := HBj
                subst hAx
                clear hw1 hw2 hq
                have hi0 : ¬ (iw : Int) < 0 := by omega
                go_upto_region 17 with (fail)
                clear x0 x1
                refine wp_region_till (S := fun w' => w'.cell? ⟨b1, 0, none⟩ = some (.int .i64 (m : Int)) ∧ w'.cell? ⟨b1, 1, none⟩ = some (.slice A k c) ∧ w'.cell? ⟨b6, 0, none⟩ = some (.int .i64 (m : Int)) ∧ w'.cell? ⟨b6, 1, none⟩ = some (.slice (some ax) k cx) ∧ w'.cell? (ax.add (j * 3)) = some (.int .i64 ta) ∧ w'.cell? ⟨(ax.add (j * 3)).block, (ax.add (j * 3)).off + 1, none⟩ = some (.int .i64 tb)) 14 (by kernel_rfl) ⟨(K1wF.out.drew.cell 0), (K1wF.out.drew.cell 1), (KXwF.out.drew.cell 0), (KXwF.out.drew.cell 1), (C0wF.out.drew.c), (C1wF.out.drew.c)⟩ (fun hHeld => ?_)
                refine tKk 0 (v := ?vt12c1) ?ht12c1 ?rt12c1
                case ht12c1 => (intro w h; (try dsimp only at h); go_simp; try with_reducible rfl)
                (try simp only [Act.put, zQ1, zQ2, zQ3])
                refine tKk 1 (v := ?vt13c1) ?ht13c1 ?rt13c1
                case ht13c1 => (intro w h; (try dsimp only at h); go_simp; try with_reducible rfl)
                (try simp only [Act.put, zQ1, zQ2, zQ3])
                refine tKk 2 (v := ?vt14c1) ?ht14c1 ?rt14c1
                case ht14c1 => (intro w h; (try dsimp only at h); go_simp; try with_reducible rfl)
                (try simp only [Act.put, zQ1, zQ2, zQ3])
                refine tKk 3 (v := ?vt15c1) ?ht15c1 ?rt15c1
                case ht15c1 => (intro w h; (try dsimp only at h); go_simp; try with_reducible rfl)
                (try simp only [Act.put, zQ1, zQ2, zQ3])
                refine tKk 4 (v := ?vt16c1) ?ht16c1 ?rt16c1
                case ht16c1 => (intro w h; (try dsimp only at h); go_simp; try with_reducible rfl)
                (try simp only [Act.put, zQ1, zQ2, zQ3])
                refine tKk 5 (v := ?vt17c1) ?ht17c1 ?rt17c1
                case ht17c1 => (intro w h; (try dsimp only at h); go_simp; try with_reducible rfl)
                (try simp only [Act.put, zQ1, zQ2, zQ3])
                refine tKk 6 (v := ?vt18c1) ?ht18c1 ?rt18c1
                case ht18c1 => (intro w h; (try dsimp only at h); go_simp; try with_reducible rfl)
                (try simp only [Act.put, zQ1, zQ2, zQ3])
                refine tKk 7 (v := ?vt19c1) ?ht19c1 ?rt19c1
                case ht19c1 => (intro w h; (try dsimp only at h); go_simp; try with_reducible rfl)
                (try simp only [Act.put, zQ1, zQ2, zQ3])
                refine tKk 8 (v := ?vt20c1) ?ht20c1 ?rt20c1
                case ht20c1 => (intro w h; (try dsimp only at h); go_simp; try with_reducible rfl)
                (try simp only [Act.put, zQ1, zQ2, zQ3])
                refine tKk 9 (v := ?vt21c1) ?ht21c1 ?rt21c1
                case ht21c1 => (intro w h; (try dsimp only at h); go_simp; try with_reducible rfl)
                (try simp only [Act.put, zQ1, zQ2, zQ3])
                refine tKk 10 (v := ?vt22c1) ?ht22c1 ?rt22c1
                case ht22c1 => (intro w h; (try dsimp only at h); go_simp; try with_reducible rfl)
                (try simp only [Act.put, zQ1, zQ2, zQ3])
                refine tKk 11 (v := ?vt23c1) ?ht23c1 ?rt23c1
                case ht23c1 => (intro w h; (try dsimp only at h); go_simp; try with_reducible rfl)
                (try simp only [Act.put, zQ1, zQ2, zQ3])
                refine tKk 12 (v := ?vt24c1) ?ht24c1 ?rt24c1
                case ht24c1 => (intro w h; (try dsimp only at h); go_simp; try with_reducible rfl)
                (try simp only [Act.put, zQ1, zQ2, zQ3])
                refine Till.ready (rs := [13]) (by kernel_rfl) (by simp) ?_
                refine TillEach.cons rfl (fun K hK => ?_) ?_
                · go_simp
                  go_wp2_with (go_at_call 30; refine (HW1.out wF.drew (bw_drew HJwF.out)).mono ?_; rintro e v21 ⟨rfl, hb⟩)
                  have K1v21 := Lib.hid (blk_call K1wF.out.drew hb)
                  have KXv21 := Lib.hid (blk_call KXwF.out.drew hb)
                  have C0v21 := Lib.hid (C0wF.out.drew.below hb)
                  have C1v21 := Lib.hid (C1wF.out.drew.below hb)
                  have C2v21 := Lib.hid (C2wF.out.drew.below hb)
                  have HJv21 := Lib.hid (bw_call (bw_drew HJwF.out) hb)
                  clear hb
                  refine hK.out _ _ ?_ (fun hHeld => ?_)
                  · exact ⟨(K1v21.out.cell 0), (K1v21.out.cell 1), (KXv21.out.cell 0), (KXv21.out.cell 1), (C0v21.out.c), (C1v21.out.c)⟩
                  clear hK K
                  (try simp only [Act.put, zQ1, zQ2, zQ3])
                  refine Till.ready (rs := [14]) (by kernel_rfl) (by simp) ?_
                  refine TillEach.last rfl (fun K hK => ?_)
                  · go_simp
                    refine hK.out _ _ ?_
                    clear hK K
                    (try simp only [Act.put, zQ1, zQ2, zQ3])
                    refine Till.done (by kernel_rfl) ?_ _
                    obtain ⟨wG, hwG⟩ : ∃ X, X = v21 := ⟨_, rfl⟩
                    have K1wG := K1v21
                    have KXwG := KXv21
                    have C1wG := C1v21
                    have C2wG := C2v21
                    have HJwG := HJv21
                    rw [← hwG] at K1wG KXwG C1wG C2wG HJwG ⊢
                    clear hwG
                    go_upto_region 18 with (fail)
                    refine wp_region_held_drew (S := fun w' => w'.cell? ⟨b1, 0, none⟩ = some (.int .i64 (m : Int)) ∧ w'.cell? ⟨b1, 1, none⟩ = some (.slice A k c) ∧ w'.cell? ⟨b6, 0, none⟩ = some (.int .i64 (m : Int)) ∧ w'.cell? ⟨b6, 1, none⟩ = some (.slice (some ax) k cx) ∧ w'.cell? ⟨(ax.add (j * 3)).block, (ax.add (j * 3)).off + 1, none⟩ = some (.int .i64 tb) ∧ w'.cell? ⟨(ax.add (j * 3)).block, (ax.add (j * 3)).off + 2, none⟩ = some (.int .i64 tc)) (by kernel_rfl) ⟨(K1wG.out.drew.cell 0), (K1wG.out.drew.cell 1), (KXwG.out.drew.cell 0), (KXwG.out.drew.cell 1), (C1wG.out.drew.c), (C2wG.out.drew.c)⟩ (fun hHeld => ?_)
                    refine hKk 0 (v := ?v1c1) ?y1c1 ?r1c1
                    case y1c1 => (intro w h; (try dsimp only at h); go_simp; try with_reducible rfl)
                    (try simp only [Act.put, zQ1, zQ2, zQ3])
                    refine hKk 1 (v := ?v2c1) ?y2c1 ?r2c1
                    case y2c1 => (intro w h; (try dsimp only at h); go_simp; try with_reducible rfl)
                    (try simp only [Act.put, zQ1, zQ2, zQ3])
                    refine hKk 2 (v := ?v3c1) ?y3c1 ?r3c1
                    case y3c1 => (intro w h; (try dsimp only at h); go_simp; try with_reducible rfl)
                    (try simp only [Act.put, zQ1, zQ2, zQ3])
                    refine hKk 3 (v := ?v4c1) ?y4c1 ?r4c1
                    case y4c1 => (intro w h; (try dsimp only at h); go_simp; try with_reducible rfl)
                    (try simp only [Act.put, zQ1, zQ2, zQ3])
                    refine hKk 4 (v := ?v5c1) ?y5c1 ?r5c1
                    case y5c1 => (intro w h; (try dsimp only at h); go_simp; try with_reducible rfl)
                    (try simp only [Act.put, zQ1, zQ2, zQ3])
                    refine hKk 5 (v := ?v6c1) ?y6c1 ?r6c1
                    case y6c1 => (intro w h; (try dsimp only at h); go_simp; try with_reducible rfl)
                    (try simp only [Act.put, zQ1, zQ2, zQ3])
                    refine hKk 6 (v := ?v7c1) ?y7c1 ?r7c1
                    case y7c1 => (intro w h; (try dsimp only at h); go_simp; try with_reducible rfl)
                    (try simp only [Act.put, zQ1, zQ2, zQ3])
                    refine hKk 7 (v := ?v8c1) ?y8c1 ?r8c1
                    case y8c1 => (intro w h; (try dsimp only at h); go_simp; try with_reducible rfl)
                    (try simp only [Act.put, zQ1, zQ2, zQ3])
                    refine hKk 8 (v := ?v9c1) ?y9c1 ?r9c1
                    case y9c1 => (intro w h; (try dsimp only at h); go_simp; try with_reducible rfl)
                    (try simp only [Act.put, zQ1, zQ2, zQ3])
                    refine hKk 9 (v := ?v10c1) ?y10c1 ?r10c1
                    case y10c1 => (intro w h; (try dsimp only at h); go_simp; try with_reducible rfl)
                    (try simp only [Act.put, zQ1, zQ2, zQ3])
                    refine hKk 10 (v := ?v11c1) ?y11c1 ?r11c1
                    case y11c1 => (intro w h; (try dsimp only at h); go_simp; try with_reducible rfl)
                    (try simp only [Act.put, zQ1, zQ2, zQ3])
                    refine hKk 11 (v := ?v12c1) ?y12c1 ?r12c1
                    case y12c1 => (intro w h; (try dsimp only at h); go_simp; try with_reducible rfl)
                    (try simp only [Act.put, zQ1, zQ2, zQ3])
                    refine hKk 12 (v := ?v13c1) ?y13c1 ?r13c1
                    case y13c1 => (intro w h; (try dsimp only at h); go_simp; try with_reducible rfl)
                    (try simp only [Act.put, zQ1, zQ2, zQ3])
                    refine hKk 13 (v := ?v14c1) ?y14c1 ?r14c1
                    case y14c1 => (intro w h; (try dsimp only at h); go_simp; try with_reducible rfl)
                    (try simp only [Act.put, zQ1, zQ2, zQ3])
                    refine hKk 14 (v := ?v15c1) ?y15c1 ?r15c1
                    case y15c1 => (intro w h; (try dsimp only at h); go_simp; try with_reducible rfl)
                    (try simp only [Act.put, zQ1, zQ2, zQ3])
                    refine hKk 15 (v := ?v16c1) ?y16c1 ?r16c1
                    case y16c1 => (intro w h; (try dsimp only at h); go_simp; try with_reducible rfl)
                    (try simp only [Act.put, zQ1, zQ2, zQ3])
                    refine hKk 17 (v := ?v17c1) ?y17c1 ?r17c1
                    case y17c1 => (intro w h; (try dsimp only at h); go_simp; try with_reducible rfl)
                    (try simp only [Act.put, zQ1, zQ2, zQ3])
                    refine wpAnyH_ready (rs := [16]) (by kernel_rfl) (by simp) ?_
                    refine held_cons rfl (fun K hK => ?_) ?_
                    · go_simp
                      go_wp2_with (go_at_call 30; refine (HW2.out wG.drew (bw_drew HJwG.out)).mono ?_; rintro e v31 ⟨rfl, hb⟩)
                      have K1v31 := Lib.hid (blk_call K1wG.out.drew hb)
                      have KXv31 := Lib.hid (blk_call KXwG.out.drew hb)
                      have C1v31 := Lib.hid (C1wG.out.drew.below hb)
                      have C2v31 := Lib.hid (C2wG.out.drew.below hb)
                      have HJv31 := Lib.hid (bw_call (bw_drew HJwG.out) hb)
                      clear hb
                      refine hK.out _ _ ?_ (fun hHeld => ?_)
                      · exact ⟨(K1v31.out.cell 0), (K1v31.out.cell 1), (KXv31.out.cell 0), (KXv31.out.cell 1), (C1v31.out.c), (C2v31.out.c)⟩
                      clear hK K
                      (try simp only [Act.put, zQ1, zQ2, zQ3])
                      refine hKk 18 (v := ?v18c1) ?y18c1 ?r18c1
                      case y18c1 => (intro w h; (try dsimp only at h); go_simp; try with_reducible rfl)
                      (try simp only [Act.put, zQ1, zQ2, zQ3])
                      refine hKk 19 (v := ?v19c1) ?y19c1 ?r19c1
                      case y19c1 => (intro w h; (try dsimp only at h); go_simp; try with_reducible rfl)
                      (try simp only [Act.put, zQ1, zQ2, zQ3])
                      refine wpAnyH_done (by kernel_rfl) ?_ _
                      have HJn := HJv31
                      have hii2 : ((iw : Int) != (iw : Int)) = false := by simp
                      go_wp2_with fail
                      go_roundw
                      case rel => exact ⟨j + 1, by omega, by go_num, HJn⟩
                      case measure => simp [intOf]; omega
                    exact AllReadyH.nil
                exact TillEach.nil
              · obtain rfl : j = k := by omega
                have hjI : ¬ (j : Int) < (j : Int) := by omega
                have p0 : wF.cell? ⟨b1, 0, none⟩ = some (.int .i64 (m : Int)) := K1wF.out.cell 0
                have p1 : wF.cell? ⟨b1, 1, none⟩ = some (.slice A j c) := K1wF.out.cell 1
                have HEF := Lib.hid (HEX.out wF HBj.out)
                go_wp2_with fail
                refine HEF.out.mono ?_
                rintro e w9 ⟨rfl, hb⟩
                have HB9 := Lib.hid (bw_call HBn.out (bw_call HBj.out hb))
                clear hb
                go_wp2_with fail
                go_roundw
                case rel => exact ⟨i + 1, by omega, by go_num, HB9⟩
                case measure => simp [intOf]; omega
         exact TillEach.nil
       exact TillEach.nil
     refine TillEach.cons rfl (fun K hK => ?_) ?_
     · go_simp
       go_wp2_with fail
       obtain ⟨v3, hvU⟩ : ∃ U, U = (wE.alloc (.cells #[.int .i64 0, .slice none 0 0] 24)).drew := ⟨_, rfl⟩
       have HBv3 : Hid (Below w3.heap.size w3 v3) := by subst hvU; first | exact Lib.hid (bw_alloc HBwE.out _) | exact Lib.hid (bw_drew (bw_alloc HBwE.out _))
       have K1v3 : Hid (Blk v3 b1 24 #[.int .i64 (m : Int), .slice A k c]) := by subst hvU; first | exact Lib.hid (K1wE.out.alloc _) | exact Lib.hid (K1wE.out.alloc _).drew
       have CLv3 : Hid (CellQ v3 ⟨gl, i, none⟩ (.slice Ar m cr)) := by subst hvU; first | exact Lib.hid (CLwE.out.below (bw_alloc (Below.refl _ _) _)) | exact Lib.hid (CLwE.out.below (bw_alloc (Below.refl _ _) _)).drew
       have KXv3 : Hid (Blk v3 wE.heap.size 24 #[.int .i64 0, .slice none 0 0]) := by subst hvU; first | exact Lib.hid (Blk.new _ _ _) | exact Lib.hid (Blk.new _ _ _).drew
       have HEv3 : Hid (Below wE.heap.size wE v3) := by subst hvU; first | exact Lib.hid (bw_alloc HEwE.out _) | exact Lib.hid (bw_drew (bw_alloc (Below.refl _ _) _))
       try (have HXv3 : Hid (LRow v3 wE.heap.size Ax cx (T.map (renU rn))) := (by subst hvU; exact Lib.hid (LRow.alloc HXwE.out _)))
       rw [← hvU]
       obtain ⟨b6, hb6⟩ : ∃ b, b = wE.heap.size := ⟨_, rfl⟩
       have HG6 : Hid (w3.heap.size ≤ b6 ∧ wE.heap.size ≤ b6) := Lib.hid ⟨by rw [hb6]; exact HBwE.out.size, by rw [hb6]; first | exact HEwE.out.size | exact Nat.le_refl _⟩
       rw [← hb6] at KXv3
       simp only [← hb6]
       clear hvU hb6
       refine hK.out _ _ ?_ (fun hHeld => ?_)
       · exact ⟨(K1v3.out.cell 0), (K1v3.out.cell 1), (CLv3.out.c)⟩
       clear hK K
       (try simp only [Act.put, zQ1, zQ2, zQ3])
       refine Till.ready (rs := [5]) (by kernel_rfl) (by simp) ?_
       refine TillEach.cons rfl (fun K hK => ?_) ?_
       · go_simp
         go_wp2_with (go_at_call 20; refine (HRX.out v3 HEv3.out HBv3.out).mono ?_; rintro e v4 ⟨Ax, cx, rfl, hlx, hb⟩)
         have K1v4 := Lib.hid (blk_call K1v3.out hb)
         have CLv4 := Lib.hid (CLv3.out.below hb)
         have HXv4 : Hid (LRow v4 wE.heap.size Ax cx (T.map (renU rn))) := Lib.hid (LRow.base hlx (HEv3.out).size)
         have HEv4 : Hid (Below wE.heap.size wE v4) := Lib.hid (bw_call HEv3.out hb)
         try (have KXv4 : Hid (Blk v4 b6 24 #[.int .i64 0, .slice none 0 0]) := Lib.hid (KXv3.out.below hb KXv3.out.lt))
         have HBv4 := Lib.hid (bw_call HBv3.out hb)
         clear hb K1v3 CLv3 HBv3
         refine hK.out _ _ ?_ (fun hHeld => ?_)
         · exact ⟨(K1v4.out.cell 0), (K1v4.out.cell 1), (CLv4.out.c)⟩
         clear hK K
         (try simp only [Act.put, zQ1, zQ2, zQ3])
         refine tKk 6 (v := ?vt9) ?ht9 ?rt9
         case ht9 => (intro w h; (try dsimp only at h); go_simp; try with_reducible rfl)
         (try simp only [Act.put, zQ1, zQ2, zQ3])
         refine tKk 7 (v := ?vt10) ?ht10 ?rt10
         case ht10 => (intro w h; (try dsimp only at h); go_simp; try with_reducible rfl)
         (try simp only [Act.put, zQ1, zQ2, zQ3])
         refine tKk 8 (v := ?vt11) ?ht11 ?rt11
         case ht11 => (intro w h; (try dsimp only at h); go_simp; try with_reducible rfl)
         (try simp only [Act.put, zQ1, zQ2, zQ3])
         refine Till.ready (rs := [10]) (by kernel_rfl) (by simp) ?_
         refine TillEach.cons rfl (fun K hK => ?_) ?_
         · go_simp
           have hf0 := KXv4.out.frozen 0
           have hf1 := KXv4.out.frozen 1
           have hc0 := KXv4.out.cell 0
           have hc1 := KXv4.out.cell 1
           have hf2 := (KXv4.out.set_ 0 (.int .i64 (m : Int))).frozen 1
           have hc2 := (KXv4.out.set_ 0 (.int .i64 (m : Int))).cell 1
           simp at hc0 hc1 hc2
           go_wp2_with fail
           all_goals try (exact absurd (by assumption : v4.frozen? ⟨b6, 0, none⟩ = true) (by rw [hf0]; simp))
           obtain ⟨v5, hvU⟩ : ∃ U, U = (v4.setCell ⟨b6, 0, none⟩ (.int .i64 (m : Int))).setCell ⟨b6, 1, none⟩ (.slice Ax k cx) := ⟨_, rfl⟩
           have HNE : Hid (b1 ≠ b6) := Lib.hid (by have h1 := K13.out.lt; have := HG6.out.1; omega)
           have HNL : Hid (gl ≠ b6) := Lib.hid (by have h1 := CLwE.out.lt; have := HG6.out.2; simp only at h1; omega)
           have HBv5 : Hid (Below w3.heap.size w3 v5) := by subst hvU; exact Lib.hid (bw_set (bw_set HBv4.out HG6.out.1 _) HG6.out.1 _)
           have K1v5 : Hid (Blk v5 b1 24 #[.int .i64 (m : Int), .slice A k c]) := by subst hvU; exact Lib.hid ((K1v4.out.far (p := ⟨b6, 0, none⟩) HNE.out _).far (p := ⟨b6, 1, none⟩) HNE.out _)
           have KXv5 : Hid (Blk v5 b6 24 #[.int .i64 (m : Int), .slice Ax k cx]) := by subst hvU; exact Lib.hid ((KXv4.out.set_ 0 (.int .i64 (m : Int))).set_ 1 (.slice Ax k cx))
           have HXv5 : Hid (LRow v5 wE.heap.size Ax cx (T.map (renU rn))) := by subst hvU; exact Lib.hid (own_off (own_off HXv4.out KXv4.out (by decide) 0 (.int .i64 (m : Int))) (KXv4.out.set_ 0 (.int .i64 (m : Int))) (by decide) 1 (.slice Ax k cx))
           have CLv5 : Hid (CellQ v5 ⟨gl, i, none⟩ (.slice Ar m cr)) := by subst hvU; exact Lib.hid ⟨by rw [World.cell?_of_block (Below.heap_setCell _ ⟨b6, 1, none⟩ _ _ HNL.out), World.cell?_of_block (Below.heap_setCell _ ⟨b6, 0, none⟩ _ _ HNL.out)]; exact CLv4.out.c, by rw [World.size_setCell, World.size_setCell]; exact CLv4.out.lt⟩
           rw [← hvU]
           clear hvU hf0 hf1 hc0 hc1 hf2 hc2
           refine hK.out _ _ ?_ (fun hHeld => ?_)
           · exact ⟨(K1v5.out.cell 0), (K1v5.out.cell 1), (CLv5.out.c)⟩
           clear hK K
           (try simp only [Act.put, zQ1, zQ2, zQ3])
           refine Till.ready (rs := [11]) (by kernel_rfl) (by simp) ?_
           refine TillEach.last rfl (fun K hK => ?_)
           · go_simp
             refine hK.out _ _ ?_
             clear hK K
             (try simp only [Act.put, zQ1, zQ2, zQ3])
             refine Till.done (by kernel_rfl) ?_ _
             have K1n := K1v5
             have KXn := KXv5
             have HXn := HXv5
             have HBn := HBv5
             have HGE : Hid (w3.heap.size ≤ wE.heap.size) := Lib.hid HBr.out.size
             obtain ⟨wX, hwX⟩ : ∃ X, X = v5 := ⟨_, rfl⟩
             rw [← hwX] at K1n KXn HXn HBn ⊢
             clear hwX
             obtain ⟨X, hX⟩ : ∃ X, X = T.map (renU rn) := ⟨_, rfl⟩
             rw [← hX] at HXn
             have HXL : Hid (X.length = k) := Lib.hid (by rw [hX, List.length_map]; exact HK.out.symm)
             have HTR : Hid (TrisAt wX wX.heap.size Ax k X) := Lib.hid (by have := LRow.tris HXn.out; rw [HXL.out] at this; exact this)
             have HTT : Hid (∀ j, j < k → ∃ i : Nat, withF T (tri X j).a (tri X j).b = some i ∧ withF T (tri X j).b (tri X j).c = some i) := Lib.hid fun j hj => by
              rw [hX]
              exact told_tri HS.out HIS.out (by rw [← HK.out]; exact hj)
             have HEX : Hid (∀ W, Below wX.heap.size wX W → Calls Tryz.prog 19 #[.agg #[.int .i64 (m : Int), .slice Ax k cx], .agg #[.int .i64 (m : Int), .slice A k c]] W (BoolPost W true)) := Lib.hid fun W hW =>
              HEQ.out rn Ax cx W (bw_call HBn.out hW) HIS.out (by rw [← hX]; exact tris_on hW HTR.out)
             have HWX : Hid (∀ (a b : Int) (W : World), Below wX.heap.size wX W → Calls Tryz.prog 30 #[.agg #[.int .i64 (m : Int), .slice A k c], .int .i64 a, .int .i64 b] W (IntPost W (optI (withF T a b)))) := Lib.hid fun a b W hW => HWI.out a b W (bw_call HBn.out hW)
             clear hX
             have x0 : wX.cell? ⟨b6, 0, none⟩ = some (.int .i64 (m : Int)) := KXn.out.cell 0
             have x1 : wX.cell? ⟨b6, 1, none⟩ = some (.slice Ax k cx) := KXn.out.cell 1
             go_wp2_with fail
             go_loopw [8] (fun jv wr => ∃ j : Nat, j ≤ k ∧ jv = .int .i64 (j : Int) ∧ Hid (Below wX.heap.size wX wr)) (fun jv _ => k - (intOf jv).toNat)
             case atStart => exact ⟨0, by omega, rfl, Lib.hid (Below.refl _ _)⟩
             case round =>
              obtain ⟨j, hjk, rfl, HBj⟩ := hrel
              obtain ⟨wF, hwF⟩ : ∃ X, X = wr := ⟨_, rfl⟩
              rw [← hwF] at HBj ⊢
              clear hwF x0 x1
              have K1wF := Lib.hid (K1n.out.below HBj.out K1n.out.lt)
              have KXwF := Lib.hid (KXn.out.below HBj.out KXn.out.lt)
              have x0 : wF.cell? ⟨b6, 0, none⟩ = some (.int .i64 (m : Int)) := KXwF.out.cell 0
              have x1 : wF.cell? ⟨b6, 1, none⟩ = some (.slice Ax k cx) := KXwF.out.cell 1
              by_cases hjj : j < k
              · have hjI : (j : Int) < (k : Int) := by omega
                obtain ⟨ax, hAx, hq⟩ := (tris_on HBj.out HTR.out).triQ (Nat.le_refl _) hjj
                obtain ⟨iw, hw1, hw2⟩ := HTT.out j hjj
                generalize tri X j = t at hq hw1 hw2
                obtain ⟨ta, tb, tc⟩ := t
                dsimp only at hq hw1 hw2
                have HW1 := Lib.hid (HWX.out ta tb)
                have HW2 := Lib.hid (HWX.out tb tc)
                rw [hw1, show optI (some iw) = (iw : Int) from rfl] at HW1
                rw [hw2, show optI (some iw) = (iw : Int) from rfl] at HW2
                have C0wF : Hid (CellQ wF (ax.add (j * 3)) (.int .i64 ta)) := Lib.hid ⟨hq.c.c0, hq.lt⟩
                have C1wF : Hid (CellQ wF ⟨(ax.add (j * 3)).block, (ax.add (j * 3)).off + 1, none⟩ (.int .i64 tb)) := Lib.hid ⟨by rw [← spot47 hq.c.c0 1]; exact hq.c.c1, hq.lt⟩
                have C2wF : Hid (CellQ wF ⟨(ax.add (j * 3)).block, (ax.add (j * 3)).off + 2, none⟩ (.int .i64 tc)) := Lib.hid ⟨by rw [← spot47 hq.c.c0 2]; exact hq.c.c2, hq.lt⟩
                have HJwF := HBj
                subst hAx
                clear hw1 hw2 hq
                have hi0 : ¬ (iw : Int) < 0 := by omega
                go_upto_region 17 with (fail)
                clear x0 x1
                refine wp_region_till (S := fun w' => w'.cell? ⟨b1, 0, none⟩ = some (.int .i64 (m : Int)) ∧ w'.cell? ⟨b1, 1, none⟩ = some (.slice A k c) ∧ w'.cell? ⟨b6, 0, none⟩ = some (.int .i64 (m : Int)) ∧ w'.cell? ⟨b6, 1, none⟩ = some (.slice (some ax) k cx) ∧ w'.cell? (ax.add (j * 3)) = some (.int .i64 ta) ∧ w'.cell? ⟨(ax.add (j * 3)).block, (ax.add (j * 3)).off + 1, none⟩ = some (.int .i64 tb)) 14 (by kernel_rfl) ⟨(K1wF.out.drew.cell 0), (K1wF.out.drew.cell 1), (KXwF.out.drew.cell 0), (KXwF.out.drew.cell 1), (C0wF.out.drew.c), (C1wF.out.drew.c)⟩ (fun hHeld => ?_)
                refine tKk 0 (v := ?vt12c2) ?ht12c2 ?rt12c2
                case ht12c2 => (intro w h; (try dsimp only at h); go_simp; try with_reducible rfl)
                (try simp only [Act.put, zQ1, zQ2, zQ3])
                refine tKk 1 (v := ?vt13c2) ?ht13c2 ?rt13c2
                case ht13c2 => (intro w h; (try dsimp only at h); go_simp; try with_reducible rfl)
                (try simp only [Act.put, zQ1, zQ2, zQ3])
                refine tKk 2 (v := ?vt14c2) ?ht14c2 ?rt14c2
                case ht14c2 => (intro w h; (try dsimp only at h); go_simp; try with_reducible rfl)
                (try simp only [Act.put, zQ1, zQ2, zQ3])
                refine tKk 3 (v := ?vt15c2) ?ht15c2 ?rt15c2
                case ht15c2 => (intro w h; (try dsimp only at h); go_simp; try with_reducible rfl)
                (try simp only [Act.put, zQ1, zQ2, zQ3])
                refine tKk 4 (v := ?vt16c2) ?ht16c2 ?rt16c2
                case ht16c2 => (intro w h; (try dsimp only at h); go_simp; try with_reducible rfl)
                (try simp only [Act.put, zQ1, zQ2, zQ3])
                refine tKk 5 (v := ?vt17c2) ?ht17c2 ?rt17c2
                case ht17c2 => (intro w h; (try dsimp only at h); go_simp; try with_reducible rfl)
                (try simp only [Act.put, zQ1, zQ2, zQ3])
                refine tKk 6 (v := ?vt18c2) ?ht18c2 ?rt18c2
                case ht18c2 => (intro w h; (try dsimp only at h); go_simp; try with_reducible rfl)
                (try simp only [Act.put, zQ1, zQ2, zQ3])
                refine tKk 7 (v := ?vt19c2) ?ht19c2 ?rt19c2
                case ht19c2 => (intro w h; (try dsimp only at h); go_simp; try with_reducible rfl)
                (try simp only [Act.put, zQ1, zQ2, zQ3])
                refine tKk 8 (v := ?vt20c2) ?ht20c2 ?rt20c2
                case ht20c2 => (intro w h; (try dsimp only at h); go_simp; try with_reducible rfl)
                (try simp only [Act.put, zQ1, zQ2, zQ3])
                refine tKk 9 (v := ?vt21c2) ?ht21c2 ?rt21c2
                case ht21c2 => (intro w h; (try dsimp only at h); go_simp; try with_reducible rfl)
                (try simp only [Act.put, zQ1, zQ2, zQ3])
                refine tKk 10 (v := ?vt22c2) ?ht22c2 ?rt22c2
                case ht22c2 => (intro w h; (try dsimp only at h); go_simp; try with_reducible rfl)
                (try simp only [Act.put, zQ1, zQ2, zQ3])
                refine tKk 11 (v := ?vt23c2) ?ht23c2 ?rt23c2
                case ht23c2 => (intro w h; (try dsimp only at h); go_simp; try with_reducible rfl)
                (try simp only [Act.put, zQ1, zQ2, zQ3])
                refine tKk 12 (v := ?vt24c2) ?ht24c2 ?rt24c2
                case ht24c2 => (intro w h; (try dsimp only at h); go_simp; try with_reducible rfl)
                (try simp only [Act.put, zQ1, zQ2, zQ3])
                refine Till.ready (rs := [13]) (by kernel_rfl) (by simp) ?_
                refine TillEach.cons rfl (fun K hK => ?_) ?_
                · go_simp
                  go_wp2_with (go_at_call 30; refine (HW1.out wF.drew (bw_drew HJwF.out)).mono ?_; rintro e v21 ⟨rfl, hb⟩)
                  have K1v21 := Lib.hid (blk_call K1wF.out.drew hb)
                  have KXv21 := Lib.hid (blk_call KXwF.out.drew hb)
                  have C0v21 := Lib.hid (C0wF.out.drew.below hb)
                  have C1v21 := Lib.hid (C1wF.out.drew.below hb)
                  have C2v21 := Lib.hid (C2wF.out.drew.below hb)
                  have HJv21 := Lib.hid (bw_call (bw_drew HJwF.out) hb)
                  clear hb
                  refine hK.out _ _ ?_ (fun hHeld => ?_)
                  · exact ⟨(K1v21.out.cell 0), (K1v21.out.cell 1), (KXv21.out.cell 0), (KXv21.out.cell 1), (C0v21.out.c), (C1v21.out.c)⟩
                  clear hK K
                  (try simp only [Act.put, zQ1, zQ2, zQ3])
                  refine Till.ready (rs := [14]) (by kernel_rfl) (by simp) ?_
                  refine TillEach.last rfl (fun K hK => ?_)
                  · go_simp
                    refine hK.out _ _ ?_
                    clear hK K
                    (try simp only [Act.put, zQ1, zQ2, zQ3])
                    refine Till.done (by kernel_rfl) ?_ _
                    obtain ⟨wG, hwG⟩ : ∃ X, X = v21 := ⟨_, rfl⟩
                    have K1wG := K1v21
                    have KXwG := KXv21
                    have C1wG := C1v21
                    have C2wG := C2v21
                    have HJwG := HJv21
                    rw [← hwG] at K1wG KXwG C1wG C2wG HJwG ⊢
                    clear hwG
                    go_upto_region 18 with (fail)
                    refine wp_region_held_drew (S := fun w' => w'.cell? ⟨b1, 0, none⟩ = some (.int .i64 (m : Int)) ∧ w'.cell? ⟨b1, 1, none⟩ = some (.slice A k c) ∧ w'.cell? ⟨b6, 0, none⟩ = some (.int .i64 (m : Int)) ∧ w'.cell? ⟨b6, 1, none⟩ = some (.slice (some ax) k cx) ∧ w'.cell? ⟨(ax.add (j * 3)).block, (ax.add (j * 3)).off + 1, none⟩ = some (.int .i64 tb) ∧ w'.cell? ⟨(ax.add (j * 3)).block, (ax.add (j * 3)).off + 2, none⟩ = some (.int .i64 tc)) (by kernel_rfl) ⟨(K1wG.out.drew.cell 0), (K1wG.out.drew.cell 1), (KXwG.out.drew.cell 0), (KXwG.out.drew.cell 1), (C1wG.out.drew.c), (C2wG.out.drew.c)⟩ (fun hHeld => ?_)
                    refine hKk 0 (v := ?v1c2) ?y1c2 ?r1c2
                    case y1c2 => (intro w h; (try dsimp only at h); go_simp; try with_reducible rfl)
                    (try simp only [Act.put, zQ1, zQ2, zQ3])
                    refine hKk 1 (v := ?v2c2) ?y2c2 ?r2c2
                    case y2c2 => (intro w h; (try dsimp only at h); go_simp; try with_reducible rfl)
                    (try simp only [Act.put, zQ1, zQ2, zQ3])
                    refine hKk 2 (v := ?v3c2) ?y3c2 ?r3c2
                    case y3c2 => (intro w h; (try dsimp only at h); go_simp; try with_reducible rfl)
                    (try simp only [Act.put, zQ1, zQ2, zQ3])
                    refine hKk 3 (v := ?v4c2) ?y4c2 ?r4c2
                    case y4c2 => (intro w h; (try dsimp only at h); go_simp; try with_reducible rfl)
                    (try simp only [Act.put, zQ1, zQ2, zQ3])
                    refine hKk 4 (v := ?v5c2) ?y5c2 ?r5c2
                    case y5c2 => (intro w h; (try dsimp only at h); go_simp; try with_reducible rfl)
                    (try simp only [Act.put, zQ1, zQ2, zQ3])
                    refine hKk 5 (v := ?v6c2) ?y6c2 ?r6c2
                    case y6c2 => (intro w h; (try dsimp only at h); go_simp; try with_reducible rfl)
                    (try simp only [Act.put, zQ1, zQ2, zQ3])
                    refine hKk 6 (v := ?v7c2) ?y7c2 ?r7c2
                    case y7c2 => (intro w h; (try dsimp only at h); go_simp; try with_reducible rfl)
                    (try simp only [Act.put, zQ1, zQ2, zQ3])
                    refine hKk 7 (v := ?v8c2) ?y8c2 ?r8c2
                    case y8c2 => (intro w h; (try dsimp only at h); go_simp; try with_reducible rfl)
                    (try simp only [Act.put, zQ1, zQ2, zQ3])
                    refine hKk 8 (v := ?v9c2) ?y9c2 ?r9c2
                    case y9c2 => (intro w h; (try dsimp only at h); go_simp; try with_reducible rfl)
                    (try simp only [Act.put, zQ1, zQ2, zQ3])
                    refine hKk 9 (v := ?v10c2) ?y10c2 ?r10c2
                    case y10c2 => (intro w h; (try dsimp only at h); go_simp; try with_reducible rfl)
                    (try simp only [Act.put, zQ1, zQ2, zQ3])
                    refine hKk 10 (v := ?v11c2) ?y11c2 ?r11c2
                    case y11c2 => (intro w h; (try dsimp only at h); go_simp; try with_reducible rfl)
                    (try simp only [Act.put, zQ1, zQ2, zQ3])
                    refine hKk 11 (v := ?v12c2) ?y12c2 ?r12c2
                    case y12c2 => (intro w h; (try dsimp only at h); go_simp; try with_reducible rfl)
                    (try simp only [Act.put, zQ1, zQ2, zQ3])
                    refine hKk 12 (v := ?v13c2) ?y13c2 ?r13c2
                    case y13c2 => (intro w h; (try dsimp only at h); go_simp; try with_reducible rfl)
                    (try simp only [Act.put, zQ1, zQ2, zQ3])
                    refine hKk 13 (v := ?v14c2) ?y14c2 ?r14c2
                    case y14c2 => (intro w h; (try dsimp only at h); go_simp; try with_reducible rfl)
                    (try simp only [Act.put, zQ1, zQ2, zQ3])
                    refine hKk 14 (v := ?v15c2) ?y15c2 ?r15c2
                    case y15c2 => (intro w h; (try dsimp only at h); go_simp; try with_reducible rfl)
                    (try simp only [Act.put, zQ1, zQ2, zQ3])
                    refine hKk 15 (v := ?v16c2) ?y16c2 ?r16c2
                    case y16c2 => (intro w h; (try dsimp only at h); go_simp; try with_reducible rfl)
                    (try simp only [Act.put, zQ1, zQ2, zQ3])
                    refine hKk 17 (v := ?v17c2) ?y17c2 ?r17c2
                    case y17c2 => (intro w h; (try dsimp only at h); go_simp; try with_reducible rfl)
                    (try simp only [Act.put, zQ1, zQ2, zQ3])
                    refine wpAnyH_ready (rs := [16]) (by kernel_rfl) (by simp) ?_
                    refine held_cons rfl (fun K hK => ?_) ?_
                    · go_simp
                      go_wp2_with (go_at_call 30; refine (HW2.out wG.drew (bw_drew HJwG.out)).mono ?_; rintro e v31 ⟨rfl, hb⟩)
                      have K1v31 := Lib.hid (blk_call K1wG.out.drew hb)
                      have KXv31 := Lib.hid (blk_call KXwG.out.drew hb)
                      have C1v31 := Lib.hid (C1wG.out.drew.below hb)
                      have C2v31 := Lib.hid (C2wG.out.drew.below hb)
                      have HJv31 := Lib.hid (bw_call (bw_drew HJwG.out) hb)
                      clear hb
                      refine hK.out _ _ ?_ (fun hHeld => ?_)
                      · exact ⟨(K1v31.out.cell 0), (K1v31.out.cell 1), (KXv31.out.cell 0), (KXv31.out.cell 1), (C1v31.out.c), (C2v31.out.c)⟩
                      clear hK K
                      (try simp only [Act.put, zQ1, zQ2, zQ3])
                      refine hKk 18 (v := ?v18c2) ?y18c2 ?r18c2
                      case y18c2 => (intro w h; (try dsimp only at h); go_simp; try with_reducible rfl)
                      (try simp only [Act.put, zQ1, zQ2, zQ3])
                      refine hKk 19 (v := ?v19c2) ?y19c2 ?r19c2
                      case y19c2 => (intro w h; (try dsimp only at h); go_simp; try with_reducible rfl)
                      (try simp only [Act.put, zQ1, zQ2, zQ3])
                      refine wpAnyH_done (by kernel_rfl) ?_ _
                      have HJn := HJv31
                      have hii2 : ((iw : Int) != (iw : Int)) = false := by simp
                      go_wp2_with fail
                      go_roundw
                      case rel => exact ⟨j + 1, by omega, by go_num, HJn⟩
                      case measure => simp [intOf]; omega
                    exact AllReadyH.nil
                exact TillEach.nil
              · obtain rfl : j = k := by omega
                have hjI : ¬ (j : Int) < (j : Int) := by omega
                have p0 : wF.cell? ⟨b1, 0, none⟩ = some (.int .i64 (m : Int)) := K1wF.out.cell 0
                have p1 : wF.cell? ⟨b1, 1, none⟩ = some (.slice A j c) := K1wF.out.cell 1
                have HEF := Lib.hid (HEX.out wF HBj.out)
                go_wp2_with fail
                refine HEF.out.mono ?_
                rintro e w9 ⟨rfl, hb⟩
                have HB9 := Lib.hid (bw_call HBn.out (bw_call HBj.out hb))
                clear hb
                go_wp2_with fail
                go_roundw
                case rel => exact ⟨i + 1, by omega, by go_num, HB9⟩
                case measure => simp [intOf]; omega
         exact TillEach.nil
       exact TillEach.nil
     exact TillEach.nil
   · obtain rfl : i = nw := by omega
     have hiI : ¬ (i : Int) < (i : Int) := by omega
     go_wp2_with fail
     go_ret
     exact ⟨rfl, bw_call HB3.out HBr.out⟩
theorem lawToldN_any (N : Int) (A : Option Addr) (n c : Nat) (T : List Tri) (w : World) (ht : TrisAt w w.heap.size A n T) :
  Calls Tryz.prog 8 #[.agg #[.int .i64 N, .slice A n c]] w (BoolPost w true) := by
 obtain rfl : n = T.length := ht.len.symm
 exact lawTold_any N A c T w ht
end Go.Proofs.YtiajlmajenabiaaGreat
