/- shell.Split's closure, walked. No condition but sizes. -/
import Derived.Test.YtiajlmajenabiaaGreatSh47
import Derived.Test.YtiajlmajenabiaaGreatFm47
import Derived.Test.YtiajlmajenabiaaGreatCornerB
import Derived.Test.YtiajlmajenabiaaGreatKd47
set_option maxRecDepth 100000
set_option maxHeartbeats 16000000
set_option linter.all false
namespace Go.Proofs.YtiajlmajenabiaaGreat
open Go.RowKit
attribute [local irreducible] Blk World.alloc World.setCell World.cell? World.frozen? MapV MapI
theorem gather_any (w W : World) (gp np k tri b4 : Nat) (P : Nat → PartV) (v : Nat → Value) (hk : k < np) (hK : np ≤ 1000) (hl : (P k).l.length ≤ 1000) (h : PAt w gp np P v W) (h4 : Blk W b4 122 #[.slice (some ⟨gp, 0, none⟩) np np]) :
  Calls Tryz.prog 106 #[.int .i64 (k : Int), .int .i64 (tri : Int), .pointer (some ⟨b4, 0, none⟩)] W (fun e W' => e = .returned (.tuple #[]) ∧ ∃ v', PAt w gp np (updF P k ⟨(P k).n, (P k).t, (P k).v, (P k).l ++ [tri]⟩) v' W') := by
 obtain ⟨i0, hi0, hz0, hz1, hz2⟩ := info_parts int_infoC
 obtain ⟨n, hn⟩ : ∃ n, n = (P k).l.length := ⟨_, rfl⟩
 have hw0 := h.own k 2 hk (by decide)
 obtain ⟨A, c, hv, _⟩ := own_form hw0
 have hv2 : v (3 * k + 2) = .slice A n c := by rw [hv, hn]; rfl
 rw [hv2] at hw0
 have hw : W.ownsRow w.heap.size 3 1 (.slice A n c) n (ZL (natL (P k).l)) := by rw [hn] at hw0 ⊢; exact hw0
 have HW := Lib.hid hw
 have HE := Lib.hid hv2
 have HP := Lib.hid h
 have HN := Lib.hid hn
 have HSZ := Lib.hid h.b.size
 have C4W : Hid (CellQ W ⟨b4, 0, none⟩ (.slice (some ⟨gp, 0, none⟩) np np)) := Lib.hid ⟨h4.cell 0, h4.lt⟩
 have CPW : Hid (CellQ W ⟨gp, k * 4 + 3, none⟩ (.slice A n c)) := Lib.hid ⟨by rw [← hv2]; exact h.cell hk (by decide : 2 < 3), h.gp_lt⟩
 have HN4 : Hid (some b4 ≠ (Value.slice A n c).ownBlock) := Lib.hid fun e => own_blk_ne hw h4 (by decide) e.symm
 have HNP : Hid (some gp ≠ (Value.slice A n c).ownBlock) := Lib.hid fun e => h.ne_gp (j := 3 * k + 2) (by omega) (by rw [hv2]; exact e.symm)
 have hki : (k : Int) < (np : Int) := by omega
 rw [← hn] at hl
 clear hv hv2 hw0 hw hn h h4
 go_enter Tryz.func106, Tryz.ntmps106
 go_upto_region 0 with (fail)
 refine wp_region_till (S := fun w' => w'.cell? ⟨b4, 0, none⟩ = some (.slice (some ⟨gp, 0, none⟩) np np) ∧ w'.cell? ⟨gp, k * 4 + 3, none⟩ = some (.slice A n c)) 12 (by kernel_rfl) ⟨(C4W.out.drew.c), (CPW.out.drew.c)⟩ (fun hHeld => ?_)
 refine tKk 0 ?_; (try simp only [zQ])
 refine tKk 1 ?_; (try simp only [zQ])
 refine tKk 2 ?_; (try simp only [zQ])
 refine tKk 3 ?_; (try simp only [zQ])
 refine tKk 4 ?_; (try simp only [zQ])
 refine tKk 5 ?_; (try simp only [zQ])
 refine tKk 6 ?_; (try simp only [zQ])
 refine tKk 7 ?_; (try simp only [zQ])
 refine Till.ready (rs := [8]) (by kernel_rfl) (by simp) ?_
 refine TillEach.cons rfl (fun K hK => ?_) ?_
 · go_simp
   go_wp2_with fail
   obtain ⟨v1, hvU⟩ : ∃ U, U = (W.alloc (.cells #[.int .i64 (tri : Int)] 3)).drew := ⟨_, rfl⟩
   have C4v1 := Lib.hid (C4W.out.below (bw_drew (bw_alloc (Below.refl _ _) (.cells #[.int .i64 (tri : Int)] 3))))
   have CPv1 := Lib.hid (CPW.out.below (bw_drew (bw_alloc (Below.refl _ _) (.cells #[.int .i64 (tri : Int)] 3))))
   rw [← hvU] at C4v1 CPv1 ⊢
   have HVv1 := Lib.hid hvU
   clear hvU
   refine hK.out _ _ ?_ (fun hHeld => ?_)
   · exact ⟨(C4v1.out.c), (CPv1.out.c)⟩
   clear hK K
   (try simp only [zQ])
   refine Till.ready (rs := [9]) (by kernel_rfl) (by simp) ?_
   refine TillEach.cons rfl (fun K hK => ?_) ?_
   · refine step_append_sl _ (by rfl) (.tmp 11) (.tmp 13) _ (by rfl) w.heap.size 3 i0 _ 1 8 Tryz.underlying25 hi0 hz0 hz1 hz2 rfl (by omega) (.slice A n c) n (ZL (natL (P k).l)) (by rfl) (by rw [HVv1.out]; exact own_same HW.out fun k hk => Below.heap_alloc _ _ _ (HW.out.lt k hk).2) (W.heap.size + 1) (some ⟨W.heap.size, 0, none⟩) 1 1 [.int .i64 (tri : Int)] (by rfl) (by rw [HVv1.out]; exact (reads_new W #[.int .i64 (tri : Int)] 3 1 1 rfl).keep fun _ _ => World.cell?_of_block rfl) (by simp [Value.oneCell']) (by simp only [maxLen]; omega) (by omega) (by rw [HVv1.out]; show w.heap.size ≤ (W.alloc _).heap.size; rw [World.size_alloc]; exact Nat.le_succ_of_le HSZ.out) ?_
     intro A5 c5 v2 hown5 hg5 hat5
     have C4v2 : Hid (CellQ v2 ⟨b4, 0, none⟩ (.slice (some ⟨gp, 0, none⟩) np np)) := Lib.hid ⟨(World.cell?_of_block (hg5.block b4 C4v1.out.lt HN4.out)).trans C4v1.out.c, Nat.lt_of_lt_of_le C4v1.out.lt hg5.size⟩
     have CPv2 : Hid (CellQ v2 ⟨gp, k * 4 + 3, none⟩ (.slice A n c)) := Lib.hid ⟨(World.cell?_of_block (hg5.block gp CPv1.out.lt HNP.out)).trans CPv1.out.c, Nat.lt_of_lt_of_le CPv1.out.lt hg5.size⟩
     have HO5 := Lib.hid hown5
     have HG5 := Lib.hid hg5
     have HA5 := Lib.hid hat5
     have hfz : v2.frozen? ⟨gp, k * 4 + 3, none⟩ = false := (World.frozen?_of_block (hg5.block gp CPv1.out.lt HNP.out)).trans (by rw [HVv1.out]; exact (HP.out.alloc _).drew.frozen _)
     clear hown5 hg5 hat5
     refine hK.out _ _ ?_ (fun hHeld => ?_)
     · exact ⟨(C4v2.out.c), (CPv2.out.c)⟩
     clear hK K
     (try simp only [zQ])
     refine Till.takeP [11] (i := 10) (v := ?vt9) rfl (by kernel_rfl) (by kernel_rfl) (by kernel_rfl) (by kernel_rfl) (by kernel_rfl) (fun _ _ _ h => h) (Or.inl ⟨by rfl, ?ht9⟩) (by assumption) ?restt9
     case ht9 => (intro w h; (try dsimp only at h); go_simp; try with_reducible rfl)
     (try simp only [zQ])
     refine tKk 11 ?_; (try simp only [zQ])
     refine Till.ready (rs := [12]) (by kernel_rfl) (by simp) ?_
     refine TillEach.last rfl (fun K hK => ?_)
     · go_simp
       refine hK.out _ _ ?_
       clear hK K
       (try simp only [zQ])
       refine Till.done (by kernel_rfl) ?_ _
       have cp := CPv2.out.c
       go_wp2_with fail
       refine bodyPost_end (results_none rfl _ _ _) rfl ⟨rfl, updF v (3 * k + 2) (.slice A5 (n + 1) c5), ?_⟩
       have ho := HO5.out
       have hg := HG5.out
       have ha := HA5.out
       rw [HVv1.out] at hg ha
       refine HP.out.swap hk (r := 2) (by decide) (fun s hs hne => ?_) rfl (fun i hi hne => ?_) ?_ (fun x hx => ?_) ?_
       · rcases (by omega : s = 0 ∨ s = 1) with rfl | rfl <;> exact ⟨rfl, rfl⟩
       · rw [hg.block i (by show i < (W.alloc _).heap.size; rw [World.size_alloc]; exact Nat.lt_succ_of_lt hi) (fun e => hne (by rw [HE.out]; exact e.symm))]
         exact Below.heap_alloc _ _ _ hi
       · have hx : rXp ⟨(P k).n, (P k).t, (P k).v, (P k).l ++ [tri]⟩ 2 = ZL (natL (P k).l) ++ [.int .i64 (tri : Int)] := by
          show ZL (natL ((P k).l ++ [tri])) = _
          rw [natL_append]; simp [ZL, natL]
         have hn : rKp ⟨(P k).n, (P k).t, (P k).v, (P k).l ++ [tri]⟩ 2 = n + 1 := by
          show ((P k).l ++ [tri]).length = _
          rw [List.length_append, HN.out]; rfl
         rw [hx, hn]
         exact ho
       · rw [HE.out]
         rcases ha with h | h
         · exact .inl (h ▸ hx)
         · rw [h] at hx
           replace hx : some (W.alloc (.cells #[.int .i64 (tri : Int)] 3)).heap.size = some x := hx
           rw [World.size_alloc] at hx
           injection hx with hx
           exact .inr (by rw [← hx]; exact Nat.le_succ _)
       · exact ((HP.out.b.alloc _).drew.grown hg fun y hy => .inr (HW.out.lt y hy).1)
   exact TillEach.nil
 exact TillEach.nil
end Go.Proofs.YtiajlmajenabiaaGreat
namespace Go.Proofs.YtiajlmajenabiaaGreat
open Go.RowKit
attribute [local irreducible] Blk LRow World.alloc World.setCell World.cell? World.frozen? MapV
theorem soupT_any (g B : Nat) (N : Int) (T : List Tri) (w : World) (hT : T.length ≤ 8192) (h : TabS w B g N T) :
  Calls Tryz.prog 105 #[.pointer (some ⟨g, 0, none⟩)] w (SPost w N T) := by
 obtain ⟨A, c, x2, x3, h1, h2⟩ := h.at_
 obtain ⟨w1, hV⟩ : ∃ V, V = w.alloc (.cells #[.int .i64 0, .slice none 0 0] 24) := ⟨_, rfl⟩
 have GRw1 : Hid (Blk w1 w.heap.size 24 #[.int .i64 0, .slice none 0 0]) := by subst hV; exact Lib.hid (Blk.new _ _ _)
 have GTw1 : Hid (Blk w1 g 81 #[.int .i64 N, .slice A T.length c, x2, x3]) := by subst hV; exact Lib.hid (h1.alloc _)
 have HRw1 : Hid (LRow w1 B A c T) := by subst hV; exact Lib.hid (h2.alloc _)
 have HBw1 : Hid (Below w.heap.size w w1) := by subst hV; exact Lib.hid (bw_alloc (Below.refl _ _) _)
 clear h h1 h2
 go_enter Tryz.func105, Tryz.ntmps105
 go_upto_region 3 with (fail)
 rw [← hV]
 clear hV
 obtain ⟨gr, hgr⟩ : ∃ gr, gr = w.heap.size := ⟨_, rfl⟩
 have HGR : Hid (w.heap.size ≤ gr) := Lib.hid (by omega)
 rw [← hgr] at GRw1
 simp only [← hgr]
 clear hgr
 refine wp_region_till (S := fun w' => w'.cell? ⟨gr, 0, none⟩ = some (.int .i64 0) ∧ w'.cell? ⟨gr, 1, none⟩ = some (.slice none 0 0) ∧ w'.frozen? ⟨gr, 0, none⟩ = false ∧ w'.frozen? ⟨gr, 1, none⟩ = false ∧ w'.cell? ⟨g, 0, none⟩ = some (.int .i64 N) ∧ w'.cell? ⟨g, 1, none⟩ = some (.slice A T.length c)) 12 (by kernel_rfl) ⟨(soup_facts GRw1.out.drew).1, (soup_facts GRw1.out.drew).2.1, (soup_facts GRw1.out.drew).2.2.1, (soup_facts GRw1.out.drew).2.2.2.1, (tab_facts GTw1.out.drew).1, (tab_facts GTw1.out.drew).2.1⟩ (fun hHeld => ?_)
 refine tKk 0 ?_; (try simp only [zQ])
 refine tKk 1 ?_; (try simp only [zQ])
 refine tKk 2 ?_; (try simp only [zQ])
 refine tKk 3 ?_; (try simp only [zQ])
 refine tKk 4 ?_; (try simp only [zQ])
 refine tKk 5 ?_; (try simp only [zQ])
 refine tKk 6 ?_; (try simp only [zQ])
 refine tKk 7 ?_; (try simp only [zQ])
 refine tKk 8 ?_; (try simp only [zQ])
 refine tKk 9 ?_; (try simp only [zQ])
 refine Till.ready (rs := [10]) (by kernel_rfl) (by simp) ?_
 refine TillEach.cons rfl (fun K hK => ?_) ?_
 · go_simp
   go_wp2_with (go_at_call 48; refine (clone_any A c T w1.drew hT (HRw1.out.drew).tris).mono ?_; rintro e v3 ⟨A1, c1, rfl, hr, hb⟩)
   have GRv3 := Lib.hid (blk_call GRw1.out.drew hb)
   have GTv3 := Lib.hid (blk_call GTw1.out.drew hb)
   have HRv3 := Lib.hid (HRw1.out.drew.below hb)
   have RAv3 : Hid (LRow v3 w.heap.size A1 c1 T) := Lib.hid (LRow.base hr (bw_size (bw_drew HBw1.out)))
   clear hr
   have HBv3 := Lib.hid (bw_call (bw_drew HBw1.out) hb)
   clear hb
   refine hK.out _ _ ?_ (fun hHeld => ?_)
   · exact ⟨(soup_facts GRv3.out).1, (soup_facts GRv3.out).2.1, (soup_facts GRv3.out).2.2.1, (soup_facts GRv3.out).2.2.2.1, (tab_facts GTv3.out).1, (tab_facts GTv3.out).2.1⟩
   clear hK K
   (try simp only [zQ])
   refine tKk 11 ?_; (try simp only [zQ])
   refine Till.ready (rs := [12]) (by kernel_rfl) (by simp) ?_
   refine TillEach.last rfl (fun K hK => ?_)
   · go_simp
     refine hK.out _ _ ?_
     clear hK K
     (try simp only [zQ])
     refine Till.done (by kernel_rfl) ?_ _
     go_wp2_with fail
     obtain ⟨g0, g1, _, _, _⟩ := soup_facts (soup_set0 GRv3.out (.int .i64 N) (.slice A1 T.length c1))
     refine bodyPost_ret (v := .agg #[.int .i64 N, .slice A1 T.length c1]) ?_ rfl ⟨A1, c1, rfl, LRow.soup_set0 RAv3.out GRv3.out _ _, bw_set (bw_set HBv3.out HGR.out _) HGR.out _⟩
     simp [results, Tryz.results105, go_sem, g0, g1]
 exact TillEach.nil
end Go.Proofs.YtiajlmajenabiaaGreat
namespace Go.Proofs.YtiajlmajenabiaaGreat
open Go.RowKit
def SplitPost (w : World) (T : List Tri) (e : Ending) (w' : World) : Prop :=
 ∃ (w0 : World) (gp : Nat) (v : Nat → Value), e = .returned (if kN T = 0 then .slice none 0 0 else .slice (some ⟨gp, 0, none⟩) (kN T) (kN T)) ∧ Below w.heap.size w w0 ∧ w.heap.size ≤ gp ∧ PAt w0 gp (kN T) (partOf T) v w'
attribute [local irreducible] Blk World.alloc World.setCell World.cell? World.frozen? MapV MapI
theorem split_any (g m : Nat) (T : List Tri) (w : World) (h : TabN w g m T) :
  Calls Tryz.prog 80 #[.pointer (some ⟨g, 0, none⟩)] w (SplitPost w T) := by
 obtain ⟨i0, hi0, hz0, hz1, hz2⟩ := info_parts part_info
 have HT := Lib.hid h
 have hn1000 := h.n
 obtain ⟨np, hnp⟩ : ∃ np, np = kN T := ⟨_, rfl⟩
 have hnT : np ≤ T.length := hnp ▸ kN_le T
 have HNP := Lib.hid hnp
 have HOF : Hid (Calls Tryz.prog 51 #[.pointer (some ⟨g, 0, none⟩)] w (OfPost w T)) := Lib.hid (of_any g m T w h)
 have hmk : ∀ wx : World, (Instr.makeSlice 122 (.int .i64 (np : Int)) (.int .i64 (np : Int))).run Tryz.prog wx = .ok (.slice (some ⟨wx.heap.size, 0, none⟩) np np) (wx.alloc (.cells (madeCells (Value.agg #[.int .i64 0, .slice none 0 0, .slice none 0 0, .slice none 0 0]).cells (np * 4)) 125)) := fun wx => by
  have := run_make_rowN (P := Tryz.prog) 122 125 i0 _ Tryz.underlying122 hi0 hz0 .i64 .i64 np np (Nat.le_refl _) (by rw [hz2]; omega) (by omega) wx
  rw [hz1] at this
  exact this
 clear h hnp
 go_enter Tryz.func80, Tryz.ntmps80
 go_wp2_with fail
 refine HOF.out.mono ?_
 rintro e w1 ⟨A, c, rfl, hr, hb⟩
 have HR1 := Lib.hid hr
 have HB1 := Lib.hid hb
 have HCN : Hid (Calls Tryz.prog 24 #[.pointer (some ⟨g, 0, none⟩)] w1 (IntPost w1 (np : Int))) := Lib.hid (by rw [HNP.out, ← kN_eq T]; exact count_any g m T w1 (HT.out.below hb))
 clear hr hb HOF
 go_wp2_with fail
 refine HCN.out.mono ?_
 rintro e w2 ⟨rfl, hb⟩
 have HR2 := Lib.hid (HR1.out.below hb)
 have HB2 := Lib.hid (bw_call HB1.out hb)
 clear hb HR1 HB1 HCN
 go_upto_region 3 with (fail)
 obtain ⟨w3, hw3⟩ : ∃ U, U = (w2.alloc (.cells (madeCells #[.int .i64 0, .slice none 0 0, .slice none 0 0, .slice none 0 0] (np * 4)) 125)).alloc (.cells #[.slice (some ⟨w2.heap.size, 0, none⟩) np np] 122) := ⟨_, rfl⟩
 have G3 : Hid (Blk w3 w2.heap.size 125 (madeCells #[.int .i64 0, .slice none 0 0, .slice none 0 0, .slice none 0 0] (np * 4))) := by subst hw3; exact Lib.hid ((Blk.new _ _ _).alloc _)
 have K43 : Hid (Blk w3 (w2.heap.size + 1) 122 #[.slice (some ⟨w2.heap.size, 0, none⟩) np np]) := by subst hw3; exact Lib.hid (Blk.new_ (by rw [World.size_alloc]) _ _)
 have HR3 : Hid (IR w3 w.heap.size A c (ofL T)) := by subst hw3; exact Lib.hid ((HR2.out.alloc _).alloc _)
 have HB3 : Hid (Below w.heap.size w w3) := by subst hw3; exact Lib.hid (bw_alloc (bw_alloc HB2.out _) _)
 have HGE : Hid (w.heap.size ≤ w2.heap.size) := Lib.hid HB2.out.size
 rw [← hw3]
 obtain ⟨b4, hb4⟩ : ∃ b, b = w2.heap.size + 1 := ⟨_, rfl⟩
 obtain ⟨gp, hgp⟩ : ∃ b, b = w2.heap.size := ⟨_, rfl⟩
 rw [← hb4, ← hgp] at K43
 rw [← hgp] at G3 HGE
 simp only [← hb4]
 simp only [← hgp]
 have HSO : Hid (Calls Tryz.prog 105 #[.pointer (some ⟨g, 0, none⟩)] w3 (SPost w3 (m : Int) T)) := Lib.hid (soupT_any g 0 m T w3 (by omega) (HT.out.below HB3.out).t.s)
 clear hw3 hb4 hgp HR2 HB2 hmk
 go_wp2_with fail
 refine HSO.out.mono ?_
 rintro e w4 ⟨A5, c5, rfl, hr, hb⟩
 have G4 := Lib.hid (G3.out.below hb G3.out.lt)
 have K44 := Lib.hid (K43.out.below hb K43.out.lt)
 have HR4 := Lib.hid (HR3.out.below hb)
 have HB4 := Lib.hid (bw_call HB3.out hb)
 have R54 := Lib.hid hr
 clear hr hb HSO HR3 HB3 G3 K43
 go_upto_region 5 with (fail)
 obtain ⟨w5, hw5⟩ : ∃ U, U = w4.alloc (.cells #[.int .i64 (m : Int), .slice A5 T.length c5] 24) := ⟨_, rfl⟩
 have G5 : Hid (Blk w5 gp 125 (madeCells #[.int .i64 0, .slice none 0 0, .slice none 0 0, .slice none 0 0] (np * 4))) := by subst hw5; exact Lib.hid (G4.out.alloc _)
 have K45 : Hid (Blk w5 b4 122 #[.slice (some ⟨gp, 0, none⟩) np np]) := by subst hw5; exact Lib.hid (K44.out.alloc _)
 have K55 : Hid (Blk w5 w4.heap.size 24 #[.int .i64 (m : Int), .slice A5 T.length c5]) := by subst hw5; exact Lib.hid (Blk.new _ _ _)
 have HR5 : Hid (IR w5 w.heap.size A c (natL ((List.range T.length).map (ofN T)))) := by subst hw5; exact Lib.hid (by rw [← ofL_nat]; exact HR4.out.alloc _)
 have HB5 : Hid (Below w.heap.size w w5) := by subst hw5; exact Lib.hid (bw_alloc HB4.out _)
 have R55 : Hid (LRow w5 w3.heap.size A5 c5 T) := by subst hw5; exact Lib.hid (R54.out.alloc _)
 obtain ⟨b5, hb5⟩ : ∃ b, b = w4.heap.size := ⟨_, rfl⟩
 rw [← hb5] at K55
 rw [← hw5]
 simp only [← hb5]
 have HPA : Hid (PAt w5 gp np (fun k => part0 (lstOf (ofL T) 0 k)) (fun _ => .slice none 0 0) w5) := Lib.hid (start_parts G5.out)
 have HN4 : Hid (b4 ≠ gp) := Lib.hid (K45.out.ne_ G5.out (by decide))
 have HN5 : Hid (b5 ≠ gp) := Lib.hid (K55.out.ne_ G5.out (by decide))
 have HNR : Hid ((Value.slice A (natL ((List.range T.length).map (ofN T))).length c).ownBlock ≠ some gp) := Lib.hid (own_blk_ne HR5.out G5.out (by decide))
 have HNT : Hid ((Value.slice A5 T.length c5).ownBlock ≠ some gp) := Lib.hid (own_blk_ne R55.out G5.out (by decide))
 clear hw5 hb5 G4 K44 HR4 HB4 R54
 go_wp2_with fail
 go_loopw [7, 8, 28] (fun _ _ kv wr => ∃ (i : Nat) (v : Nat → Value), i ≤ T.length ∧ kv = .int .i64 (i : Int) ∧ Hid (PAt w5 gp np (fun k => part0 (lstOf (ofL T) i k)) v wr)) (fun _ _ kv _ => T.length - (intOf kv).toNat)
 case atStart => exact ⟨0, _, by omega, rfl, HPA⟩
 case round =>
  obtain ⟨i, v, hi, rfl, HPwE⟩ := hrel
  obtain ⟨wE, hwE⟩ : ∃ wE : World, wE = wr := ⟨_, rfl⟩
  rw [← hwE] at HPwE ⊢
  clear hwE HPA
  by_cases hil : i < T.length
  · have hR : IR wE w.heap.size A c (natL ((List.range T.length).map (ofN T))) := own_only HR5.out HPwE.out.b HNR.out
    obtain ⟨gO, rfl, y⟩ := ir_at hR (show i < ((List.range T.length).map (ofN T)).length by simpa using hil)
    rw [ofN_getD T hil] at y
    obtain ⟨q, hq⟩ : ∃ q, q = ofN T i := ⟨_, rfl⟩
    rw [← hq] at y
    have HQ := Lib.hid hq
    have hii : (i : Int) < (T.length : Int) := by omega
    have K4E : Hid (Blk wE b4 122 #[.slice (some ⟨gp, 0, none⟩) np np]) := Lib.hid (K45.out.only HPwE.out.b HN4.out)
    clear hR hq
    go_wp2_with fail
    refine (gather_any w5 wE gp np q i b4 (fun k => part0 (lstOf (ofL T) i k)) v (by rw [HQ.out, HNP.out]; exact ofN_lt hil) (by omega) (by have := lst_len (ofL T) i q; show (lstOf (ofL T) i q).length ≤ 1000; omega) HPwE.out K4E.out).mono ?_
    rintro e wF ⟨rfl, v', hp⟩
    have HPwF : Hid (PAt w5 gp np (fun k => part0 (lstOf (ofL T) (i + 1) k)) v' wF) := Lib.hid (by rw [← lst_step hil, ← HQ.out]; exact hp)
    clear hp HPwE y K4E
    go_wp2_with fail
    go_roundw
    case rel => exact ⟨i + 1, v', by omega, by go_num, HPwF⟩
    case measure => simp [intOf]; omega
  · obtain rfl : i = T.length := by omega
    have HP2 : Hid (PAt w5 gp np (p2 T 0) v wE) := Lib.hid (by rw [p2_zero]; exact HPwE.out)
    have c4 := (K45.out.only HPwE.out.b HN4.out).cell 0
    simp at c4
    clear HPwE
    go_wp2_with fail
    go_loopw [9, 10, 12, 14, 15, 16, 17, 40] (fun _ _ _ _ _ _ _ kv wr => ∃ (k : Nat) (v : Nat → Value), k ≤ np ∧ kv = .int .i64 (k : Int) ∧ Hid (PAt w5 gp np (p2 T k) v wr)) (fun _ _ _ _ _ _ _ kv _ => np - (intOf kv).toNat)
    case atStart => exact ⟨0, v, by omega, rfl, HP2⟩
    case round =>
     clear HP2 c4
     obtain ⟨k, v, hk, rfl, HPwG⟩ := hrel
     obtain ⟨wG, hwG⟩ : ∃ wG : World, wG = wr := ⟨_, rfl⟩
     rw [← hwG] at HPwG ⊢
     clear hwG
     by_cases hkl : k < np
     · obtain ⟨ad, rfl⟩ := lrow_some R55.out (by omega)
       obtain ⟨i1, hi1, iz0, iz1, iz2⟩ := info_parts int_infoC
       obtain ⟨l, hl⟩ : ∃ l, l = lstOf (ofL T) T.length k := ⟨_, rfl⟩
       have hlp : 0 < l.length := by rw [hl]; exact lst_pos (by rw [← HNP.out]; exact hkl)
       have hln : l.length ≤ T.length := by rw [hl]; exact lst_len _ _ _
       have HLT : Hid (∀ x ∈ l, x < T.length) := Lib.hid fun x hx => by rw [hl] at hx; exact lst_mem hx
       have HL := Lib.hid hl
       have hpk : p2 T k k = ⟨0, [], [], l⟩ := by rw [p2_at, hl]; rfl
       have HPK := Lib.hid hpk
       have hr0 := HPwG.out.own k 2 hkl (by decide)
       rw [hpk] at hr0
       obtain ⟨gl, cl, hv2⟩ := own_shaped hr0 hlp
       replace hv2 : v (3 * k + 2) = .slice (some ⟨gl, 0, none⟩) l.length cl := hv2
       have HV2 := Lib.hid hv2
       have c4 := (K45.out.only HPwG.out.b HN4.out).cell 0
       simp at c4
       have cl3 : wG.cell? ⟨gp, k * 4 + 3, none⟩ = some (.slice (some ⟨gl, 0, none⟩) l.length cl) := by rw [← hv2]; exact HPwG.out.cell hkl (by decide : 2 < 3)
       have hki : (k : Int) < (np : Int) := by omega
       have HPI : Hid (PAt w5 gp np (updF (p2 T k) k ⟨0, [], vtx T (l.take 0), l⟩) v wG) := Lib.hid (by
        have e : (⟨0, [], vtx T (l.take 0), l⟩ : PartV) = p2 T k k := by rw [hpk]; rfl
        rw [e, updF_self]; exact HPwG.out)
       clear hl hpk hr0 hv2 HPwG
       go_wp2_with fail
       go_loopw [12, 51] (fun _ jv wr => ∃ (j : Nat) (v' : Nat → Value), j ≤ l.length ∧ jv = .int .i64 (j : Int) ∧ Hid (v' (3 * k + 2) = .slice (some ⟨gl, 0, none⟩) l.length cl) ∧ Hid (PAt w5 gp np (updF (p2 T k) k ⟨0, [], vtx T (l.take j), l⟩) v' wr)) (fun _ jv _ => l.length - (intOf jv).toNat)
       case atStart => exact ⟨0, v, by omega, rfl, HV2, HPI⟩
       case round =>
        clear c4 cl3 HPI HV2
        obtain ⟨j, v', hj, rfl, HV2, HPwI⟩ := hrel
        obtain ⟨wI, hwI⟩ : ∃ wI : World, wI = wr := ⟨_, rfl⟩
        rw [← hwI] at HPwI ⊢
        clear hwI
        by_cases hjl : j < l.length
        · obtain ⟨x, hx⟩ : ∃ x, x = l.getD j 0 := ⟨_, rfl⟩
          have hlx : l[j]? = some x := by rw [hx, List.getD_eq_getElem?_getD, List.getElem?_eq_getElem hjl]; rfl
          have hxT : x < T.length := HLT.out x (List.mem_of_getElem? hlx)
          have hrl := HPwI.out.own k 2 hkl (by decide)
          rw [updF_at, HV2.out] at hrl
          have yl := ir_cell (L := l) (show IR wI w5.heap.size (some ⟨gl, 0, none⟩) cl (natL l) by unfold IR; rw [natL_len]; exact hrl) hjl
          rw [← hx] at yl
          have htk : l.take (j + 1) = l.take j ++ [x] := by
           obtain ⟨h1, h2⟩ := List.getElem?_eq_some_iff.1 hlx
           rw [List.take_succ_eq_append_getElem h1, h2]
          have HTK := Lib.hid htk
          have hrv := HPwI.out.own k 1 hkl (by decide)
          rw [updF_at] at hrv
          obtain ⟨AV, cV, hvv, _⟩ := own_form hrv
          obtain ⟨nv, hnv⟩ : ∃ nv, nv = (vtx T (l.take j)).length := ⟨_, rfl⟩
          replace hvv : v' (3 * k + 1) = .slice AV nv cV := by rw [hvv, hnv]; rfl
          have hnv3 : nv ≤ 3000 := by rw [hnv, vtx_len, List.length_take]; omega
          have hwv : wI.ownsRow w5.heap.size 3 1 (.slice AV nv cV) nv (ZL (vtx T (l.take j))) := by rw [hvv] at hrv; rw [hnv] at hrv ⊢; exact hrv
          have HNV := Lib.hid hnv
          have HVV := Lib.hid hvv
          have HWV := Lib.hid hwv
          have hR : LRow wI w3.heap.size (some ad) c5 T := own_only R55.out HPwI.out.b HNT.out
          have TQ := Lib.hid (triQ_at hR hxT)
          have CVwI : Hid (CellQ wI ⟨gp, k * 4 + 2, none⟩ (.slice AV nv cV)) := Lib.hid ⟨by rw [← hvv]; exact HPwI.out.cell hkl (by decide : 1 < 3), HPwI.out.gp_lt⟩
          have k5 := K55.out.only HPwI.out.b HN5.out
          have C5wI : Hid (CellQ wI ⟨b5, 1, none⟩ (.slice (some ad) T.length c5)) := Lib.hid ⟨k5.cell 1, k5.lt⟩
          have HM5 : Hid (some b5 ≠ (Value.slice AV nv cV).ownBlock) := Lib.hid fun e => own_blk_ne hwv k5 (by decide) e.symm
          have HMP : Hid (some gp ≠ (Value.slice AV nv cV).ownBlock) := Lib.hid fun e => HPwI.out.ne_gp (j := 3 * k + 1) (by omega) (by rw [hvv]; exact e.symm)
          have HSZ := Lib.hid HPwI.out.b.size
          have hji : (j : Int) < (l.length : Int) := by omega
          have hxi : (x : Int) < (T.length : Int) := by omega
          clear hx hlx hrl htk hrv hnv hvv hwv hR k5
          go_upto_region 17 with (fail)
          refine wp_region_till (S := fun w' => w'.cell? ⟨gp, k * 4 + 2, none⟩ = some (.slice AV nv cV) ∧ w'.cell? ⟨b5, 1, none⟩ = some (.slice (some ad) T.length c5)) 13 (by kernel_rfl) ⟨(CVwI.out.drew.c), (C5wI.out.drew.c)⟩ (fun hHeld => ?_)
          refine tKk 0 ?_; (try simp only [zQ])
          refine tKk 1 ?_; (try simp only [zQ])
          refine tKk 2 ?_; (try simp only [zQ])
          refine tKk 3 ?_; (try simp only [zQ])
          refine tKk 4 ?_; (try simp only [zQ])
          refine tKk 5 ?_; (try simp only [zQ])
          refine tKk 6 ?_; (try simp only [zQ])
          refine tKk 7 ?_; (try simp only [zQ])
          refine tKk 8 ?_; (try simp only [zQ])
          refine tKk 9 ?_; (try simp only [zQ])
          refine Till.ready (rs := [10]) (by kernel_rfl) (by simp) ?_
          refine TillEach.cons rfl (fun K hK => ?_) ?_
          · refine step_append_sl _ (by rfl) (.tmp 59) (.tmp 64) _ (by rfl) w5.heap.size 3 i1 _ 1 8 Tryz.underlying25 hi1 iz0 iz1 iz2 rfl (by omega) (.slice AV nv cV) nv (ZL (vtx T (l.take j))) (by rfl) HWV.out wI.heap.size (some (ad.add (x * 3))) 3 3 [.int .i64 (tri T x).a, .int .i64 (tri T x).b, .int .i64 (tri T x).c] (by rfl) (reads_tri TQ.out.drew) (by simp [Value.oneCell']) (by simp only [maxLen]; omega) (by omega) HSZ.out ?_
            intro A6 c6 v17 hown6 hg6 hat6
            have CVv17 : Hid (CellQ v17 ⟨gp, k * 4 + 2, none⟩ (.slice AV nv cV)) := Lib.hid ⟨(World.cell?_of_block (hg6.block gp CVwI.out.lt HMP.out)).trans CVwI.out.c, Nat.lt_of_lt_of_le CVwI.out.lt hg6.size⟩
            have C5v17 : Hid (CellQ v17 ⟨b5, 1, none⟩ (.slice (some ad) T.length c5)) := Lib.hid ⟨(World.cell?_of_block (hg6.block b5 C5wI.out.lt HM5.out)).trans C5wI.out.c, Nat.lt_of_lt_of_le C5wI.out.lt hg6.size⟩
            have HO6 := Lib.hid hown6
            have HG6 := Lib.hid hg6
            have HA6 := Lib.hid hat6
            have hfz : v17.frozen? ⟨gp, k * 4 + 2, none⟩ = false := (World.frozen?_of_block (hg6.block gp CVwI.out.lt HMP.out)).trans (HPwI.out.drew.frozen _)
            clear hown6 hg6 hat6
            refine hK.out _ _ ?_ (fun hHeld => ?_)
            · exact ⟨(CVv17.out.c), (C5v17.out.c)⟩
            clear hK K
            (try simp only [zQ])
            refine Till.takeP [12] (i := 11) (v := ?vt31) rfl (by kernel_rfl) (by kernel_rfl) (by kernel_rfl) (by kernel_rfl) (by kernel_rfl) (fun _ _ _ h => h) (Or.inl ⟨by rfl, ?ht31⟩) (by assumption) ?restt31
            case ht31 => (intro w h; (try dsimp only at h); go_simp; try with_reducible rfl)
            (try simp only [zQ])
            refine tKk 12 ?_; (try simp only [zQ])
            refine Till.ready (rs := [13]) (by kernel_rfl) (by simp) ?_
            refine TillEach.last rfl (fun K hK => ?_)
            · go_simp
              refine hK.out _ _ ?_
              clear hK K
              (try simp only [zQ])
              refine Till.done (by kernel_rfl) ?_ _
              have cp := CVv17.out.c
              go_wp2_with fail
              go_roundw
              case rel =>
               refine ⟨j + 1, updF v' (3 * k + 1) (.slice A6 (nv + 3) c6), by omega, by go_num, Lib.hid (by rw [updF_ne _ _ (by omega)]; exact HV2.out), Lib.hid ?_⟩
               have ho := HO6.out
               have hg := HG6.out
               have ha := HA6.out
               rw [← updF_upd (p2 T k) k ⟨0, [], vtx T (l.take j), l⟩]
               refine HPwI.out.swap hkl (r := 1) (by decide) (fun s hs hne => ?_) (by rw [updF_at]) (fun i hi hne => ?_) ?_ (fun y hy => ?_) ?_
               · rw [updF_at]
                 rcases (by omega : s = 0 ∨ s = 2) with rfl | rfl <;> exact ⟨rfl, rfl⟩
               · exact hg.block i hi fun e => hne (by rw [HVV.out]; exact e.symm)
               · have hx : rXp ⟨0, [], vtx T (l.take (j + 1)), l⟩ 1 = ZL (vtx T (l.take j)) ++ [.int .i64 (tri T x).a, .int .i64 (tri T x).b, .int .i64 (tri T x).c] := by
                  show ZL (vtx T (l.take (j + 1))) = _
                  rw [HTK.out, vtx_snoc]; simp [ZL]
                 have hn : rKp ⟨0, [], vtx T (l.take (j + 1)), l⟩ 1 = nv + 3 := by
                  show (vtx T (l.take (j + 1))).length = _
                  rw [HTK.out, vtx_snoc, List.length_append, HNV.out]; rfl
                 rw [hx, hn]
                 exact ho
               · rw [HVV.out]
                 rcases ha with h | h
                 · exact .inl (h ▸ hy)
                 · rw [h] at hy
                   injection hy with hy
                   exact .inr (Nat.le_of_eq hy)
               · exact HPwI.out.b.drew.grown hg fun y hy => .inr (HWV.out.lt y hy).1
              case measure => simp [intOf]; omega
          exact TillEach.nil
        · obtain rfl : j = l.length := by omega
          obtain ⟨VX, hVX⟩ : ∃ VX, VX = vtx T l := ⟨_, rfl⟩
          have HVX := Lib.hid hVX
          have hP0 : PAt w5 gp np (updF (p2 T k) k ⟨0, [], VX, l⟩) v' wI := by
           have h := HPwI.out
           rw [List.take_length, ← hVX] at h
           exact h
          obtain ⟨nv, hnv⟩ : ∃ nv, nv = VX.length := ⟨_, rfl⟩
          have hnv3 : nv = 3 * l.length := by rw [hnv, hVX, vtx_len]
          have hnvp : 0 < nv ∧ nv ≤ 3000 := by omega
          have hrv := hP0.own k 1 hkl (by decide)
          rw [updF_at] at hrv
          obtain ⟨gv, cV, hvv⟩ := own_shaped hrv (by show 0 < VX.length; omega)
          replace hvv : v' (3 * k + 1) = .slice (some ⟨gv, 0, none⟩) nv cV := by rw [hvv, hnv]; rfl
          have hwv : wI.ownsRow w5.heap.size 3 1 (.slice (some ⟨gv, 0, none⟩) nv cV) nv (ZL VX) := by rw [hvv] at hrv; rw [hnv] at hrv ⊢; exact hrv
          have cv : wI.cell? ⟨gp, k * 4 + 2, none⟩ = some (.slice (some ⟨gv, 0, none⟩) nv cV) := by rw [← hvv]; exact hP0.cell hkl (by decide : 1 < 3)
          have HP0 := Lib.hid hP0
          have HNV := Lib.hid hnv
          have HVV := Lib.hid hvv
          have HSO := Lib.hid (sort_own wI w5.heap.size gv nv cV VX hwv (by omega))
          clear hP0 hnv hnv3 hrv hvv hwv HPwI hVX
          go_wp2_with fail
          refine HSO.out.mono ?_
          rintro e w6 ⟨rfl, ho6, hb6⟩
          have HP6 := Lib.hid (HP0.out.turn hkl HVV.out (by rw [updF_at]; exact HNV.out.symm) (by rw [sortL_len]; exact HNV.out.symm) hnvp.1 ho6 hb6)
          have cv : w6.cell? ⟨gp, k * 4 + 2, none⟩ = some (.slice (some ⟨gv, 0, none⟩) nv cV) := by rw [← HVV.out]; exact HP6.out.cell hkl (by decide : 1 < 3)
          have HCO := Lib.hid (compact_own w6 w5.heap.size gv nv cV VX ho6 (by omega))
          clear ho6 hb6 HSO HP0
          go_wp2_with fail
          refine HCO.out.mono ?_
          rintro e w7 ⟨rfl, Z, hz, ho7, hb7⟩
          have HP7 := Lib.hid (HP6.out.turn hkl HVV.out (by rw [updF_at]; show (sortL VX).length = nv; rw [sortL_len]; exact HNV.out.symm) hz hnvp.1 ho7 hb7)
          obtain ⟨V, hV⟩ : ∃ V, V = vsL VX := ⟨_, rfl⟩
          rw [← hV] at hz ho7 HP7 ⊢
          have HV := Lib.hid hV
          obtain ⟨nV, hnV⟩ : ∃ n, n = V.length := ⟨_, rfl⟩
          have hnVn : nV ≤ nv := by rw [hnV, ← hz, List.length_append]; exact Nat.le_add_right _ _
          have HNW := Lib.hid hnV
          have HCL := Lib.hid (clone_own w7 w5.heap.size gv nv cV nV (V ++ Z) ho7 (by omega) hnVn)
          have HTV : Hid ((V ++ Z).take nV = V) := Lib.hid (by rw [hnV]; exact List.take_left)
          rw [← hnV]
          clear hz ho7 hb7 HCO HP6 hV hnV cv
          go_wp2_with fail
          refine HCL.out.mono ?_
          rintro e w8 ⟨v9, rfl, ho8, hb8⟩
          rw [HTV.out] at ho8
          obtain ⟨A9, c9, rfl, _⟩ := own_form ho8
          have cp8 := (HP7.out.below hb8).cell hkl (by decide : 1 < 3)
          have cf8 := (HP7.out.below hb8).frozen (k * 4 + 2)
          rw [HVV.out] at cp8
          replace cp8 : w8.cell? ⟨gp, k * 4 + 2, none⟩ = some (.slice (some ⟨gv, 0, none⟩) nv cV) := cp8
          have HP8 := Lib.hid (HP7.out.moved hkl HNW.out.symm ho8 hb8)
          clear ho8 hb8 HCL HP7 HTV
          go_upto_region 21 with (fail)
          obtain ⟨w9, hw9⟩ : ∃ U, U = w8.setCell ⟨gp, k * 4 + 2, none⟩ (.slice A9 nV c9) := ⟨_, rfl⟩
          rw [← hw9] at HP8 ⊢
          clear hw9 cp8 cf8
          have hVp : 0 < nV := by rw [HNW.out, HV.out]; exact vsL_pos (by have := HNV.out; omega)
          have hr9 := HP8.out.own k 1 hkl (by decide)
          rw [updF_at] at hr9
          obtain ⟨g9, c9', he9⟩ := own_shaped hr9 (by rw [updF_at]; show 0 < V.length; rw [← HNW.out]; exact hVp)
          rw [updF_at] at he9
          replace he9 : Value.slice A9 nV c9 = .slice (some ⟨g9, 0, none⟩) V.length c9' := he9
          have heA : A9 = some ⟨g9, 0, none⟩ := by injection he9
          rw [heA] at HP8
          obtain ⟨v9, hv9⟩ : ∃ f, f = updF v' (3 * k + 1) (.slice (some ⟨g9, 0, none⟩) nV c9) := ⟨_, rfl⟩
          have HW1 : Hid (v9 (3 * k + 1) = .slice (some ⟨g9, 0, none⟩) nV c9) := Lib.hid (by rw [hv9, updF_at])
          have HW2 : Hid (v9 (3 * k + 2) = .slice (some ⟨gl, 0, none⟩) l.length cl) := Lib.hid (by rw [hv9, updF_ne _ _ (by omega)]; exact HV2.out)
          have HP9 : Hid (PAt w5 gp np (updF (p2 T k) k ⟨0, [], V, l⟩) v9 w9) := by
           have h := HP8.out
           rw [← hv9] at h
           simp only [updF_upd, updF_at] at h
           exact Lib.hid h
          clear hr9 he9 heA hv9 HP8
          have cp : w9.cell? ⟨gp, k * 4 + 2, none⟩ = some (.slice (some ⟨g9, 0, none⟩) nV c9) := by rw [← HW1.out]; exact HP9.out.cell hkl (by decide : 1 < 3)
          have cn : w9.cell? ⟨gp, k * 4, none⟩ = some (.int .i64 0) := by have h := HP9.out.cellN hkl; rw [updF_at] at h; exact h
          have cf := HP9.out.frozen (k * 4)
          have HP10 : Hid (PAt w5 gp np (updF (p2 T k) k ⟨(nV : Int), (l.take 0).map (fun x => renT V (tri T x)), V, l⟩) v9 (w9.setCell ⟨gp, k * 4, none⟩ (.int .i64 (nV : Int)))) := by
           have h := HP9.out.setN hkl (nV : Int)
           simp only [updF_upd, updF_at] at h
           exact Lib.hid h
          go_upto_region 22 with (fail)
          generalize w9.setCell ⟨gp, k * 4, none⟩ (.int .i64 (nV : Int)) = wH at *
          have cl3 : wH.cell? ⟨gp, k * 4 + 3, none⟩ = some (.slice (some ⟨gl, 0, none⟩) l.length cl) := by rw [← HW2.out]; exact HP10.out.cell hkl (by decide : 2 < 3)
          clear cp cn cf HP9
          go_wp2_with fail
          go_loopw [14, 15, 16, 17, 97] (fun _ _ _ _ jv wr => ∃ (j : Nat) (v' : Nat → Value), j ≤ l.length ∧ jv = .int .i64 (j : Int) ∧ Hid (v' (3 * k + 1) = .slice (some ⟨g9, 0, none⟩) nV c9) ∧ Hid (v' (3 * k + 2) = .slice (some ⟨gl, 0, none⟩) l.length cl) ∧ Hid (PAt w5 gp np (updF (p2 T k) k ⟨(nV : Int), (l.take j).map (fun x => renT V (tri T x)), V, l⟩) v' wr)) (fun _ _ _ _ jv _ => l.length - (intOf jv).toNat)
          case atStart => exact ⟨0, v9, by omega, rfl, HW1, HW2, HP10⟩
          case round =>
           clear HW1 HW2 cl3 HP10 HV2 HVV
           obtain ⟨j, v', hj, rfl, HW1, HW2, HPwK⟩ := hrel
           obtain ⟨wK, hwK⟩ : ∃ wK : World, wK = wr := ⟨_, rfl⟩
           rw [← hwK] at HPwK ⊢
           clear hwK
           by_cases hjl : j < l.length
           · obtain ⟨x, hx⟩ : ∃ x, x = l.getD j 0 := ⟨_, rfl⟩
             have hlx : l[j]? = some x := by rw [hx, List.getD_eq_getElem?_getD, List.getElem?_eq_getElem hjl]; rfl
             have hxl : x ∈ l := List.mem_of_getElem? hlx
             have hxT : x < T.length := HLT.out x hxl
             have hrl := HPwK.out.own k 2 hkl (by decide)
             rw [updF_at, HW2.out] at hrl
             have yl := ir_cell (L := l) (show IR wK w5.heap.size (some ⟨gl, 0, none⟩) cl (natL l) by unfold IR; rw [natL_len]; exact hrl) hjl
             rw [← hx] at yl
             have htk : l.take (j + 1) = l.take j ++ [x] := by
              obtain ⟨h1, h2⟩ := List.getElem?_eq_some_iff.1 hlx
              rw [List.take_succ_eq_append_getElem h1, h2]
             have HTK := Lib.hid htk
             have hji : (j : Int) < (l.length : Int) := by omega
             have hxi : (x : Int) < (T.length : Int) := by omega
             obtain ⟨t, ht⟩ : ∃ t, t = tri T x := ⟨_, rfl⟩
             have HM : Hid (t.a ∈ V ∧ t.b ∈ V ∧ t.c ∈ V) := Lib.hid (by
              rw [ht, HV.out, mem_vsL, mem_vsL, mem_vsL, HVX.out]
              exact vtx_mem hxl)
             have HT3 := Lib.hid ht
             clear hx hlx hrl htk hxl
             go_upto_region 26 with (fail)
             obtain ⟨r0, hr0⟩ : ∃ U, U = wK.alloc (.cells #[.int .i64 0, .int .i64 0, .int .i64 0] 56) := ⟨_, rfl⟩
             have KXr0 : Hid (Blk r0 wK.heap.size 56 #[.int .i64 0, .int .i64 0, .int .i64 0]) := by subst hr0; exact Lib.hid (Blk.new _ _ _)
             have HPr0 : Hid (PAt w5 gp np (updF (p2 T k) k ⟨(nV : Int), (l.take j).map (fun x => renT V (tri T x)), V, l⟩) v' r0) := by subst hr0; exact Lib.hid (HPwK.out.alloc _)
             have HNX : Hid (∀ q, q < 3 * np → (v' q).ownBlock ≠ some wK.heap.size) := Lib.hid fun q hq e => Nat.lt_irrefl _ (HPwK.out.lt hq e).2
             have HGX : Hid (wK.heap.size ≠ gp ∧ w5.heap.size ≤ wK.heap.size) := Lib.hid ⟨fun e => Nat.lt_irrefl _ (e ▸ HPwK.out.gp_lt), HPwK.out.b.size⟩
             rw [← hr0]
             obtain ⟨bx, hbx⟩ : ∃ b, b = wK.heap.size := ⟨_, rfl⟩
             rw [← hbx] at KXr0 HNX HGX
             simp only [← hbx]
             have hR : LRow r0 w3.heap.size (some ad) c5 T := own_only R55.out HPr0.out.b HNT.out
             have tq := triQ_at hR hxT
             rw [← ht] at tq
             have k5 := K55.out.only HPr0.out.b HN5.out
             have c51 : r0.cell? ⟨b5, 1, none⟩ = some (.slice (some ad) T.length c5) := k5.cell 1
             have d0 := tq.c.c0
             have d1 := tq.c.c1
             have d2 := tq.c.c2
             have e0 := tq.c.f0
             have e1 := tq.c.f1
             have e2 := tq.c.f2
             clear hr0 hbx yl HPwK hR tq k5 ht
             go_wp2_with fail
             refine wp_loop_rounds 4 ?_
             rw [rounds_succ]
             clear c51 d0 d1 d2 e0 e1 e2
             have ix0 : ∀ w, (Instr.index 56 (.agg #[.int .i64 t.a, .int .i64 t.b, .int .i64 t.c]) (.int .i64 0)).run Tryz.prog w = .ok (.int .i64 t.a) w := fun _ => by kernel_rfl
             have ix1 : ∀ w, (Instr.index 56 (.agg #[.int .i64 t.a, .int .i64 t.b, .int .i64 t.c]) (.int .i64 1)).run Tryz.prog w = .ok (.int .i64 t.b) w := fun _ => by kernel_rfl
             have ix2 : ∀ w, (Instr.index 56 (.agg #[.int .i64 t.a, .int .i64 t.b, .int .i64 t.c]) (.int .i64 2)).run Tryz.prog w = .ok (.int .i64 t.c) w := fun _ => by kernel_rfl
             go_upto_region 28 with (fail)
             have cp0 : r0.cell? ⟨gp, k * 4 + 2, none⟩ = some (.slice (some ⟨g9, 0, none⟩) nV c9) := by rw [← HW1.out]; exact HPr0.out.cell hkl (by decide : 1 < 3)
             have hrow0 : r0.ownsRow w5.heap.size 3 1 (.slice (some ⟨g9, 0, none⟩) nV c9) nV (ZL V) := by
              have h := HPr0.out.own k 1 hkl (by decide)
              rw [updF_at, HW1.out] at h
              rw [HNW.out] at h ⊢
              exact h
             have HS0 := Lib.hid (search_own r0 w5.heap.size g9 nV c9 V t.a hrow0 (by omega) (by rw [HV.out]; exact vsL_up _) HM.out.1)
             clear hrow0
             go_wp2_with fail
             refine HS0.out.mono ?_
             rintro e q0 ⟨rfl, hb⟩
             have HPq0 := Lib.hid (HPr0.out.below hb)
             have KXq0 := Lib.hid (blk_call KXr0.out hb)
             obtain ⟨z0, hz0⟩ : ∃ z, z = (V.idxOf t.a : Int) := ⟨_, rfl⟩
             rw [← hz0]
             have HZ0 := Lib.hid hz0
             have xf := KXq0.out.frozen 0
             have xc : q0.cell? ⟨bx, 0, none⟩ = some (.int .i64 0) := KXq0.out.cell 0
             have hk' := KXq0.out.set_ 0 (.int .i64 z0)
             simp only [List.setIfInBounds_toArray, List.set_cons_zero, List.set_cons_succ] at hk'
             obtain ⟨r1, hr1⟩ : ∃ r, r = q0.setCell ⟨bx, 0, none⟩ (.int .i64 z0) := ⟨_, rfl⟩
             rw [← hr1] at hk'
             have KXr1 : Hid (Blk r1 bx 56 #[.int .i64 z0, .int .i64 0, .int .i64 0]) := Lib.hid hk'
             have HPr1 : Hid (PAt w5 gp np (updF (p2 T k) k ⟨(nV : Int), (l.take j).map (fun x => renT V (tri T x)), V, l⟩) v' r1) := by subst hr1; exact Lib.hid (HPq0.out.farX HNX.out HGX.out.1 HGX.out.2 _)
             clear hb HS0 HPr0 KXr0 cp0 HPq0 KXq0 hz0 hk'
             go_wp2_with fail
             rw [rounds_succ]
             go_upto_region 28 with (fail)
             rw [← hr1]
             clear hr1 xf xc
             have cp1 : r1.cell? ⟨gp, k * 4 + 2, none⟩ = some (.slice (some ⟨g9, 0, none⟩) nV c9) := by rw [← HW1.out]; exact HPr1.out.cell hkl (by decide : 1 < 3)
             have hrow1 : r1.ownsRow w5.heap.size 3 1 (.slice (some ⟨g9, 0, none⟩) nV c9) nV (ZL V) := by
              have h := HPr1.out.own k 1 hkl (by decide)
              rw [updF_at, HW1.out] at h
              rw [HNW.out] at h ⊢
              exact h
             have HS1 := Lib.hid (search_own r1 w5.heap.size g9 nV c9 V t.b hrow1 (by omega) (by rw [HV.out]; exact vsL_up _) HM.out.2.1)
             clear hrow1
             go_wp2_with fail
             refine HS1.out.mono ?_
             rintro e q1 ⟨rfl, hb⟩
             have HPq1 := Lib.hid (HPr1.out.below hb)
             have KXq1 := Lib.hid (blk_call KXr1.out hb)
             obtain ⟨z1, hz1⟩ : ∃ z, z = (V.idxOf t.b : Int) := ⟨_, rfl⟩
             rw [← hz1]
             have HZ1 := Lib.hid hz1
             have xf := KXq1.out.frozen 1
             have xc : q1.cell? ⟨bx, 1, none⟩ = some (.int .i64 0) := KXq1.out.cell 1
             have hk' := KXq1.out.set_ 1 (.int .i64 z1)
             simp only [List.setIfInBounds_toArray, List.set_cons_zero, List.set_cons_succ] at hk'
             obtain ⟨r2, hr2⟩ : ∃ r, r = q1.setCell ⟨bx, 1, none⟩ (.int .i64 z1) := ⟨_, rfl⟩
             rw [← hr2] at hk'
             have KXr2 : Hid (Blk r2 bx 56 #[.int .i64 z0, .int .i64 z1, .int .i64 0]) := Lib.hid hk'
             have HPr2 : Hid (PAt w5 gp np (updF (p2 T k) k ⟨(nV : Int), (l.take j).map (fun x => renT V (tri T x)), V, l⟩) v' r2) := by subst hr2; exact Lib.hid (HPq1.out.farX HNX.out HGX.out.1 HGX.out.2 _)
             clear hb HS1 HPr1 KXr1 cp1 HPq1 KXq1 hz1 hk'
             go_wp2_with fail
             rw [rounds_succ]
             go_upto_region 28 with (fail)
             rw [← hr2]
             clear hr2 xf xc
             have cp2 : r2.cell? ⟨gp, k * 4 + 2, none⟩ = some (.slice (some ⟨g9, 0, none⟩) nV c9) := by rw [← HW1.out]; exact HPr2.out.cell hkl (by decide : 1 < 3)
             have hrow2 : r2.ownsRow w5.heap.size 3 1 (.slice (some ⟨g9, 0, none⟩) nV c9) nV (ZL V) := by
              have h := HPr2.out.own k 1 hkl (by decide)
              rw [updF_at, HW1.out] at h
              rw [HNW.out] at h ⊢
              exact h
             have HS2 := Lib.hid (search_own r2 w5.heap.size g9 nV c9 V t.c hrow2 (by omega) (by rw [HV.out]; exact vsL_up _) HM.out.2.2)
             clear hrow2
             go_wp2_with fail
             refine HS2.out.mono ?_
             rintro e q2 ⟨rfl, hb⟩
             have HPq2 := Lib.hid (HPr2.out.below hb)
             have KXq2 := Lib.hid (blk_call KXr2.out hb)
             obtain ⟨z2, hz2⟩ : ∃ z, z = (V.idxOf t.c : Int) := ⟨_, rfl⟩
             rw [← hz2]
             have HZ2 := Lib.hid hz2
             have xf := KXq2.out.frozen 2
             have xc : q2.cell? ⟨bx, 2, none⟩ = some (.int .i64 0) := KXq2.out.cell 2
             have hk' := KXq2.out.set_ 2 (.int .i64 z2)
             simp only [List.setIfInBounds_toArray, List.set_cons_zero, List.set_cons_succ] at hk'
             obtain ⟨r3, hr3⟩ : ∃ r, r = q2.setCell ⟨bx, 2, none⟩ (.int .i64 z2) := ⟨_, rfl⟩
             rw [← hr3] at hk'
             have KXr3 : Hid (Blk r3 bx 56 #[.int .i64 z0, .int .i64 z1, .int .i64 z2]) := Lib.hid hk'
             have HPr3 : Hid (PAt w5 gp np (updF (p2 T k) k ⟨(nV : Int), (l.take j).map (fun x => renT V (tri T x)), V, l⟩) v' r3) := by subst hr3; exact Lib.hid (HPq2.out.farX HNX.out HGX.out.1 HGX.out.2 _)
             clear hb HS2 HPr2 KXr2 cp2 HPq2 KXq2 hz2 hk'
             go_wp2_with fail
             rw [rounds_succ]
             go_upto_region 31 with (fail)
             rw [← hr3]
             clear hr3 xf xc
             clear ix0 ix1 ix2
             obtain ⟨i2, hi2, jz0, jz1, jz2⟩ := info_parts tri_info47
             have hrt := HPr3.out.own k 0 hkl (by decide)
             rw [updF_at] at hrt
             obtain ⟨AT, cT, hvt, _⟩ := own_form hrt
             obtain ⟨nT, hnT⟩ : ∃ n, n = ((l.take j).map (fun x => renT V (tri T x))).length := ⟨_, rfl⟩
             replace hvt : v' (3 * k + 0) = .slice AT nT cT := by rw [hvt, hnT]; rfl
             have hnT1 : nT ≤ 1000 := by rw [hnT, List.length_map, List.length_take]; omega
             have hwt : r3.ownsRow w5.heap.size 56 3 (.slice AT nT cT) nT (((l.take j).map (fun x => renT V (tri T x))).flatMap Tri.cells) := by rw [hvt] at hrt; rw [hnT] at hrt ⊢; exact hrt
             have HNT2 := Lib.hid hnT
             have HVT := Lib.hid hvt
             have HWT := Lib.hid hwt
             have CPr3 : Hid (CellQ r3 ⟨gp, k * 4 + 1, none⟩ (.slice AT nT cT)) := Lib.hid ⟨by rw [← hvt]; exact HPr3.out.cell hkl (by decide : 0 < 3), HPr3.out.gp_lt⟩
             have HMP : Hid (some gp ≠ (Value.slice AT nT cT).ownBlock) := Lib.hid fun e => HPr3.out.ne_gp (j := 3 * k + 0) (by omega) (by rw [hvt]; exact e.symm)
             have HMX : Hid (some bx ≠ (Value.slice AT nT cT).ownBlock) := Lib.hid fun e => HNX.out (3 * k + 0) (by omega) (by rw [hvt]; exact e.symm)
             have HSZ := Lib.hid HPr3.out.b.size
             clear hrt hvt hnT hwt
             refine wp_region_till (S := fun w' => w'.cell? ⟨gp, k * 4 + 1, none⟩ = some (.slice AT nT cT) ∧ w'.cell? ⟨bx, 0, none⟩ = some (.int .i64 z0) ∧ w'.cell? ⟨bx, 1, none⟩ = some (.int .i64 z1) ∧ w'.cell? ⟨bx, 2, none⟩ = some (.int .i64 z2)) 12 (by kernel_rfl) ⟨(CPr3.out.drew.c), (KXr3.out.drew.cell 0), (KXr3.out.drew.cell 1), (KXr3.out.drew.cell 2)⟩ (fun hHeld => ?_)
             refine tKk 0 ?_; (try simp only [zQ])
             refine tKk 1 ?_; (try simp only [zQ])
             refine tKk 2 ?_; (try simp only [zQ])
             refine tKk 3 ?_; (try simp only [zQ])
             refine tKk 4 ?_; (try simp only [zQ])
             refine tKk 5 ?_; (try simp only [zQ])
             refine tKk 6 ?_; (try simp only [zQ])
             refine Till.ready (rs := [7]) (by kernel_rfl) (by simp) ?_
             refine TillEach.cons rfl (fun K hK => ?_) ?_
             · go_simp
               go_wp2_with fail
               obtain ⟨v31, hvU⟩ : ∃ U, U = (r3.alloc (.cells #[.int .i64 z0, .int .i64 z1, .int .i64 z2] 56)).drew := ⟨_, rfl⟩
               have CPv31 := Lib.hid (CPr3.out.below (bw_drew (bw_alloc (Below.refl _ _) (.cells #[.int .i64 z0, .int .i64 z1, .int .i64 z2] 56))))
               have KXv31 := Lib.hid (KXr3.out.alloc (.cells #[.int .i64 z0, .int .i64 z1, .int .i64 z2] 56)).drew
               rw [← hvU] at CPv31 KXv31 ⊢
               have HUv31 := Lib.hid hvU
               clear hvU
               refine hK.out _ _ ?_ (fun hHeld => ?_)
               · exact ⟨(CPv31.out.c), (KXv31.out.cell 0), (KXv31.out.cell 1), (KXv31.out.cell 2)⟩
               clear hK K
               (try simp only [zQ])
               refine Till.ready (rs := [8]) (by kernel_rfl) (by simp) ?_
               refine TillEach.cons rfl (fun K hK => ?_) ?_
               · refine step_append_sl _ (by rfl) (.tmp 127) (.tmp 129) _ (by rfl) w5.heap.size 56 i2 _ 3 24 Tryz.underlying22 hi2 jz0 jz1 jz2 rfl (by omega) (.slice AT nT cT) nT (((l.take j).map (fun x => renT V (tri T x))).flatMap Tri.cells) (by rfl) (by rw [HUv31.out]; exact own_same HWT.out fun y hy => Below.heap_alloc _ _ _ (HWT.out.lt y hy).2) (r3.heap.size + 1) (some ⟨r3.heap.size, 0, none⟩) 1 1 [.int .i64 z0, .int .i64 z1, .int .i64 z2] (by rfl) (by rw [HUv31.out]; exact (reads_newN r3 #[.int .i64 z0, .int .i64 z1, .int .i64 z2] 56 1 3 rfl rfl).keep fun _ _ => World.cell?_of_block rfl) (by simp [Value.oneCell']) (by simp only [maxLen]; omega) (by omega) (by rw [HUv31.out]; show w5.heap.size ≤ (r3.alloc _).heap.size; rw [World.size_alloc]; exact Nat.le_succ_of_le HSZ.out) ?_
                 intro A6 c6 v32 hown6 hg6 hat6
                 have CPv32 : Hid (CellQ v32 ⟨gp, k * 4 + 1, none⟩ (.slice AT nT cT)) := Lib.hid ⟨(World.cell?_of_block (hg6.block gp CPv31.out.lt HMP.out)).trans CPv31.out.c, Nat.lt_of_lt_of_le CPv31.out.lt hg6.size⟩
                 have KXv32 := Lib.hid (KXv31.out.grown hg6 HMX.out)
                 have HO6 := Lib.hid hown6
                 have HG6 := Lib.hid hg6
                 have HA6 := Lib.hid hat6
                 have hfz : v32.frozen? ⟨gp, k * 4 + 1, none⟩ = false := (World.frozen?_of_block (hg6.block gp CPv31.out.lt HMP.out)).trans (by rw [HUv31.out]; exact (HPr3.out.alloc _).drew.frozen _)
                 clear hown6 hg6 hat6
                 refine hK.out _ _ ?_ (fun hHeld => ?_)
                 · exact ⟨(CPv32.out.c), (KXv32.out.cell 0), (KXv32.out.cell 1), (KXv32.out.cell 2)⟩
                 clear hK K
                 (try simp only [zQ])
                 refine Till.takeP [11, 10] (i := 9) (v := ?vt18) rfl (by kernel_rfl) (by kernel_rfl) (by kernel_rfl) (by kernel_rfl) (by kernel_rfl) (fun _ _ _ h => h) (Or.inl ⟨by rfl, ?ht18⟩) (by assumption) ?restt18
                 case ht18 => (intro w h; (try dsimp only at h); go_simp; try with_reducible rfl)
                 (try simp only [zQ])
                 refine Till.takeP [11] (i := 10) (v := ?vt19) rfl (by kernel_rfl) (by kernel_rfl) (by kernel_rfl) (by kernel_rfl) (by kernel_rfl) (fun _ _ _ h => h) (Or.inl ⟨by rfl, ?ht19⟩) (by assumption) ?restt19
                 case ht19 => (intro w h; (try dsimp only at h); go_simp; try with_reducible rfl)
                 (try simp only [zQ])
                 refine tKk 11 ?_; (try simp only [zQ])
                 refine Till.ready (rs := [12]) (by kernel_rfl) (by simp) ?_
                 refine TillEach.last rfl (fun K hK => ?_)
                 · go_simp
                   refine hK.out _ _ ?_
                   clear hK K
                   (try simp only [zQ])
                   refine Till.done (by kernel_rfl) ?_ _
                   have cp := CPv32.out.c
                   go_wp2_with fail
                   go_roundw
                   case rel =>
                    refine ⟨j + 1, updF v' (3 * k + 0) (.slice A6 (nT + 1) c6), by omega, by go_num, Lib.hid (by rw [updF_ne _ _ (by omega)]; exact HW1.out), Lib.hid (by rw [updF_ne _ _ (by omega)]; exact HW2.out), Lib.hid ?_⟩
                    have ho := HO6.out
                    have hg := HG6.out
                    have ha := HA6.out
                    rw [HUv31.out] at hg ha
                    rw [← updF_upd (p2 T k) k ⟨(nV : Int), (l.take j).map (fun x => renT V (tri T x)), V, l⟩]
                    refine HPr3.out.swap hkl (r := 0) (by decide) (fun s hs hne => ?_) (by rw [updF_at]) (fun i hi hne => ?_) ?_ (fun y hy => ?_) ?_
                    · rw [updF_at]
                      rcases (by omega : s = 1 ∨ s = 2) with rfl | rfl <;> exact ⟨rfl, rfl⟩
                    · rw [hg.block i (by show i < (r3.alloc _).heap.size; rw [World.size_alloc]; exact Nat.lt_succ_of_lt hi) (fun e => hne (by rw [HVT.out]; exact e.symm))]
                      exact Below.heap_alloc _ _ _ hi
                    · have hx : rXp ⟨(nV : Int), (l.take (j + 1)).map (fun x => renT V (tri T x)), V, l⟩ 0 = ((l.take j).map (fun x => renT V (tri T x))).flatMap Tri.cells ++ [.int .i64 z0, .int .i64 z1, .int .i64 z2] := by
                       show ((l.take (j + 1)).map (fun x => renT V (tri T x))).flatMap Tri.cells = _
                       rw [HTK.out, List.map_append, List.flatMap_append, HZ0.out, HZ1.out, HZ2.out, HT3.out]; simp [Tri.cells, renT]
                      have hn : rKp ⟨(nV : Int), (l.take (j + 1)).map (fun x => renT V (tri T x)), V, l⟩ 0 = nT + 1 := by
                       show ((l.take (j + 1)).map (fun x => renT V (tri T x))).length = _
                       rw [HTK.out, List.map_append, List.length_append, HNT2.out]; rfl
                      rw [hx, hn]
                      exact ho
                    · rw [HVT.out]
                      rcases ha with h | h
                      · exact .inl (h ▸ hy)
                      · rw [h] at hy
                        replace hy : some (r3.alloc (.cells #[.int .i64 z0, .int .i64 z1, .int .i64 z2] 56)).heap.size = some y := hy
                        rw [World.size_alloc] at hy
                        injection hy with hy
                        exact .inr (by rw [← hy]; exact Nat.le_succ _)
                    · exact (HPr3.out.b.alloc _).drew.grown hg fun y hy => .inr (HWT.out.lt y hy).1
                   case measure => simp [intOf]; omega
               exact TillEach.nil
             exact TillEach.nil
           · obtain rfl : j = l.length := by omega
             have HPN : Hid (PAt w5 gp np (p2 T (k + 1)) v' wK) := by
              have h := HPwK.out
              have e : (⟨(nV : Int), (l.take l.length).map (fun x => renT V (tri T x)), V, l⟩ : PartV) = partOf T k := by
               unfold partOf
               rw [List.take_length, HNW.out, HV.out, HVX.out, HL.out]
              rw [e, p2_next] at h
              exact Lib.hid h
             clear HPwK HW1 HW2
             go_wp2_with fail
             go_roundw
             case rel => exact ⟨k + 1, v', by omega, by go_num, HPN⟩
             case measure => simp [intOf]; omega
     · obtain rfl : k = np := by omega
       have c4 := (K45.out.only HPwG.out.b HN4.out).cell 0
       simp at c4
       have hend : ∃ (w0 : World) (gp : Nat) (v : Nat → Value), Below w.heap.size w w0 ∧ w.heap.size ≤ gp ∧ PAt w0 gp (kN T) (partOf T) v wG := ⟨w5, gp, v, HB5.out, HGE.out, by rw [← HNP.out]; exact HPwG.out.congr fun i hi => if_pos hi⟩
       by_cases h0 : k = 0
       · have hz : ((k : Int) == 0) = true := by rw [h0]; rfl
         have HK : Hid (kN T = 0) := Lib.hid (by rw [← HNP.out]; exact h0)
         have HE := Lib.hid hend
         clear hend h0
         go_wp2_with fail
         obtain ⟨w0, gp', v', h1, h2, h3⟩ := HE.out
         refine bodyPost_ret (v := .slice none 0 0) ?_ rfl ⟨w0, gp', v', by rw [if_pos HK.out], h1, h2, h3⟩
         simp [results, Tryz.results80, go_sem]
       · have hz : ((k : Int) == 0) = false := by rw [beq_eq_false_iff_ne]; omega
         have HK : Hid (kN T = k) := Lib.hid HNP.out.symm
         have HPE : Hid (PAt w5 gp (kN T) (partOf T) v wG) := Lib.hid (by rw [← HNP.out]; exact HPwG.out.congr fun i hi => if_pos hi)
         have HK0 : Hid (kN T ≠ 0) := Lib.hid (by rw [← HNP.out]; exact h0)
         clear hend h0
         go_wp2_with fail
         refine bodyPost_ret (v := .slice (some ⟨gp, 0, none⟩) k k) ?_ rfl ⟨w5, gp, v, by rw [if_neg HK0.out, HK.out], HB5.out, HGE.out, HPE.out⟩
         simp [results, Tryz.results80, go_sem]
end Go.Proofs.YtiajlmajenabiaaGreat
namespace Go.Proofs.YtiajlmajenabiaaGreat
open Go.RowKit
def kindsL (T : List Tri) (j : Nat) : List KindV := (List.range j).map fun k => kindV (partOf T k)
theorem kindsL_len (T : List Tri) (j : Nat) : (kindsL T j).length = j := by simp [kindsL]
theorem kindsL_succ (T : List Tri) (j : Nat) : kindsL T (j + 1) = kindsL T j ++ [kindV (partOf T j)] := by
 unfold kindsL
 rw [List.range_succ, List.map_append]
 rfl
def PartsOk (T : List Tri) : Prop := ∀ k, k < kN T → checkR (partOf T k).n (partOf T k).t = (0, 0, 0) ∧ kN (partOf T k).t = 1
def KindsYes (w : World) (T : List Tri) (e : Ending) (w' : World) : Prop :=
 ∃ (A : Option Addr) (c : Nat), e = .returned (.tuple #[.slice A (kN T) c, .bool true]) ∧ KindsAt w' w.heap.size A c (kindsL T (kN T)) ∧ Below w.heap.size w w'
def KindsNo (w : World) (e : Ending) (w' : World) : Prop := e = .returned (.tuple #[.slice none 0 0, .bool false]) ∧ Below w.heap.size w w'
theorem kind_info47 : (Tryz.prog.info? 91).map (fun i => (i.zero, i.size, i.bytes)) = some (some (.agg #[.int .i64 0, .slice none 0 0, .slice none 0 0]), 3, 56) := by kernel_rfl
attribute [local irreducible] Blk World.alloc World.setCell World.cell? World.frozen? MapV MapI
theorem kindsNo_any (N : Int) (A : Option Addr) (c : Nat) (T : List Tri) (w : World) (hs : checkR N T ≠ (0, 0, 0)) (hn : T.length ≤ 1000) (ht : TrisAt w w.heap.size A T.length T) :
  Calls Tryz.prog 45 #[.agg #[.int .i64 N, .slice A T.length c]] w (KindsNo w) := by
 have HT := Lib.hid ht
 have HS := Lib.hid hs
 clear ht hs
 go_enter Tryz.func45, Tryz.ntmps45
 go_upto_region 1 with (fail)
 obtain ⟨wA, hwA⟩ : ∃ U, U = w.alloc (.cells #[.int .i64 N, .slice A T.length c] 24) := ⟨_, rfl⟩
 have K1A : Hid (Blk wA w.heap.size 24 #[.int .i64 N, .slice A T.length c]) := by subst hwA; exact Lib.hid (Blk.new _ _ _)
 have HBA : Hid (Below w.heap.size w wA) := by subst hwA; exact Lib.hid (bw_alloc (Below.refl _ _) _)
 rw [← hwA]
 have HIS := Lib.hid (is_any N A T.length c T wA hn (tris_on HBA.out HT.out))
 have p0 : wA.cell? ⟨w.heap.size, 0, none⟩ = some (.int .i64 N) := K1A.out.cell 0
 have p1 : wA.cell? ⟨w.heap.size, 1, none⟩ = some (.slice A T.length c) := K1A.out.cell 1
 clear hwA
 go_wp2_with fail
 refine HIS.out.mono ?_
 rintro e w1 ⟨rfl, hb⟩
 rw [decide_eq_false HS.out]
 have HB1 := Lib.hid (bw_call HBA.out hb)
 go_wp2_with fail
 refine bodyPost_ret (v := .tuple #[.slice none 0 0, .bool false]) ?_ rfl ⟨rfl, HB1.out⟩
 simp [results, Tryz.results45, go_sem]
theorem kindsYes_any (m : Nat) (A : Option Addr) (c : Nat) (T : List Tri) (w : World) (hs : checkR (m : Int) T = (0, 0, 0)) (hn : T.length ≤ 1000) (hp : PartsOk T) (ht : TrisAt w w.heap.size A T.length T) :
  Calls Tryz.prog 45 #[.agg #[.int .i64 (m : Int), .slice A T.length c]] w (KindsYes w T) := by
 have HT := Lib.hid ht
 have HS := Lib.hid hs
 have HP := Lib.hid hp
 clear ht hs hp
 obtain ⟨i3, hi3, jz0, jz1, jz2⟩ := info_parts kind_info47
 go_enter Tryz.func45, Tryz.ntmps45
 go_upto_region 1 with (fail)
 obtain ⟨wA, hwA⟩ : ∃ U, U = w.alloc (.cells #[.int .i64 (m : Int), .slice A T.length c] 24) := ⟨_, rfl⟩
 have K1A : Hid (Blk wA w.heap.size 24 #[.int .i64 (m : Int), .slice A T.length c]) := by subst hwA; exact Lib.hid (Blk.new _ _ _)
 have HBA : Hid (Below w.heap.size w wA) := by subst hwA; exact Lib.hid (bw_alloc (Below.refl _ _) _)
 rw [← hwA]
 have HIS := Lib.hid (is_any (m : Int) A T.length c T wA hn (tris_on HBA.out HT.out))
 obtain ⟨b1, hb1⟩ : ∃ b, b = w.heap.size := ⟨_, rfl⟩
 rw [← hb1] at K1A
 simp only [← hb1]
 have p0 : wA.cell? ⟨b1, 0, none⟩ = some (.int .i64 (m : Int)) := K1A.out.cell 0
 have p1 : wA.cell? ⟨b1, 1, none⟩ = some (.slice A T.length c) := K1A.out.cell 1
 clear hwA hb1
 go_wp2_with fail
 refine HIS.out.mono ?_
 rintro e w1 ⟨rfl, hb⟩
 rw [decide_eq_true HS.out]
 have K11 := Lib.hid (K1A.out.below hb K1A.out.lt)
 have HB1 := Lib.hid (bw_call HBA.out hb)
 clear hb HIS K1A HBA p0 p1
 have HNE := Lib.hid (new_any (m : Int) A T.length c T w1 hn (tris_on HB1.out HT.out))
 have p0 : w1.cell? ⟨b1, 0, none⟩ = some (.int .i64 (m : Int)) := K11.out.cell 0
 have p1 : w1.cell? ⟨b1, 1, none⟩ = some (.slice A T.length c) := K11.out.cell 1
 go_wp2_with fail
 refine HNE.out.mono ?_
 rintro e w2 hpost
 rcases hpost with ⟨_, g, rfl, htab, hb⟩ | ⟨hne, _⟩
 case inr => exact absurd HS.out hne
 rw [show wv (0, 0, 0) = .agg #[.int .i64 0, .int .i64 0, .int .i64 0] from rfl]
 have HT2 : Hid (TabN w2 g m T) := Lib.hid ⟨htab.base (Nat.zero_le _), surf_chk47 HS.out, hn⟩
 have HB2 := Lib.hid (bw_call HB1.out hb)
 clear htab hb HNE K11 HB1 p0 p1
 go_upto_region 5 with (fail)
 obtain ⟨w3, hw3⟩ : ∃ U, U = w2.alloc (.cells #[.int .i64 0, .int .i64 0, .int .i64 0] 43) := ⟨_, rfl⟩
 have HT3 : Hid (TabN w3 g m T) := by subst hw3; exact Lib.hid (HT2.out.alloc _)
 have HB3 : Hid (Below w.heap.size w w3) := by subst hw3; exact Lib.hid (bw_alloc HB2.out _)
 rw [← hw3]
 have HSP := Lib.hid (split_any g m T w3 HT3.out)
 clear hw3 HT2 HB2
 go_wp2_with fail
 refine HSP.out.mono ?_
 rintro e wS ⟨w0, gp, v, rfl, hb0, hgp, hpa⟩
 obtain ⟨K, hK⟩ : ∃ K, K = kN T := ⟨_, rfl⟩
 have hKT : K ≤ T.length := hK ▸ kN_le T
 obtain ⟨Ap, cp, hAp, hgp2⟩ : ∃ (Ap : Option Addr) (cp : Nat), (if kN T = 0 then Value.slice none 0 0 else .slice (some ⟨gp, 0, none⟩) (kN T) (kN T)) = .slice Ap K cp ∧ (0 < K → Ap = some ⟨gp, 0, none⟩) := by
  rw [← hK]
  by_cases h0 : K = 0
  · exact ⟨none, 0, by rw [if_pos h0, h0], fun h => by omega⟩
  · exact ⟨some ⟨gp, 0, none⟩, K, by rw [if_neg h0], fun _ => rfl⟩
 rw [hAp]
 rw [← hK] at hpa
 have HKE := Lib.hid hK
 have HPA := Lib.hid hpa
 have HBS : Hid (Below w.heap.size w wS) := Lib.hid ((HB3.out.trans (hb0.mono HB3.out.size)).trans (hpa.b.below (Nat.le_trans HB3.out.size hb0.size) fun k hk e => by have := HB3.out.size; omega))
 have HW0 : Hid (w.heap.size ≤ w0.heap.size) := Lib.hid (Nat.le_trans HB3.out.size hb0.size)
 have HGP := Lib.hid hgp2
 clear hK hAp hgp2 hb0 hgp hpa HSP HT3 HB3
 go_wp2_with fail
 go_loopw [6, 8, 20] (fun vo _ kv wr => ∃ (j co : Nat) (Ao : Option Addr), j ≤ K ∧ vo = .slice Ao j co ∧ kv = .int .i64 (j : Int) ∧ Hid (KindsAt wr wS.heap.size Ao co (kindsL T j)) ∧ Hid (Below wS.heap.size wS wr)) (fun _ _ kv _ => K - (intOf kv).toNat)
 case atStart => exact ⟨0, 0, none, by omega, rfl, rfl, Lib.hid (KindsAt.nil _ _), Lib.hid (Below.refl _ _)⟩
 case round =>
  obtain ⟨j, co, Ao, hj, rfl, rfl, HKr, HBr⟩ := hrel
  obtain ⟨wU, hwU⟩ : ∃ wU : World, wU = wr := ⟨_, rfl⟩
  rw [← hwU] at HKr HBr ⊢
  clear hwU
  by_cases hjK : j < K
  · have hji : (j : Int) < (K : Int) := by omega
    have hAp := HGP.out (by omega)
    subst hAp
    have HPU := HPA.out.below HBr.out
    obtain ⟨P, hP⟩ : ∃ P, P = partOf T j := ⟨_, rfl⟩
    have hw0 := HPU.own j 0 hjK (by decide)
    have hw1 := HPU.own j 1 hjK (by decide)
    have hw2 := HPU.own j 2 hjK (by decide)
    rw [← hP] at hw0 hw1 hw2
    obtain ⟨At, ct, ev0, _⟩ := own_form hw0
    obtain ⟨Av, cv, ev1, _⟩ := own_form hw1
    obtain ⟨Al, cl, ev2, _⟩ := own_form hw2
    have y0 : wU.cell? ⟨gp, j * 4, none⟩ = some (.int .i64 P.n) := by rw [hP]; exact HPU.cellN hjK
    have y1 : wU.cell? ⟨gp, j * 4 + 1, none⟩ = some (.slice At P.t.length ct) := (HPU.cell hjK (r := 0) (by decide)).trans (congrArg some ev0)
    have y2 : wU.cell? ⟨gp, j * 4 + 2, none⟩ = some (.slice Av P.v.length cv) := (HPU.cell hjK (r := 1) (by decide)).trans (congrArg some ev1)
    have y3 : wU.cell? ⟨gp, j * 4 + 3, none⟩ = some (.slice Al P.l.length cl) := (HPU.cell hjK (r := 2) (by decide)).trans (congrArg some ev2)
    rw [ev0] at hw0
    rw [ev1] at hw1
    have HR0 : Hid (LRow wU w0.heap.size At ct P.t) := Lib.hid hw0
    have HR1 : Hid (IR wU w0.heap.size Av cv P.v) := Lib.hid hw1
    have HPE := Lib.hid hP
    have hok := HP.out j (by rw [← HKE.out]; exact hjK)
    rw [← hP] at hok
    have HOK := Lib.hid hok
    have hlen : P.t.length ≤ 1000 := by
     have h1 := lst_len (ofL T) T.length j
     have h2 : P.t.length = (lstOf (ofL T) T.length j).length := by rw [hP]; exact List.length_map _
     omega
    obtain ⟨nt, hnt⟩ : ∃ n, n = P.t.length := ⟨_, rfl⟩
    obtain ⟨nv, hnv⟩ : ∃ n, n = P.v.length := ⟨_, rfl⟩
    obtain ⟨nl, hnl⟩ : ∃ n, n = P.l.length := ⟨_, rfl⟩
    obtain ⟨nP, hnP⟩ : ∃ n, n = P.n := ⟨_, rfl⟩
    rw [← hnP] at y0
    rw [← hnt] at y1
    rw [← hnv] at y2
    rw [← hnl] at y3
    have HNT := Lib.hid hnt
    have HNV := Lib.hid hnv
    have HNP := Lib.hid hnP
    clear hw0 hw1 hw2 ev0 ev1 ev2 hP hok HPU hnt hnv hnl hnP
    go_upto_region 8 with (fail)
    obtain ⟨wV, hwV⟩ : ∃ U, U = wU.alloc (.cells #[.int .i64 nP, .slice At nt ct, .slice Av nv cv, .slice Al nl cl] 125) := ⟨_, rfl⟩
    have KXV : Hid (Blk wV wU.heap.size 125 #[.int .i64 nP, .slice At nt ct, .slice Av nv cv, .slice Al nl cl]) := by subst hwV; exact Lib.hid (Blk.new _ _ _)
    have HKV : Hid (KindsAt wV wS.heap.size Ao co (kindsL T j)) := by subst hwV; exact Lib.hid (HKr.out.alloc _)
    have HBV : Hid (Below wS.heap.size wS wV) := by subst hwV; exact Lib.hid (bw_alloc HBr.out _)
    have HRV0 : Hid (LRow wV w0.heap.size At ct P.t) := by subst hwV; exact Lib.hid (LRow.alloc HR0.out _)
    have HRV1 : Hid (IR wV w0.heap.size Av cv P.v) := by subst hwV; exact Lib.hid (IR.alloc HR1.out _)
    rw [← hwV]
    obtain ⟨bx, hbx⟩ : ∃ b, b = wU.heap.size := ⟨_, rfl⟩
    rw [← hbx] at KXV
    simp only [← hbx]
    have HKO : Hid (Calls Tryz.prog 81 #[.agg #[.int .i64 nP, .slice At nt ct, .slice Av nv cv, .slice Al nl cl]] wV (KindPost1 wV (kindV P))) := Lib.hid (by
     rw [HNT.out, HNV.out, HNP.out]
     exact kindOf1_any At Av Al ct cv nl cl P wV (by rw [HPE.out]; rfl) HOK.out.1 hlen HOK.out.2 (LRow.tris HRV0.out) (IR.reads HRV1.out))
    clear hwV hbx HKr HBr HR0 HR1 y0 y1 y2 y3
    have x0 := KXV.out.cell 0
    have x1 := KXV.out.cell 1
    have x2 := KXV.out.cell 2
    have x3 := KXV.out.cell 3
    simp at x0 x1 x2 x3
    go_wp2_with fail
    refine HKO.out.mono ?_
    rintro e wW ⟨Af, Aw, cf, cw, rfl, hl, hw, hb⟩
    obtain ⟨k, hk⟩ : ∃ k, k = kindV P := ⟨_, rfl⟩
    rw [← hk] at hl hw ⊢
    obtain ⟨LK, hLK, hLo, hLi⟩ := (HKV.out.below hb).ex
    rw [kindsL_len] at hLo
    have HLK := Lib.hid hLK
    have HLo := Lib.hid hLo
    have HLi := Lib.hid hLi
    have HBW := Lib.hid (bw_call HBV.out hb)
    have HFl := Lib.hid (LRow.base hl HBV.out.size)
    have HFw := Lib.hid (hw.base HBV.out.size)
    have HKK := Lib.hid hk
    obtain ⟨nf, hnf⟩ : ∃ n, n = k.L.length := ⟨_, rfl⟩
    obtain ⟨nw, hnw⟩ : ∃ n, n = k.ws.length := ⟨_, rfl⟩
    rw [← hnf, ← hnw]
    have HNf := Lib.hid hnf
    have HNw := Lib.hid hnw
    clear hl hw hb hLK hLo hLi HKO HKV HBV hk hnf hnw x0 x1 x2 x3 KXV HRV0 HRV1
    go_wp2_with (at_builtin; go_must (refine wpList_append_sl _ rfl (.tmp 24) (.tmp 27) _ rfl wS.heap.size 91 i3 _ 3 56 Tryz.underlying73 hi3 jz0 jz1 jz2 rfl (by omega) (.slice Ao j co) j (LK.flatMap KCell.cells) rfl (own_up HLo.out _) (wW.heap.size + 1) (some ⟨wW.heap.size, 0, none⟩) 1 1 [.int .i64 k.M, .slice Af nf cf, .slice Aw nw cw] rfl (reads_newN _ _ _ 1 3 rfl rfl) (by simp [Value.oneCell']) (by simp only [maxLen]; omega) (by omega) (bw_size (bw_alloc HBW.out _)) ?_); intro A5 c5 wX hown5 hg5 hat5)
    have HKX : Hid (KindsAt wX wS.heap.size A5 c5 (kindsL T (j + 1))) := Lib.hid (by
     refine ⟨⟨LK ++ [⟨Af, cf, Aw, cw, k⟩], ?_, ?_, fun x hx => ?_⟩⟩
     · rw [List.map_append, HLK.out, kindsL_succ, HKK.out, HPE.out]; rfl
     · rw [kindsL_len, List.flatMap_append, List.flatMap_singleton, KCell.cells, ← HNf.out, ← HNw.out]
       exact hown5
     · have key : ∀ (el : TypeId) (s n : Nat) (z : Value) (xs : List Value), el ≠ 91 → wW.ownsRow wS.heap.size el s z n xs → wX.ownsRow wS.heap.size el s z n xs := fun el s n z xs hne ho => own_grow2 (own_up ho _) hg5 (own_up HLo.out _) hne
       rcases List.mem_append.1 hx with hx | hx
       · exact ⟨key _ _ _ _ _ (by decide) (HLi.out x hx).1, (HLi.out x hx).2.same fun el s n z xs he ho => key _ _ _ _ _ (by rcases he with rfl | rfl <;> decide) ho⟩
       · rw [List.mem_singleton.1 hx]
         exact ⟨key _ _ _ _ _ (by decide) HFl.out, HFw.out.same fun el s n z xs he ho => key _ _ _ _ _ (by rcases he with rfl | rfl <;> decide) ho⟩)
    have HBX : Hid (Below wS.heap.size wS wX) := Lib.hid (bw_grow (bw_alloc HBW.out _) hg5 fun x hx => (World.ownsRow.lt HLo.out x hx).1)
    go_roundw
    case rel => exact ⟨j + 1, c5, A5, by omega, rfl, by go_num, HKX, HBX⟩
    case measure => simp [intOf]; omega
  · obtain rfl : j = K := by omega
    go_wp2_with fail
    refine bodyPost_ret (v := .tuple #[.slice Ao j co, .bool true]) ?_ rfl ⟨Ao, co, by rw [HKE.out], ?_, HBS.out.trans (HBr.out.mono HBS.out.size)⟩
    · simp [results, Tryz.results45, go_sem]
    · rw [← HKE.out]
      exact HKr.out.base HBS.out.size
end Go.Proofs.YtiajlmajenabiaaGreat
namespace Go.Proofs.YtiajlmajenabiaaGreat
open Go.RowKit
theorem part_short (T : List Tri) (k : Nat) : (partOf T k).t.length ≤ T.length := by
 have h1 := lst_len (ofL T) T.length k
 have h2 : (partOf T k).t.length = (lstOf (ofL T) T.length k).length := List.length_map _
 omega
theorem kinds_small {T : List Tri} (hp : PartsOk T) (hn : T.length ≤ 1000) : (∀ k ∈ kindsL T (kN T), k.L.length ≤ 1000) ∧ ∀ k ∈ kindsL T (kN T), k.ws.length ≤ 1000000 := by
 have key : ∀ k ∈ kindsL T (kN T), k.L.length ≤ 1000 ∧ k.ws.length ≤ 1000000 := fun k hk => by
  unfold kindsL at hk
  obtain ⟨i, hi, rfl⟩ := List.mem_map.1 hk
  have hi := List.mem_range.1 hi
  obtain ⟨h1, h2⟩ := hp i hi
  have hs := part_short T i
  have hb := (bestN_is (T := (partOf T i).t) (k := 0) (by omega)).2.lt
  have h3 := (rootC_fi hb).short
  have h4 := waysTo_len (partOf T i).t (partOf T i).v (rootO (partOf T i).t (bestN (partOf T i).t 0)).length (rootT (partOf T i).t (bestN (partOf T i).t 0)) (3 * (partOf T i).t.length)
  refine ⟨?_, ?_⟩
  · show (rootT _ _).length ≤ 1000
    rw [rootT_len]; omega
  · show (waysTo _ _ _ _ _).length ≤ 1000000
    omega
 exact ⟨fun k hk => (key k hk).1, fun k hk => (key k hk).2⟩
attribute [local irreducible] Blk World.alloc World.setCell World.cell? World.frozen? MapV MapI
theorem symOrder_yes (m : Nat) (A : Option Addr) (c : Nat) (T : List Tri) (w : World) (hs : checkR (m : Int) T = (0, 0, 0)) (hn : T.length ≤ 1000) (hp : PartsOk T) (ht : TrisAt w w.heap.size A T.length T) :
  Calls Tryz.prog 21 #[.agg #[.int .i64 (m : Int), .slice A T.length c]] w (OrderPost w (orderN (kindsL T (kN T)) (kN T))) := by
 have HT := Lib.hid ht
 have HS := Lib.hid hs
 have HP := Lib.hid hp
 clear ht hs hp
 go_enter Tryz.func21, Tryz.ntmps21
 go_upto_region 1 with (fail)
 obtain ⟨wA, hwA⟩ : ∃ U, U = w.alloc (.cells #[.int .i64 (m : Int), .slice A T.length c] 24) := ⟨_, rfl⟩
 have K1A : Hid (Blk wA w.heap.size 24 #[.int .i64 (m : Int), .slice A T.length c]) := by subst hwA; exact Lib.hid (Blk.new _ _ _)
 have HBA : Hid (Below w.heap.size w wA) := by subst hwA; exact Lib.hid (bw_alloc (Below.refl _ _) _)
 rw [← hwA]
 have HKI := Lib.hid (kindsYes_any m A c T wA HS.out hn HP.out (tris_on HBA.out HT.out))
 have p0 : wA.cell? ⟨w.heap.size, 0, none⟩ = some (.int .i64 (m : Int)) := K1A.out.cell 0
 have p1 : wA.cell? ⟨w.heap.size, 1, none⟩ = some (.slice A T.length c) := K1A.out.cell 1
 clear hwA
 go_wp2_with fail
 refine HKI.out.mono ?_
 rintro e w1 ⟨Ak, ck, rfl, hk, hb⟩
 have HB1 := Lib.hid (bw_call HBA.out hb)
 have HOR : Hid (Calls Tryz.prog 46 #[.slice Ak (kN T) ck] w1 (OrderPost w1 (orderN (kindsL T (kN T)) (kN T)))) := Lib.hid (by
  have hl := kindsL_len T (kN T)
  have := order_any wA.heap.size Ak ck (kindsL T (kN T)) w1 (by rw [hl]; exact Nat.le_trans (kN_le T) hn) (kinds_small HP.out hn).1 (kinds_small HP.out hn).2 hk
  rw [hl] at this
  exact this)
 obtain ⟨o, ho⟩ : ∃ o, o = orderN (kindsL T (kN T)) (kN T) := ⟨_, rfl⟩
 rw [← ho] at HOR ⊢
 have HOE := Lib.hid ho
 obtain ⟨K, hK⟩ : ∃ K, K = kN T := ⟨_, rfl⟩
 rw [← hK] at HOR ⊢
 clear hb hk HKI p0 p1 ho hK
 go_wp2_with fail
 refine HOR.out.mono ?_
 rintro e w2 ⟨rfl, hb⟩
 have HB2 := Lib.hid (bw_call HB1.out hb)
 cases o with
 | none =>
  unfold ordV
  dsimp only
  go_wp2_with fail
  refine bodyPost_ret (v := .tuple #[.int .i64 0, .int .i64 7]) ?_ rfl ⟨by rw [← HOE.out]; rfl, HB2.out⟩
  simp [results, Tryz.results21, go_sem]
 | some n =>
  unfold ordV
  dsimp only
  go_wp2_with fail
  refine bodyPost_ret (v := .tuple #[.int .i64 (n : Int), .int .i64 0]) ?_ rfl ⟨by rw [← HOE.out]; rfl, HB2.out⟩
  simp [results, Tryz.results21, go_sem]
theorem symOrder_no (N : Int) (A : Option Addr) (c : Nat) (T : List Tri) (w : World) (hs : checkR N T ≠ (0, 0, 0)) (hn : T.length ≤ 1000) (ht : TrisAt w w.heap.size A T.length T) :
  Calls Tryz.prog 21 #[.agg #[.int .i64 N, .slice A T.length c]] w fun e w' => e = .returned (.tuple #[.int .i64 0, .int .i64 11]) ∧ Below w.heap.size w w' := by
 have HT := Lib.hid ht
 have HS := Lib.hid hs
 clear ht hs
 go_enter Tryz.func21, Tryz.ntmps21
 go_upto_region 1 with (fail)
 obtain ⟨wA, hwA⟩ : ∃ U, U = w.alloc (.cells #[.int .i64 N, .slice A T.length c] 24) := ⟨_, rfl⟩
 have K1A : Hid (Blk wA w.heap.size 24 #[.int .i64 N, .slice A T.length c]) := by subst hwA; exact Lib.hid (Blk.new _ _ _)
 have HBA : Hid (Below w.heap.size w wA) := by subst hwA; exact Lib.hid (bw_alloc (Below.refl _ _) _)
 rw [← hwA]
 have HKI := Lib.hid (kindsNo_any N A c T wA HS.out hn (tris_on HBA.out HT.out))
 have p0 : wA.cell? ⟨w.heap.size, 0, none⟩ = some (.int .i64 N) := K1A.out.cell 0
 have p1 : wA.cell? ⟨w.heap.size, 1, none⟩ = some (.slice A T.length c) := K1A.out.cell 1
 clear hwA
 go_wp2_with fail
 refine HKI.out.mono ?_
 rintro e w1 ⟨rfl, hb⟩
 have HB1 := Lib.hid (bw_call HBA.out hb)
 clear hb
 go_wp2_with fail
 refine bodyPost_ret (v := .tuple #[.int .i64 0, .int .i64 11]) ?_ rfl ⟨rfl, HB1.out⟩
 simp [results, Tryz.results21, go_sem]
def EqPostR (w : World) (N : Int) (T : List Tri) (M : Int) (U : List Tri) (e : Ending) (w' : World) : Prop :=
 ∃ (N1 : Int) (L1 : List Tri) (e1 N2 : Int) (L2 : List Tri) (e2 : Int) (r : Bool), FormI N T N1 L1 e1 ∧ FormI M U N2 L2 e2 ∧ Hid (r = decide (e1 = 0 ∧ e2 = 0 ∧ N1 = N2 ∧ L1 = L2)) ∧ e = .returned (.bool r) ∧ Below w.heap.size w w'
def HandPost (w : World) (N : Int) (T : List Tri) (e : Ending) (w' : World) : Prop :=
 ∃ (N1 : Int) (L1 : List Tri) (e1 N2 : Int) (L2 : List Tri) (e2 : Int), FormI N T N1 L1 e1 ∧ FormI N (T.map mirT) N2 L2 e2 ∧ e = .returned (.tuple #[.bool (!decide (e1 = 0 ∧ e2 = 0 ∧ N1 = N2 ∧ L1 = L2)), .int .i64 0]) ∧ Below w.heap.size w w'
theorem handed_yes (N : Int) (A : Option Addr) (c : Nat) (T : List Tri) (w : World) (hs : checkR N T = (0, 0, 0)) (hn : T.length ≤ 1000) (hk : kN T < 20) (hb : T.length * kN T ≤ 1000) (hk' : kN (T.map mirT) < 20) (hb' : T.length * kN (T.map mirT) ≤ 1000) (ht : TrisAt w w.heap.size A T.length T) :
  Calls Tryz.prog 14 #[.agg #[.int .i64 N, .slice A T.length c]] w (HandPost w N T) := by
 have HT := Lib.hid ht
 have HS := Lib.hid hs
 have HK := Lib.hid hk
 have HK' := Lib.hid hk'
 have HLB := Lib.hid hb
 have HLB' := Lib.hid hb'
 clear ht hs hk hk' hb hb'
 go_enter Tryz.func14, Tryz.ntmps14
 go_upto_region 1 with (fail)
 obtain ⟨wA, hwA⟩ : ∃ U, U = w.alloc (.cells #[.int .i64 N, .slice A T.length c] 24) := ⟨_, rfl⟩
 have K1A : Hid (Blk wA w.heap.size 24 #[.int .i64 N, .slice A T.length c]) := by subst hwA; exact Lib.hid (Blk.new _ _ _)
 have HBA : Hid (Below w.heap.size w wA) := by subst hwA; exact Lib.hid (bw_alloc (Below.refl _ _) _)
 rw [← hwA]
 have HIS := Lib.hid (is_any N A T.length c T wA hn (tris_on HBA.out HT.out))
 obtain ⟨b1, hb1⟩ : ∃ b, b = w.heap.size := ⟨_, rfl⟩
 rw [← hb1] at K1A
 simp only [← hb1]
 have p0 : wA.cell? ⟨b1, 0, none⟩ = some (.int .i64 N) := K1A.out.cell 0
 have p1 : wA.cell? ⟨b1, 1, none⟩ = some (.slice A T.length c) := K1A.out.cell 1
 clear hwA hb1
 go_wp2_with fail
 refine HIS.out.mono ?_
 rintro e w1 ⟨rfl, hb⟩
 rw [decide_eq_true HS.out]
 have HB1 := Lib.hid (bw_call HBA.out hb)
 have K11 := Lib.hid (K1A.out.below hb K1A.out.lt)
 clear hb HIS K1A HBA p0 p1
 have HMI : Hid (∀ W, Below w1.heap.size w1 W → Calls Tryz.prog 16 #[.agg #[.int .i64 N, .slice A T.length c]] W (SPost W N (T.map mirT))) := Lib.hid fun W hW => mirror_any N A T.length c T W (by omega) (tris_on (bw_call HB1.out hW) HT.out)
 have HEQ : Hid (∀ (W : World) (Am : Option Addr) (cm : Nat), Below w1.heap.size w1 W → LRow W w1.heap.size Am cm (T.map mirT) → Calls Tryz.prog 19 #[.agg #[.int .i64 N, .slice A T.length c], .agg #[.int .i64 N, .slice Am T.length cm]] W (EqPostR W N T N (T.map mirT))) := Lib.hid fun W Am cm hW hl => by
  have := equal_any N N A Am c cm T (T.map mirT) W hn HK.out HLB.out (tris_on (bw_call HB1.out hW) HT.out) (by rw [List.length_map]; exact hn) HK'.out (by rw [List.length_map]; exact HLB'.out) (LRow.tris hl)
  rw [List.length_map] at this
  refine this.mono ?_
  rintro e w' ⟨N1, L1, e1, N2, L2, e2, h1, h2, rfl, h3⟩
  exact ⟨N1, L1, e1, N2, L2, e2, _, h1, h2, Lib.hid rfl, rfl, h3⟩
 have K1w1 := K11
 have HBw1 : Hid (Below w1.heap.size w1 w1) := Lib.hid (Below.refl _ _)
 go_upto_region 3 with (fail)
 refine wp_region_held_drew (S := fun w' => w'.cell? ⟨b1, 0, none⟩ = some (.int .i64 N) ∧ w'.cell? ⟨b1, 1, none⟩ = some (.slice A T.length c)) (by kernel_rfl) ⟨(K1w1.out.drew.cell 0), (K1w1.out.drew.cell 1)⟩ (fun hHeld => ?_)
 refine hKk 0 ?_; (try simp only [zQ])
 refine hKk 1 ?_; (try simp only [zQ])
 refine wpAnyH_ready (rs := [2]) (by kernel_rfl) (by simp) ?_
 refine held_cons rfl (fun K hK => ?_) ?_
 · go_simp
   go_wp2_with (go_at_call 16; refine (HMI.out w1.drew (bw_drew HBw1.out)).mono ?_; rintro e v3 ⟨Am, cm, rfl, hlm, hb⟩)
   have K1v3 := Lib.hid (blk_call K1w1.out.drew hb)
   have HLMv3 : Hid (LRow v3 w1.heap.size Am cm (T.map mirT)) := Lib.hid (LRow.base hlm (bw_drew HBw1.out).size)
   have HBv3 := Lib.hid (bw_call (bw_drew HBw1.out) hb)
   clear hb
   refine hK.out _ _ ?_ (fun hHeld => ?_)
   · exact ⟨(K1v3.out.cell 0), (K1v3.out.cell 1)⟩
   clear hK K
   (try simp only [zQ])
   refine wpAnyH_ready (rs := [3]) (by kernel_rfl) (by simp) ?_
   refine held_cons rfl (fun K hK => ?_) ?_
   · go_simp
     go_wp2_with (go_at_call 19; refine (HEQ.out v3 Am cm HBv3.out HLMv3.out).mono ?_; rintro e v4 ⟨N1, L1, e1, N2, L2, e2, r, hi1, hi2, hr, rfl, hb⟩)
     have K1v4 := Lib.hid (blk_call K1v3.out hb)
     have HLMv4 := Lib.hid (HLMv3.out.below hb)
     have HI1v4 : Hid (FormI N T N1 L1 e1) := Lib.hid (hi1)
     have HI2v4 : Hid (FormI N (T.map mirT) N2 L2 e2) := Lib.hid (hi2)
     have HR := hr
     have HBv4 := Lib.hid (bw_call HBv3.out hb)
     clear hb K1v3 HLMv3 HBv3
     refine hK.out _ _ ?_ (fun hHeld => ?_)
     · exact ⟨(K1v4.out.cell 0), (K1v4.out.cell 1)⟩
     clear hK K
     (try simp only [zQ])
     refine hKk 4 ?_; (try simp only [zQ])
     refine hKk 5 ?_; (try simp only [zQ])
     refine hKk 6 ?_; (try simp only [zQ])
     refine wpAnyH_done (by kernel_rfl) ?_ _
     go_wp2_with fail
     refine bodyPost_ret (v := .tuple #[.bool (!r), .int .i64 0]) ?_ rfl ⟨N1, L1, e1, N2, L2, e2, hi1, hi2, by rw [← HR.out], bw_call HB1.out HBv4.out⟩
     simp [results, Tryz.results14, go_sem]
   exact AllReadyH.nil
 exact AllReadyH.nil
end Go.Proofs.YtiajlmajenabiaaGreat
namespace Go.Proofs.YtiajlmajenabiaaGreat
open Go.RowKit
def tetT : List Tri := [⟨0, 2, 1⟩, ⟨0, 1, 3⟩, ⟨1, 2, 3⟩, ⟨2, 0, 3⟩]
def loneT : List Tri := [⟨0, 1, 2⟩]
theorem tet_chk : checkR (4 : Nat) tetT = (0, 0, 0) := by decide +kernel
theorem lone_chk : checkR (3 : Nat) loneT = (0, 0, 0) := by decide +kernel
theorem tet_kN : kN tetT = 1 := by decide +kernel
theorem lone_kN : kN loneT = 1 := by decide +kernel
theorem tet_parts : PartsOk tetT := by
 intro k hk
 rw [tet_kN] at hk
 obtain rfl : k = 0 := by omega
 decide +kernel
theorem lone_parts : PartsOk loneT := by
 intro k hk
 rw [lone_kN] at hk
 obtain rfl : k = 0 := by omega
 decide +kernel
theorem tet_order : orderN (kindsL tetT 1) 1 = some 12 := by decide +kernel
theorem lone_order : orderN (kindsL loneT 1) 1 = some 3 := by decide +kernel
theorem tet_mir : checkR (4 : Nat) (tetT.map mirT) = (0, 0, 0) ∧ kN (tetT.map mirT) = 1 := by decide +kernel
theorem tet_same : (rootO tetT (bestN tetT 0)).length = (rootO (tetT.map mirT) (bestN (tetT.map mirT) 0)).length ∧ rootT tetT (bestN tetT 0) = rootT (tetT.map mirT) (bestN (tetT.map mirT) 0) := by decide +kernel
end Go.Proofs.YtiajlmajenabiaaGreat
namespace Go.Proofs.YtiajlmajenabiaaGreat
open Go.RowKit
theorem tris_lit {w : World} {g : Nat} {T : List Tri} (h : Blk w g 56 (T.flatMap Tri.cells).toArray) (hT : 0 < T.length) : TrisAt w w.heap.size (some ⟨g, 0, none⟩) T.length T := by
 refine TrisAt.mk_ ⟨flatMap_len 3 Tri.cells (fun _ => rfl) T, fun _ => ⟨_, rfl, h.lt, fun j u hj => ?_⟩⟩
 have e : (⟨g, 0, none⟩ : Addr).add j = ⟨g, j, none⟩ := by unfold Addr.add; split <;> simp_all
 rw [e, h.cell]
 simpa using hj
theorem putL_tet {p : List Nat} (h : Put tetT p) : putL tetT p = [bestN tetT 0] := put_one tet_kN h
theorem putL_mir {p : List Nat} (h : Put (tetT.map mirT) p) : putL (tetT.map mirT) p = [bestN (tetT.map mirT) 0] := put_one tet_mir.2 h
attribute [local irreducible] Blk World.alloc World.setCell World.cell? World.frozen? MapV MapI
theorem awake_any (w : World) : Calls Tryz.prog 12 #[] w (BoolPost w true) := by
 go_enter Tryz.func12, Tryz.ntmps12
 go_upto_region 2 with (fail)
 obtain ⟨wA, hwA⟩ : ∃ U, U = (w.alloc (.cells #[.int .i64 0, .int .i64 2, .int .i64 1, .int .i64 0, .int .i64 1, .int .i64 3, .int .i64 1, .int .i64 2, .int .i64 3, .int .i64 2, .int .i64 0, .int .i64 3] 56)).alloc (.cells #[.int .i64 4, .slice (some ⟨w.heap.size, 0, none⟩) 4 4] 24) := ⟨_, rfl⟩
 have HTA : Hid (Blk wA w.heap.size 56 (tetT.flatMap Tri.cells).toArray) := by subst hwA; exact Lib.hid ((Blk.new _ _ _).alloc _)
 have K1A : Hid (Blk wA (w.heap.size + 1) 24 #[.int .i64 4, .slice (some ⟨w.heap.size, 0, none⟩) 4 4]) := by subst hwA; exact Lib.hid (Blk.new_ (by rw [World.size_alloc]) _ _)
 have HBA : Hid (Below w.heap.size w wA) := by subst hwA; exact Lib.hid (bw_alloc (bw_alloc (Below.refl _ _) _) _)
 rw [← hwA]
 obtain ⟨b1, hb1⟩ : ∃ b, b = w.heap.size + 1 := ⟨_, rfl⟩
 obtain ⟨b0, hb0⟩ : ∃ b, b = w.heap.size := ⟨_, rfl⟩
 rw [← hb1, ← hb0] at K1A
 rw [← hb0] at HTA
 simp only [← hb1]
 simp only [← hb0]
 have HOR : Hid (Calls Tryz.prog 21 #[.agg #[.int .i64 4, .slice (some ⟨b0, 0, none⟩) 4 4]] wA (OrderPost wA (some 12))) := Lib.hid (by
  have := symOrder_yes 4 (some ⟨b0, 0, none⟩) 4 tetT wA tet_chk (by decide) tet_parts (tris_lit HTA.out (by decide))
  rw [tet_kN, tet_order] at this
  exact this)
 have p0 : wA.cell? ⟨b1, 0, none⟩ = some (.int .i64 4) := K1A.out.cell 0
 have p1 : wA.cell? ⟨b1, 1, none⟩ = some (.slice (some ⟨b0, 0, none⟩) 4 4) := K1A.out.cell 1
 clear hwA hb1 hb0
 go_wp2_with fail
 refine HOR.out.mono ?_
 rintro e w1 ⟨rfl, hb⟩
 rw [show ordV (some 12) = .tuple #[.int .i64 12, .int .i64 0] from rfl]
 have HT1 := Lib.hid (HTA.out.below hb HTA.out.lt)
 have K11 := Lib.hid (K1A.out.below hb K1A.out.lt)
 have HB1 := Lib.hid (bw_call HBA.out hb)
 clear hb HOR HTA K1A HBA p0 p1
 have HHD : Hid (Calls Tryz.prog 14 #[.agg #[.int .i64 4, .slice (some ⟨b0, 0, none⟩) 4 4]] w1 (fun e w' => e = .returned (.tuple #[.bool false, .int .i64 0]) ∧ Below w1.heap.size w1 w')) := Lib.hid (by
  have := handed_yes 4 (some ⟨b0, 0, none⟩) 4 tetT w1 tet_chk (by decide) (by rw [tet_kN]; decide) (by rw [tet_kN]; decide) (by rw [tet_mir.2]; decide) (by rw [tet_mir.2]; decide) (tris_lit HT1.out (by decide))
  refine this.mono ?_
  rintro e w' ⟨N1, L1, e1, N2, L2, e2, h1, h2, rfl, hb⟩
  obtain ⟨he1, p, hp, hN1, hL1⟩ := h1.yes tet_chk
  obtain ⟨he2, q, hq, hN2, hL2⟩ := h2.yes tet_mir.1
  rw [putL_tet hp, oldsC_one] at hN1
  rw [putL_tet hp, joinC_one] at hL1
  rw [putL_mir hq, oldsC_one] at hN2
  rw [putL_mir hq, joinC_one] at hL2
  have hs := tet_same
  rw [decide_eq_true (show e1 = 0 ∧ e2 = 0 ∧ N1 = N2 ∧ L1 = L2 from ⟨he1, he2, by rw [hN1, hN2, hs.1], by rw [hL1, hL2, hs.2]⟩)]
  exact ⟨rfl, hb⟩)
 have p0 : w1.cell? ⟨b1, 0, none⟩ = some (.int .i64 4) := K11.out.cell 0
 have p1 : w1.cell? ⟨b1, 1, none⟩ = some (.slice (some ⟨b0, 0, none⟩) 4 4) := K11.out.cell 1
 go_wp2_with fail
 refine HHD.out.mono ?_
 rintro e w2 ⟨rfl, hb⟩
 have HB2 := Lib.hid (bw_call HB1.out hb)
 clear hb HHD HT1 K11 HB1 p0 p1
 obtain ⟨w3, hw3⟩ : ∃ U, U = w2.alloc (.cells #[.int .i64 0, .int .i64 1, .int .i64 2] 56) := ⟨_, rfl⟩
 have HT3 : Hid (Blk w3 w2.heap.size 56 (loneT.flatMap Tri.cells).toArray) := by subst hw3; exact Lib.hid (Blk.new _ _ _)
 have HB3 : Hid (Below w.heap.size w w3) := by subst hw3; exact Lib.hid (bw_alloc HB2.out _)
 have HOR : Hid (Calls Tryz.prog 21 #[.agg #[.int .i64 3, .slice (some ⟨w2.heap.size, 0, none⟩) 1 1]] w3 (OrderPost w3 (some 3))) := Lib.hid (by
  have := symOrder_yes 3 (some ⟨w2.heap.size, 0, none⟩) 1 loneT w3 lone_chk (by decide) lone_parts (tris_lit HT3.out (by decide))
  rw [lone_kN, lone_order] at this
  exact this)
 go_wp2_with fail
 rw [← hw3]
 clear hw3
 refine HOR.out.mono ?_
 rintro e w4 ⟨rfl, hb⟩
 rw [show ordV (some 3) = .tuple #[.int .i64 3, .int .i64 0] from rfl]
 have HB4 := Lib.hid (bw_call HB3.out hb)
 clear hb
 go_wp2_with fail
 go_ret
 exact ⟨rfl, HB4.out⟩
end Go.Proofs.YtiajlmajenabiaaGreat
