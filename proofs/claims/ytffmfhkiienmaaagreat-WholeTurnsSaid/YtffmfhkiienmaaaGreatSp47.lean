/- shell.Split's closure, walked. No condition but sizes. -/
import Derived.Test.YtffmfhkiienmaaaGreatSh47
import Derived.Test.YtffmfhkiienmaaaGreatFm47
import Derived.Test.YtffmfhkiienmaaaGreatCornerB
import Derived.Test.YtffmfhkiienmaaaGreatKd47
set_option maxRecDepth 100000
set_option maxHeartbeats 16000000
set_option linter.all false
namespace Go.Proofs.YtffmfhkiienmaaaGreat
open Go.RowKit
section
attribute [local irreducible] Blk World.alloc World.setCell World.cell? World.frozen? MapV MapI
theorem gather_any (w W:World) (gp np k tri b4:Nat) (P:Nat → PartV) (v:Nat → Value) (hk:k < np) (hK:np ≤ 1000) (hl:(P k).l.length ≤ 1000) (h:PAt w gp np P v W) (h4:Blk W b4 91 #[.slice (some ⟨gp,0,none⟩) np np]) :
  Calls Tryz.prog 66 #[.int .i64 (k:Int),.int .i64 (tri:Int),.pointer (some ⟨b4,0,none⟩)] W (fun e W'=>e=.returned (.tuple #[]) ∧ ∃ v',PAt w gp np (updF P k ⟨(P k).n,(P k).t,(P k).v,(P k).l ++ [tri]⟩) v' W'):=by
 obtain ⟨i0,hi0,hz0,hz1,hz2⟩:=info_parts int_infoC
 obtain ⟨n,hn⟩:=jX ((P k).l.length)
 have hw0:=h.own k 2 hk (by decide)
 obtain ⟨A,c,hv,_⟩:=own_form hw0
 have hv2:v (3 * k + 2)=.slice A n c:=by rw [hv,hn]; rfl
 rw [hv2] at hw0
 have hw:W.ownsRow w.heap.size 3 1 (.slice A n c) n (ZL (natL (P k).l)):=by rw [hn] at hw0 ⊢; exact hw0
 have HW:=jJ hw
 have HE:=jJ hv2
 have HP:=jJ h
 have HN:=jJ hn
 have HSZ:=jJ h.b.size
 have C4W:Hid (CellQ W ⟨b4,0,none⟩ (.slice (some ⟨gp,0,none⟩) np np)):=jJ ⟨h4.cell 0,h4.lt⟩
 have CPW:Hid (CellQ W ⟨gp,k * 4 + 3,none⟩ (.slice A n c)):=jJ ⟨by rw [← hv2]; exact h.cell hk (by decide:2 < 3),h.gp_lt⟩
 have HN4:Hid (some b4 ≠ (Value.slice A n c).ownBlock):=jJ fun e=>own_blk_ne hw h4 (by decide) e.symm
 have HNP:Hid (some gp ≠ (Value.slice A n c).ownBlock):=jJ fun e=>h.ne_gp (j:=3 * k + 2) (by omega) (by rw [hv2]; exact e.symm)
 have hki:(k:Int) < (np:Int):=by omega
 rw [← hn] at hl
 clear hv hv2 hw0 hw hn h h4
 go_enter Tryz.func66,Tryz.ntmps66
 go_upto_region 0 with (fail)
 refine wp_region_till (S:=fun w'=>w'.cell? ⟨b4,0,none⟩=some (.slice (some ⟨gp,0,none⟩) np np) ∧ w'.cell? ⟨gp,k * 4 + 3,none⟩=some (.slice A n c)) 12 (by kernel_rfl) ⟨(C4W.out.drew.c),(CPW.out.drew.c)⟩ (fun hHeld=>?_)
 refine tKk 0 ?_; (try simp only [zQ])
 refine tKk 1 ?_; (try simp only [zQ])
 refine tKk 2 ?_; (try simp only [zQ])
 refine tKk 3 ?_; (try simp only [zQ])
 refine tKk 4 ?_; (try simp only [zQ])
 refine tKk 5 ?_; (try simp only [zQ])
 refine tKk 6 ?_; (try simp only [zQ])
 refine tKk 7 ?_; (try simp only [zQ])
 refine Till.ready (rs:=[8]) (by kernel_rfl) (by simp) ?_
 refine TillEach.cons rfl (fun K hK=>?_) ?_
 · go_simp
   go_wp2_with fail
   obtain ⟨v1,hvU⟩:=jX ((W.alloc (.cells #[.int .i64 (tri:Int)] 3)).drew)
   have C4v1:=jJ (C4W.out.below (bw_drew (bw_alloc (Below.refl _ _) (.cells #[.int .i64 (tri:Int)] 3))))
   have CPv1:=jJ (CPW.out.below (bw_drew (bw_alloc (Below.refl _ _) (.cells #[.int .i64 (tri:Int)] 3))))
   rw [← hvU] at C4v1 CPv1 ⊢
   have HVv1:=jJ hvU
   clear hvU
   refine hK.out _ _ ?_ (fun hHeld=>?_)
   · exact ⟨(C4v1.out.c),(CPv1.out.c)⟩
   clear hK K
   (try simp only [zQ])
   refine Till.ready (rs:=[9]) (by kernel_rfl) (by simp) ?_
   refine TillEach.cons rfl (fun K hK=>?_) ?_
   · refine step_append_sl _ (by rfl) (.tmp 11) (.tmp 13) _ (by rfl) w.heap.size 3 i0 _ 1 8 Tryz.underlying30 hi0 hz0 hz1 hz2 rfl (by omega) (.slice A n c) n (ZL (natL (P k).l)) (by rfl) (by rw [HVv1.out]; exact own_same HW.out fun k hk=>Below.heap_alloc _ _ _ (HW.out.lt k hk).2) (W.heap.size + 1) (some ⟨W.heap.size,0,none⟩) 1 1 [.int .i64 (tri:Int)] (by rfl) (by rw [HVv1.out]; exact (reads_new W #[.int .i64 (tri:Int)] 3 1 1 rfl).keep fun _ _=>World.cell?_of_block rfl) (by simp [Value.oneCell']) (by simp only [maxLen]; omega) (by omega) (by rw [HVv1.out]; show w.heap.size ≤ (W.alloc _).heap.size; rw [World.size_alloc]; exact Nat.le_succ_of_le HSZ.out) ?_
     intro A5 c5 v2 hown5 hg5 hat5
     have C4v2:Hid (CellQ v2 ⟨b4,0,none⟩ (.slice (some ⟨gp,0,none⟩) np np)):=jJ ⟨(World.cell?_of_block (hg5.block b4 C4v1.out.lt HN4.out)).trans C4v1.out.c,Nat.lt_of_lt_of_le C4v1.out.lt hg5.size⟩
     have CPv2:Hid (CellQ v2 ⟨gp,k * 4 + 3,none⟩ (.slice A n c)):=jJ ⟨(World.cell?_of_block (hg5.block gp CPv1.out.lt HNP.out)).trans CPv1.out.c,Nat.lt_of_lt_of_le CPv1.out.lt hg5.size⟩
     have HO5:=jJ hown5
     have HG5:=jJ hg5
     have HA5:=jJ hat5
     have hfz:v2.frozen? ⟨gp,k * 4 + 3,none⟩=false:=(World.frozen?_of_block (hg5.block gp CPv1.out.lt HNP.out)).trans (by rw [HVv1.out]; exact (HP.out.alloc _).drew.frozen _)
     clear hown5 hg5 hat5
     refine hK.out _ _ ?_ (fun hHeld=>?_)
     · exact ⟨(C4v2.out.c),(CPv2.out.c)⟩
     clear hK K
     (try simp only [zQ])
     refine Till.takeP [11] (i:=10) (v:=?vt9) rfl (by kernel_rfl) (by kernel_rfl) (by kernel_rfl) (by kernel_rfl) (by kernel_rfl) (fun _ _ _ h=>h) (Or.inl ⟨by rfl,?ht9⟩) (by assumption) ?restt9
     case ht9=>(intro w h; (try dsimp only at h); go_simp; try with_reducible rfl)
     (try simp only [zQ])
     refine tKk 11 ?_; (try simp only [zQ])
     refine Till.ready (rs:=[12]) (by kernel_rfl) (by simp) ?_
     refine TillEach.last rfl (fun K hK=>?_)
     go_simp
     refine hK.out _ _ ?_
     clear hK K
     (try simp only [zQ])
     refine Till.done (by kernel_rfl) ?_ _
     have cp:=CPv2.out.c
     go_wp2_with fail
     refine bodyPost_end (results_none rfl _ _ _) rfl ⟨rfl,updF v (3 * k + 2) (.slice A5 (n + 1) c5),?_⟩
     have ho:=HO5.out
     have hg:=HG5.out
     have ha:=HA5.out
     rw [HVv1.out] at hg ha
     refine HP.out.swap hk (r:=2) (by decide) (fun s hs hne=>?_) rfl (fun i hi hne=>?_) ?_ (fun x hx=>?_) ?_
     · rcases (by omega:s=0 ∨ s=1) with rfl | rfl <;> exact ⟨rfl,rfl⟩
     · rw [hg.block i (by show i < (W.alloc _).heap.size; rw [World.size_alloc]; exact Nat.lt_succ_of_lt hi) (fun e=>hne (by rw [HE.out]; exact e.symm))]
       exact Below.heap_alloc _ _ _ hi
     · have hx:rXp ⟨(P k).n,(P k).t,(P k).v,(P k).l ++ [tri]⟩ 2=ZL (natL (P k).l) ++ [.int .i64 (tri:Int)]:=by
        show ZL (natL ((P k).l ++ [tri]))=_
        rw [natL_append]; simp [ZL,natL]
       have hn:rKp ⟨(P k).n,(P k).t,(P k).v,(P k).l ++ [tri]⟩ 2=n + 1:=by
        show ((P k).l ++ [tri]).length=_
        rw [List.length_append,HN.out]; rfl
       rw [hx,hn]
       exact ho
     · rw [HE.out]
       rcases ha with h | h
       · exact .inl (h ▸ hx)
       rw [h] at hx
       replace hx:some (W.alloc (.cells #[.int .i64 (tri:Int)] 3)).heap.size=some x:=hx
       rw [World.size_alloc] at hx
       injection hx with hx
       exact .inr (by rw [← hx]; exact Nat.le_succ _)
     exact ((HP.out.b.alloc _).drew.grown hg fun y hy=>.inr (HW.out.lt y hy).1)
   exact TillEach.nil
 exact TillEach.nil
end
section
attribute [local irreducible] Blk LRow World.alloc World.setCell World.cell? World.frozen? MapV
theorem soupT_any (g B:Nat) (N:Int) (T:List Tri) (w:World) (hT:T.length ≤ 8192) (h:TabS w B g N T) :
  Calls Tryz.prog 65 #[.pointer (some ⟨g,0,none⟩)] w (SPost w N T):=by
 obtain ⟨A,c,x2,x3,h1,h2⟩:=h.at_
 obtain ⟨w1,hV⟩:=jX (w.alloc (.cells #[.int .i64 0,.slice none 0 0] 24))
 have GRw1:Hid (Blk w1 w.heap.size 24 #[.int .i64 0,.slice none 0 0]):=by subst hV; exact jJ (Blk.new _ _ _)
 have GTw1:Hid (Blk w1 g 68 #[.int .i64 N,.slice A T.length c,x2,x3]):=by subst hV; exact jJ (h1.alloc _)
 have HRw1:Hid (LRow w1 B A c T):=by subst hV; exact jJ (h2.alloc _)
 have HBw1:Hid (Below w.heap.size w w1):=by subst hV; exact jJ (bw_alloc (Below.refl _ _) _)
 clear h h1 h2
 go_enter Tryz.func65,Tryz.ntmps65
 go_upto_region 3 with (fail)
 rw [← hV]
 clear hV
 obtain ⟨gr,hgr⟩:=jX w.heap.size
 have HGR:Hid (w.heap.size ≤ gr):=jJ (by omega)
 rw [← hgr] at GRw1
 simp only [← hgr]
 clear hgr
 refine wp_region_till (S:=fun w'=>w'.cell? ⟨gr,0,none⟩=some (.int .i64 0) ∧ w'.cell? ⟨gr,1,none⟩=some (.slice none 0 0) ∧ w'.frozen? ⟨gr,0,none⟩=false ∧ w'.frozen? ⟨gr,1,none⟩=false ∧ w'.cell? ⟨g,0,none⟩=some (.int .i64 N) ∧ w'.cell? ⟨g,1,none⟩=some (.slice A T.length c)) 12 (by kernel_rfl) ⟨(soup_facts GRw1.out.drew).1,(soup_facts GRw1.out.drew).2.1,(soup_facts GRw1.out.drew).2.2.1,(soup_facts GRw1.out.drew).2.2.2.1,(tab_facts GTw1.out.drew).1,(tab_facts GTw1.out.drew).2.1⟩ (fun hHeld=>?_)
 refine tKk 0 ?_; (try simp only [zQ])
 refine tKk 1 ?_; (try simp only [zQ])
 refine tKk 2 ?_; (try simp only [zQ])
 refine tKk 3 ?_; (try simp only [zQ])
 refine tKk 4 ?_; (try simp only [zQ])
 refine tKk 5 ?_; (try simp only [zQ])
 refine tKk 6 ?_; (try simp only [zQ])
 refine tKk 7 ?_; (try simp only [zQ])
 refine tKk 8 ?_; (try simp only [zQ])
 refine tKk 9 ?_; (try simp only [zQ])
 refine Till.ready (rs:=[10]) (by kernel_rfl) (by simp) ?_
 refine TillEach.cons rfl (fun K hK=>?_) ?_
 · go_simp
   go_wp2_with (go_at_call 25; refine (clone_any A c T w1.drew hT (HRw1.out.drew).tris).mono ?_; rintro e v3 ⟨A1,c1,rfl,hr,hb⟩)
   have GRv3:=jJ (blk_call GRw1.out.drew hb)
   have GTv3:=jJ (blk_call GTw1.out.drew hb)
   have HRv3:=jJ (HRw1.out.drew.below hb)
   have RAv3:Hid (LRow v3 w.heap.size A1 c1 T):=jJ (LRow.base hr (bw_size (bw_drew HBw1.out)))
   clear hr
   have HBv3:=jJ (bw_call (bw_drew HBw1.out) hb)
   clear hb
   refine hK.out _ _ ?_ (fun hHeld=>?_)
   · exact ⟨(soup_facts GRv3.out).1,(soup_facts GRv3.out).2.1,(soup_facts GRv3.out).2.2.1,(soup_facts GRv3.out).2.2.2.1,(tab_facts GTv3.out).1,(tab_facts GTv3.out).2.1⟩
   clear hK K
   (try simp only [zQ])
   refine tKk 11 ?_; (try simp only [zQ])
   refine Till.ready (rs:=[12]) (by kernel_rfl) (by simp) ?_
   refine TillEach.last rfl (fun K hK=>?_)
   go_simp
   refine hK.out _ _ ?_
   clear hK K
   (try simp only [zQ])
   refine Till.done (by kernel_rfl) ?_ _
   go_wp2_with fail
   obtain ⟨g0,g1,_,_,_⟩:=soup_facts (soup_set0 GRv3.out (.int .i64 N) (.slice A1 T.length c1))
   refine bodyPost_ret (v:=.agg #[.int .i64 N,.slice A1 T.length c1]) ?_ rfl ⟨A1,c1,rfl,LRow.soup_set0 RAv3.out GRv3.out _ _,bw_set (bw_set HBv3.out HGR.out _) HGR.out _⟩
   simp [results,Tryz.results65,go_sem,g0,g1]
 exact TillEach.nil
end
section
def SplitPost (w:World) (T:List Tri) (e:Ending) (w':World):Prop :=
 ∃ (w0:World) (gp:Nat) (v:Nat → Value),e=.returned (if kN T=0 then .slice none 0 0 else .slice (some ⟨gp,0,none⟩) (kN T) (kN T)) ∧ Below w.heap.size w w0 ∧ w.heap.size ≤ gp ∧ PAt w0 gp (kN T) (partOf T) v w'
attribute [local irreducible] Blk World.alloc World.setCell World.cell? World.frozen? MapV MapI
theorem split_any (g m:Nat) (T:List Tri) (w:World) (h:TabN w g m T) :
  Calls Tryz.prog 38 #[.pointer (some ⟨g,0,none⟩)] w (SplitPost w T):=by
 obtain ⟨i0,hi0,hz0,hz1,hz2⟩:=info_parts part_info
 have HT:=jJ h
 have hn1000:=h.n
 obtain ⟨np,hnp⟩:=jX (kN T)
 have hnT:np ≤ T.length:=hnp ▸ kN_le T
 have HNP:=jJ hnp
 have HOF:Hid (Calls Tryz.prog 49 #[.pointer (some ⟨g,0,none⟩)] w (OfPost w T)):=jJ (of_any g m T w h)
 have hmk:∀ wx:World,(Instr.makeSlice 91 (.int .i64 (np:Int)) (.int .i64 (np:Int))).run Tryz.prog wx=.ok (.slice (some ⟨wx.heap.size,0,none⟩) np np) (wx.alloc (.cells (madeCells (Value.agg #[.int .i64 0,.slice none 0 0,.slice none 0 0,.slice none 0 0]).cells (np * 4)) 94)):=fun wx=>by
  have:=run_make_rowN (P:=Tryz.prog) 91 94 i0 _ Tryz.underlying91 hi0 hz0 .i64 .i64 np np (Nat.le_refl _) (by rw [hz2]; omega) (by omega) wx
  rw [hz1] at this
  exact this
 clear h hnp
 go_enter Tryz.func38,Tryz.ntmps38
 go_wp2_with fail
 refine HOF.out.mono ?_
 rintro e w1 ⟨A,c,rfl,hr,hb⟩
 have HR1:=jJ hr
 have HB1:=jJ hb
 have HCN:Hid (Calls Tryz.prog 48 #[.pointer (some ⟨g,0,none⟩)] w1 (IntPost w1 (np:Int))):=jJ (by rw [HNP.out,← kN_eq T]; exact count_any g m T w1 (HT.out.below hb))
 clear hr hb HOF
 go_wp2_with fail
 refine HCN.out.mono ?_
 rintro e w2 ⟨rfl,hb⟩
 have HR2:=jJ (HR1.out.below hb)
 have HB2:=jJ (bw_call HB1.out hb)
 clear hb HR1 HB1 HCN
 go_upto_region 3 with (fail)
 obtain ⟨w3,hw3⟩:=jX ((w2.alloc (.cells (madeCells #[.int .i64 0,.slice none 0 0,.slice none 0 0,.slice none 0 0] (np * 4)) 94)).alloc (.cells #[.slice (some ⟨w2.heap.size,0,none⟩) np np] 91))
 have G3:Hid (Blk w3 w2.heap.size 94 (madeCells #[.int .i64 0,.slice none 0 0,.slice none 0 0,.slice none 0 0] (np * 4))):=by subst hw3; exact jJ ((Blk.new _ _ _).alloc _)
 have K43:Hid (Blk w3 (w2.heap.size + 1) 91 #[.slice (some ⟨w2.heap.size,0,none⟩) np np]):=by subst hw3; exact jJ (Blk.new_ (by rw [World.size_alloc]) _ _)
 have HR3:Hid (IR w3 w.heap.size A c (ofL T)):=by subst hw3; exact jJ ((HR2.out.alloc _).alloc _)
 have HB3:Hid (Below w.heap.size w w3):=by subst hw3; exact jJ (bw_alloc (bw_alloc HB2.out _) _)
 have HGE:Hid (w.heap.size ≤ w2.heap.size):=jJ HB2.out.size
 rw [← hw3]
 obtain ⟨b4,hb4⟩:=jX (w2.heap.size + 1)
 obtain ⟨gp,hgp⟩:=jX w2.heap.size
 rw [← hb4,← hgp] at K43
 rw [← hgp] at G3 HGE
 simp only [← hb4]
 simp only [← hgp]
 have HSO:Hid (Calls Tryz.prog 65 #[.pointer (some ⟨g,0,none⟩)] w3 (SPost w3 (m:Int) T)):=jJ (soupT_any g 0 m T w3 (by omega) (HT.out.below HB3.out).t.s)
 clear hw3 hb4 hgp HR2 HB2 hmk
 go_wp2_with fail
 refine HSO.out.mono ?_
 rintro e w4 ⟨A5,c5,rfl,hr,hb⟩
 have G4:=jJ (G3.out.below hb G3.out.lt)
 have K44:=jJ (K43.out.below hb K43.out.lt)
 have HR4:=jJ (HR3.out.below hb)
 have HB4:=jJ (bw_call HB3.out hb)
 have R54:=jJ hr
 clear hr hb HSO HR3 HB3 G3 K43
 go_upto_region 5 with (fail)
 obtain ⟨w5,hw5⟩:=jX (w4.alloc (.cells #[.int .i64 (m:Int),.slice A5 T.length c5] 24))
 have G5:Hid (Blk w5 gp 94 (madeCells #[.int .i64 0,.slice none 0 0,.slice none 0 0,.slice none 0 0] (np * 4))):=by subst hw5; exact jJ (G4.out.alloc _)
 have K45:Hid (Blk w5 b4 91 #[.slice (some ⟨gp,0,none⟩) np np]):=by subst hw5; exact jJ (K44.out.alloc _)
 have K55:Hid (Blk w5 w4.heap.size 24 #[.int .i64 (m:Int),.slice A5 T.length c5]):=by subst hw5; exact jJ (Blk.new _ _ _)
 have HR5:Hid (IR w5 w.heap.size A c (natL ((List.range T.length).map (ofN T)))):=by subst hw5; exact jJ (by rw [← ofL_nat]; exact HR4.out.alloc _)
 have HB5:Hid (Below w.heap.size w w5):=by subst hw5; exact jJ (bw_alloc HB4.out _)
 have R55:Hid (LRow w5 w3.heap.size A5 c5 T):=by subst hw5; exact jJ (R54.out.alloc _)
 obtain ⟨b5,hb5⟩:=jX w4.heap.size
 rw [← hb5] at K55
 rw [← hw5]
 simp only [← hb5]
 have HPA:Hid (PAt w5 gp np (fun k=>part0 (lstOf (ofL T) 0 k)) (fun _=>.slice none 0 0) w5):=jJ (start_parts G5.out)
 have HN4:Hid (b4 ≠ gp):=jJ (K45.out.ne_ G5.out (by decide))
 have HN5:Hid (b5 ≠ gp):=jJ (K55.out.ne_ G5.out (by decide))
 have HNR:Hid ((Value.slice A (natL ((List.range T.length).map (ofN T))).length c).ownBlock ≠ some gp):=jJ (own_blk_ne HR5.out G5.out (by decide))
 have HNT:Hid ((Value.slice A5 T.length c5).ownBlock ≠ some gp):=jJ (own_blk_ne R55.out G5.out (by decide))
 clear hw5 hb5 G4 K44 HR4 HB4 R54
 go_wp2_with fail
 go_loopw [7,8,28] (fun _ _ kv wr=>∃ (i:Nat) (v:Nat → Value),i ≤ T.length ∧ kv=.int .i64 (i:Int) ∧ Hid (PAt w5 gp np (fun k=>part0 (lstOf (ofL T) i k)) v wr)) (fun _ _ kv _=>T.length - (intOf kv).toNat)
 case atStart=>exact ⟨0,_,by omega,rfl,HPA⟩
 obtain ⟨i,v,hi,rfl,HPwE⟩:=hrel
 obtain ⟨wE,hwE⟩:=jX (wr:World)
 rw [← hwE] at HPwE ⊢
 clear hwE HPA
 by_cases hil:i < T.length
 · have hR:IR wE w.heap.size A c (natL ((List.range T.length).map (ofN T))):=own_only HR5.out HPwE.out.b HNR.out
   obtain ⟨gO,rfl,y⟩:=ir_at hR (show i < ((List.range T.length).map (ofN T)).length by simpa using hil)
   rw [ofN_getD T hil] at y
   obtain ⟨q,hq⟩:=jX (ofN T i)
   rw [← hq] at y
   have HQ:=jJ hq
   have hii:(i:Int) < (T.length:Int):=by omega
   have K4E:Hid (Blk wE b4 91 #[.slice (some ⟨gp,0,none⟩) np np]):=jJ (K45.out.only HPwE.out.b HN4.out)
   clear hR hq
   go_wp2_with fail
   refine (gather_any w5 wE gp np q i b4 (fun k=>part0 (lstOf (ofL T) i k)) v (by rw [HQ.out,HNP.out]; exact ofN_lt hil) (by omega) (by have:=lst_len (ofL T) i q; show (lstOf (ofL T) i q).length ≤ 1000; omega) HPwE.out K4E.out).mono ?_
   rintro e wF ⟨rfl,v',hp⟩
   have HPwF:Hid (PAt w5 gp np (fun k=>part0 (lstOf (ofL T) (i + 1) k)) v' wF):=jJ (by rw [← lst_step hil,← HQ.out]; exact hp)
   clear hp HPwE y K4E
   go_wp2_with fail
   go_roundw
   case rel=>exact ⟨i + 1,v',by omega,by go_num,HPwF⟩
   case measure=>simp [intOf]; omega
 obtain rfl:i=T.length:=by omega
 have HP2:Hid (PAt w5 gp np (p2 T 0) v wE):=jJ (by rw [p2_zero]; exact HPwE.out)
 have c4:=(K45.out.only HPwE.out.b HN4.out).cell 0
 simp at c4
 clear HPwE
 go_wp2_with fail
 go_loopw [9,10,12,14,15,16,17,40] (fun _ _ _ _ _ _ _ kv wr=>∃ (k:Nat) (v:Nat → Value),k ≤ np ∧ kv=.int .i64 (k:Int) ∧ Hid (PAt w5 gp np (p2 T k) v wr)) (fun _ _ _ _ _ _ _ kv _=>np - (intOf kv).toNat)
 case atStart=>exact ⟨0,v,by omega,rfl,HP2⟩
 clear HP2 c4
 obtain ⟨k,v,hk,rfl,HPwG⟩:=hrel
 obtain ⟨wG,hwG⟩:=jX (wr:World)
 rw [← hwG] at HPwG ⊢
 clear hwG
 by_cases hkl:k < np
 · obtain ⟨ad,rfl⟩:=lrow_some R55.out (by omega)
   obtain ⟨i1,hi1,iz0,iz1,iz2⟩:=info_parts int_infoC
   obtain ⟨l,hl⟩:=jX (lstOf (ofL T) T.length k)
   have hlp:0 < l.length:=by rw [hl]; exact lst_pos (by rw [← HNP.out]; exact hkl)
   have hln:l.length ≤ T.length:=by rw [hl]; exact lst_len _ _ _
   have HLT:Hid (∀ x ∈ l,x < T.length):=jJ fun x hx=>by rw [hl] at hx; exact lst_mem hx
   have HL:=jJ hl
   have hpk:p2 T k k=⟨0,[],[],l⟩:=by rw [p2_at,hl]; rfl
   have HPK:=jJ hpk
   have hr0:=HPwG.out.own k 2 hkl (by decide)
   rw [hpk] at hr0
   obtain ⟨gl,cl,hv2⟩:=own_shaped hr0 hlp
   replace hv2:v (3 * k + 2)=.slice (some ⟨gl,0,none⟩) l.length cl:=hv2
   have HV2:=jJ hv2
   have c4:=(K45.out.only HPwG.out.b HN4.out).cell 0
   simp at c4
   have cl3:wG.cell? ⟨gp,k * 4 + 3,none⟩=some (.slice (some ⟨gl,0,none⟩) l.length cl):=by rw [← hv2]; exact HPwG.out.cell hkl (by decide:2 < 3)
   have hki:(k:Int) < (np:Int):=by omega
   have HPI:Hid (PAt w5 gp np (updF (p2 T k) k ⟨0,[],vtx T (l.take 0),l⟩) v wG):=jJ (by
    have e:(⟨0,[],vtx T (l.take 0),l⟩:PartV)=p2 T k k:=by rw [hpk]; rfl
    rw [e,updF_self]; exact HPwG.out)
   clear hl hpk hr0 hv2 HPwG
   go_wp2_with fail
   go_loopw [12,51] (fun _ jv wr=>∃ (j:Nat) (v':Nat → Value),j ≤ l.length ∧ jv=.int .i64 (j:Int) ∧ Hid (v' (3 * k + 2)=.slice (some ⟨gl,0,none⟩) l.length cl) ∧ Hid (PAt w5 gp np (updF (p2 T k) k ⟨0,[],vtx T (l.take j),l⟩) v' wr)) (fun _ jv _=>l.length - (intOf jv).toNat)
   case atStart=>exact ⟨0,v,by omega,rfl,HV2,HPI⟩
   clear c4 cl3 HPI HV2
   obtain ⟨j,v',hj,rfl,HV2,HPwI⟩:=hrel
   obtain ⟨wI,hwI⟩:=jX (wr:World)
   rw [← hwI] at HPwI ⊢
   clear hwI
   by_cases hjl:j < l.length
   · obtain ⟨x,hx⟩:=jX (l.getD j 0)
     have hlx:l[j]?=some x:=by rw [hx,List.getD_eq_getElem?_getD,List.getElem?_eq_getElem hjl]; rfl
     have hxT:x < T.length:=HLT.out x (List.mem_of_getElem? hlx)
     have hrl:=HPwI.out.own k 2 hkl (by decide)
     rw [updF_at,HV2.out] at hrl
     have yl:=ir_cell (L:=l) (show IR wI w5.heap.size (some ⟨gl,0,none⟩) cl (natL l) by unfold IR; rw [natL_len]; exact hrl) hjl
     rw [← hx] at yl
     have htk:l.take (j + 1)=l.take j ++ [x]:=by
      obtain ⟨h1,h2⟩:=List.getElem?_eq_some_iff.1 hlx
      rw [List.take_succ_eq_append_getElem h1,h2]
     have HTK:=jJ htk
     have hrv:=HPwI.out.own k 1 hkl (by decide)
     rw [updF_at] at hrv
     obtain ⟨AV,cV,hvv,_⟩:=own_form hrv
     obtain ⟨nv,hnv⟩:=jX ((vtx T (l.take j)).length)
     replace hvv:v' (3 * k + 1)=.slice AV nv cV:=by rw [hvv,hnv]; rfl
     have hnv3:nv ≤ 3000:=by rw [hnv,vtx_len,List.length_take]; omega
     have hwv:wI.ownsRow w5.heap.size 3 1 (.slice AV nv cV) nv (ZL (vtx T (l.take j))):=by rw [hvv] at hrv; rw [hnv] at hrv ⊢; exact hrv
     have HNV:=jJ hnv
     have HVV:=jJ hvv
     have HWV:=jJ hwv
     have hR:LRow wI w3.heap.size (some ad) c5 T:=own_only R55.out HPwI.out.b HNT.out
     have TQ:=jJ (triQ_at hR hxT)
     have CVwI:Hid (CellQ wI ⟨gp,k * 4 + 2,none⟩ (.slice AV nv cV)):=jJ ⟨by rw [← hvv]; exact HPwI.out.cell hkl (by decide:1 < 3),HPwI.out.gp_lt⟩
     have k5:=K55.out.only HPwI.out.b HN5.out
     have C5wI:Hid (CellQ wI ⟨b5,1,none⟩ (.slice (some ad) T.length c5)):=jJ ⟨k5.cell 1,k5.lt⟩
     have HM5:Hid (some b5 ≠ (Value.slice AV nv cV).ownBlock):=jJ fun e=>own_blk_ne hwv k5 (by decide) e.symm
     have HMP:Hid (some gp ≠ (Value.slice AV nv cV).ownBlock):=jJ fun e=>HPwI.out.ne_gp (j:=3 * k + 1) (by omega) (by rw [hvv]; exact e.symm)
     have HSZ:=jJ HPwI.out.b.size
     have hji:(j:Int) < (l.length:Int):=by omega
     have hxi:(x:Int) < (T.length:Int):=by omega
     clear hx hlx hrl htk hrv hnv hvv hwv hR k5
     go_upto_region 17 with (fail)
     refine wp_region_till (S:=fun w'=>w'.cell? ⟨gp,k * 4 + 2,none⟩=some (.slice AV nv cV) ∧ w'.cell? ⟨b5,1,none⟩=some (.slice (some ad) T.length c5)) 13 (by kernel_rfl) ⟨(CVwI.out.drew.c),(C5wI.out.drew.c)⟩ (fun hHeld=>?_)
     refine tKk 0 ?_; (try simp only [zQ])
     refine tKk 1 ?_; (try simp only [zQ])
     refine tKk 2 ?_; (try simp only [zQ])
     refine tKk 3 ?_; (try simp only [zQ])
     refine tKk 4 ?_; (try simp only [zQ])
     refine tKk 5 ?_; (try simp only [zQ])
     refine tKk 6 ?_; (try simp only [zQ])
     refine tKk 7 ?_; (try simp only [zQ])
     refine tKk 8 ?_; (try simp only [zQ])
     refine tKk 9 ?_; (try simp only [zQ])
     refine Till.ready (rs:=[10]) (by kernel_rfl) (by simp) ?_
     refine TillEach.cons rfl (fun K hK=>?_) ?_
     · refine step_append_sl _ (by rfl) (.tmp 59) (.tmp 64) _ (by rfl) w5.heap.size 3 i1 _ 1 8 Tryz.underlying30 hi1 iz0 iz1 iz2 rfl (by omega) (.slice AV nv cV) nv (ZL (vtx T (l.take j))) (by rfl) HWV.out wI.heap.size (some (ad.add (x * 3))) 3 3 [.int .i64 (tri T x).a,.int .i64 (tri T x).b,.int .i64 (tri T x).c] (by rfl) (reads_tri TQ.out.drew) (by simp [Value.oneCell']) (by simp only [maxLen]; omega) (by omega) HSZ.out ?_
       intro A6 c6 v17 hown6 hg6 hat6
       have CVv17:Hid (CellQ v17 ⟨gp,k * 4 + 2,none⟩ (.slice AV nv cV)):=jJ ⟨(World.cell?_of_block (hg6.block gp CVwI.out.lt HMP.out)).trans CVwI.out.c,Nat.lt_of_lt_of_le CVwI.out.lt hg6.size⟩
       have C5v17:Hid (CellQ v17 ⟨b5,1,none⟩ (.slice (some ad) T.length c5)):=jJ ⟨(World.cell?_of_block (hg6.block b5 C5wI.out.lt HM5.out)).trans C5wI.out.c,Nat.lt_of_lt_of_le C5wI.out.lt hg6.size⟩
       have HO6:=jJ hown6
       have HG6:=jJ hg6
       have HA6:=jJ hat6
       have hfz:v17.frozen? ⟨gp,k * 4 + 2,none⟩=false:=(World.frozen?_of_block (hg6.block gp CVwI.out.lt HMP.out)).trans (HPwI.out.drew.frozen _)
       clear hown6 hg6 hat6
       refine hK.out _ _ ?_ (fun hHeld=>?_)
       · exact ⟨(CVv17.out.c),(C5v17.out.c)⟩
       clear hK K
       (try simp only [zQ])
       refine Till.takeP [12] (i:=11) (v:=?vt31) rfl (by kernel_rfl) (by kernel_rfl) (by kernel_rfl) (by kernel_rfl) (by kernel_rfl) (fun _ _ _ h=>h) (Or.inl ⟨by rfl,?ht31⟩) (by assumption) ?restt31
       case ht31=>(intro w h; (try dsimp only at h); go_simp; try with_reducible rfl)
       (try simp only [zQ])
       refine tKk 12 ?_; (try simp only [zQ])
       refine Till.ready (rs:=[13]) (by kernel_rfl) (by simp) ?_
       refine TillEach.last rfl (fun K hK=>?_)
       go_simp
       refine hK.out _ _ ?_
       clear hK K
       (try simp only [zQ])
       refine Till.done (by kernel_rfl) ?_ _
       have cp:=CVv17.out.c
       go_wp2_with fail
       go_roundw
       case rel =>
        refine ⟨j + 1,updF v' (3 * k + 1) (.slice A6 (nv + 3) c6),by omega,by go_num,jJ (by rw [updF_ne _ _ (by omega)]; exact HV2.out),jJ ?_⟩
        have ho:=HO6.out
        have hg:=HG6.out
        have ha:=HA6.out
        rw [← updF_upd (p2 T k) k ⟨0,[],vtx T (l.take j),l⟩]
        refine HPwI.out.swap hkl (r:=1) (by decide) (fun s hs hne=>?_) (by rw [updF_at]) (fun i hi hne=>?_) ?_ (fun y hy=>?_) ?_
        · rw [updF_at]
          rcases (by omega:s=0 ∨ s=2) with rfl | rfl <;> exact ⟨rfl,rfl⟩
        · exact hg.block i hi fun e=>hne (by rw [HVV.out]; exact e.symm)
        · have hx:rXp ⟨0,[],vtx T (l.take (j + 1)),l⟩ 1=ZL (vtx T (l.take j)) ++ [.int .i64 (tri T x).a,.int .i64 (tri T x).b,.int .i64 (tri T x).c]:=by
           show ZL (vtx T (l.take (j + 1)))=_
           rw [HTK.out,vtx_snoc]; simp [ZL]
          have hn:rKp ⟨0,[],vtx T (l.take (j + 1)),l⟩ 1=nv + 3:=by
           show (vtx T (l.take (j + 1))).length=_
           rw [HTK.out,vtx_snoc,List.length_append,HNV.out]; rfl
          rw [hx,hn]
          exact ho
        · rw [HVV.out]
          rcases ha with h | h
          · exact .inl (h ▸ hy)
          rw [h] at hy
          injection hy with hy
          exact .inr (Nat.le_of_eq hy)
        exact HPwI.out.b.drew.grown hg fun y hy=>.inr (HWV.out.lt y hy).1
       case measure=>simp [intOf]; omega
     exact TillEach.nil
   obtain rfl:j=l.length:=by omega
   obtain ⟨VX,hVX⟩:=jX (vtx T l)
   have HVX:=jJ hVX
   have hP0:PAt w5 gp np (updF (p2 T k) k ⟨0,[],VX,l⟩) v' wI:=by
    have h:=HPwI.out
    rw [List.take_length,← hVX] at h
    exact h
   obtain ⟨nv,hnv⟩:=jX VX.length
   have hnv3:nv=3 * l.length:=by rw [hnv,hVX,vtx_len]
   have hnvp:0 < nv ∧ nv ≤ 3000:=by omega
   have hrv:=hP0.own k 1 hkl (by decide)
   rw [updF_at] at hrv
   obtain ⟨gv,cV,hvv⟩:=own_shaped hrv (by show 0 < VX.length; omega)
   replace hvv:v' (3 * k + 1)=.slice (some ⟨gv,0,none⟩) nv cV:=by rw [hvv,hnv]; rfl
   have hwv:wI.ownsRow w5.heap.size 3 1 (.slice (some ⟨gv,0,none⟩) nv cV) nv (ZL VX):=by rw [hvv] at hrv; rw [hnv] at hrv ⊢; exact hrv
   have cv:wI.cell? ⟨gp,k * 4 + 2,none⟩=some (.slice (some ⟨gv,0,none⟩) nv cV):=by rw [← hvv]; exact hP0.cell hkl (by decide:1 < 3)
   have HP0:=jJ hP0
   have HNV:=jJ hnv
   have HVV:=jJ hvv
   have HSO:=jJ (sort_own wI w5.heap.size gv nv cV VX hwv (by omega))
   clear hP0 hnv hnv3 hrv hvv hwv HPwI hVX
   go_wp2_with fail
   refine HSO.out.mono ?_
   rintro e w6 ⟨rfl,ho6,hb6⟩
   have HP6:=jJ (HP0.out.turn hkl HVV.out (by rw [updF_at]; exact HNV.out.symm) (by rw [sortL_len]; exact HNV.out.symm) hnvp.1 ho6 hb6)
   have cv:w6.cell? ⟨gp,k * 4 + 2,none⟩=some (.slice (some ⟨gv,0,none⟩) nv cV):=by rw [← HVV.out]; exact HP6.out.cell hkl (by decide:1 < 3)
   have HCO:=jJ (compact_own w6 w5.heap.size gv nv cV VX ho6 (by omega))
   clear ho6 hb6 HSO HP0
   go_wp2_with fail
   refine HCO.out.mono ?_
   rintro e w7 ⟨rfl,Z,hz,ho7,hb7⟩
   have HP7:=jJ (HP6.out.turn hkl HVV.out (by rw [updF_at]; show (sortL VX).length=nv; rw [sortL_len]; exact HNV.out.symm) hz hnvp.1 ho7 hb7)
   obtain ⟨V,hV⟩:=jX (vsL VX)
   rw [← hV] at hz ho7 HP7 ⊢
   have HV:=jJ hV
   obtain ⟨nV,hnV⟩:=jX V.length
   have hnVn:nV ≤ nv:=by rw [hnV,← hz,List.length_append]; exact Nat.le_add_right _ _
   have HNW:=jJ hnV
   have HCL:=jJ (clone_own w7 w5.heap.size gv nv cV nV (V ++ Z) ho7 (by omega) hnVn)
   have HTV:Hid ((V ++ Z).take nV=V):=jJ (by rw [hnV]; exact List.take_left)
   rw [← hnV]
   clear hz ho7 hb7 HCO HP6 hV hnV cv
   go_wp2_with fail
   refine HCL.out.mono ?_
   rintro e w8 ⟨v9,rfl,ho8,hb8⟩
   rw [HTV.out] at ho8
   obtain ⟨A9,c9,rfl,_⟩:=own_form ho8
   have cp8:=(HP7.out.below hb8).cell hkl (by decide:1 < 3)
   have cf8:=(HP7.out.below hb8).frozen (k * 4 + 2)
   rw [HVV.out] at cp8
   replace cp8:w8.cell? ⟨gp,k * 4 + 2,none⟩=some (.slice (some ⟨gv,0,none⟩) nv cV):=cp8
   have HP8:=jJ (HP7.out.moved hkl HNW.out.symm ho8 hb8)
   clear ho8 hb8 HCL HP7 HTV
   go_upto_region 21 with (fail)
   obtain ⟨w9,hw9⟩:=jX (w8.setCell ⟨gp,k * 4 + 2,none⟩ (.slice A9 nV c9))
   rw [← hw9] at HP8 ⊢
   clear hw9 cp8 cf8
   have hVp:0 < nV:=by rw [HNW.out,HV.out]; exact vsL_pos (by have:=HNV.out; omega)
   have hr9:=HP8.out.own k 1 hkl (by decide)
   rw [updF_at] at hr9
   obtain ⟨g9,c9',he9⟩:=own_shaped hr9 (by rw [updF_at]; show 0 < V.length; rw [← HNW.out]; exact hVp)
   rw [updF_at] at he9
   replace he9:Value.slice A9 nV c9=.slice (some ⟨g9,0,none⟩) V.length c9':=he9
   have heA:A9=some ⟨g9,0,none⟩:=by injection he9
   rw [heA] at HP8
   obtain ⟨v9,hv9⟩:=jX (updF v' (3 * k + 1) (.slice (some ⟨g9,0,none⟩) nV c9))
   have HW1:Hid (v9 (3 * k + 1)=.slice (some ⟨g9,0,none⟩) nV c9):=jJ (by rw [hv9,updF_at])
   have HW2:Hid (v9 (3 * k + 2)=.slice (some ⟨gl,0,none⟩) l.length cl):=jJ (by rw [hv9,updF_ne _ _ (by omega)]; exact HV2.out)
   have HP9:Hid (PAt w5 gp np (updF (p2 T k) k ⟨0,[],V,l⟩) v9 w9):=by
    have h:=HP8.out
    rw [← hv9] at h
    simp only [updF_upd,updF_at] at h
    exact jJ h
   clear hr9 he9 heA hv9 HP8
   have cp:w9.cell? ⟨gp,k * 4 + 2,none⟩=some (.slice (some ⟨g9,0,none⟩) nV c9):=by rw [← HW1.out]; exact HP9.out.cell hkl (by decide:1 < 3)
   have cn:w9.cell? ⟨gp,k * 4,none⟩=some (.int .i64 0):=by have h:=HP9.out.cellN hkl; rw [updF_at] at h; exact h
   have cf:=HP9.out.frozen (k * 4)
   have HP10:Hid (PAt w5 gp np (updF (p2 T k) k ⟨(nV:Int),(l.take 0).map (fun x=>renT V (tri T x)),V,l⟩) v9 (w9.setCell ⟨gp,k * 4,none⟩ (.int .i64 (nV:Int)))):=by
    have h:=HP9.out.setN hkl (nV:Int)
    simp only [updF_upd,updF_at] at h
    exact jJ h
   go_upto_region 22 with (fail)
   generalize w9.setCell ⟨gp,k * 4,none⟩ (.int .i64 (nV:Int))=wH at *
   have cl3:wH.cell? ⟨gp,k * 4 + 3,none⟩=some (.slice (some ⟨gl,0,none⟩) l.length cl):=by rw [← HW2.out]; exact HP10.out.cell hkl (by decide:2 < 3)
   clear cp cn cf HP9
   go_wp2_with fail
   go_loopw [14,15,16,17,97] (fun _ _ _ _ jv wr=>∃ (j:Nat) (v':Nat → Value),j ≤ l.length ∧ jv=.int .i64 (j:Int) ∧ Hid (v' (3 * k + 1)=.slice (some ⟨g9,0,none⟩) nV c9) ∧ Hid (v' (3 * k + 2)=.slice (some ⟨gl,0,none⟩) l.length cl) ∧ Hid (PAt w5 gp np (updF (p2 T k) k ⟨(nV:Int),(l.take j).map (fun x=>renT V (tri T x)),V,l⟩) v' wr)) (fun _ _ _ _ jv _=>l.length - (intOf jv).toNat)
   case atStart=>exact ⟨0,v9,by omega,rfl,HW1,HW2,HP10⟩
   clear HW1 HW2 cl3 HP10 HV2 HVV
   obtain ⟨j,v',hj,rfl,HW1,HW2,HPwK⟩:=hrel
   obtain ⟨wK,hwK⟩:=jX (wr:World)
   rw [← hwK] at HPwK ⊢
   clear hwK
   by_cases hjl:j < l.length
   · obtain ⟨x,hx⟩:=jX (l.getD j 0)
     have hlx:l[j]?=some x:=by rw [hx,List.getD_eq_getElem?_getD,List.getElem?_eq_getElem hjl]; rfl
     have hxl:x ∈ l:=List.mem_of_getElem? hlx
     have hxT:x < T.length:=HLT.out x hxl
     have hrl:=HPwK.out.own k 2 hkl (by decide)
     rw [updF_at,HW2.out] at hrl
     have yl:=ir_cell (L:=l) (show IR wK w5.heap.size (some ⟨gl,0,none⟩) cl (natL l) by unfold IR; rw [natL_len]; exact hrl) hjl
     rw [← hx] at yl
     have htk:l.take (j + 1)=l.take j ++ [x]:=by
      obtain ⟨h1,h2⟩:=List.getElem?_eq_some_iff.1 hlx
      rw [List.take_succ_eq_append_getElem h1,h2]
     have HTK:=jJ htk
     have hji:(j:Int) < (l.length:Int):=by omega
     have hxi:(x:Int) < (T.length:Int):=by omega
     obtain ⟨t,ht⟩:=jX (tri T x)
     have HM:Hid (t.a ∈ V ∧ t.b ∈ V ∧ t.c ∈ V):=jJ (by
      rw [ht,HV.out,mem_vsL,mem_vsL,mem_vsL,HVX.out]
      exact vtx_mem hxl)
     have HT3:=jJ ht
     clear hx hlx hrl htk hxl
     go_upto_region 26 with (fail)
     obtain ⟨r0,hr0⟩:=jX (wK.alloc (.cells #[.int .i64 0,.int .i64 0,.int .i64 0] 65))
     have KXr0:Hid (Blk r0 wK.heap.size 65 #[.int .i64 0,.int .i64 0,.int .i64 0]):=by subst hr0; exact jJ (Blk.new _ _ _)
     have HPr0:Hid (PAt w5 gp np (updF (p2 T k) k ⟨(nV:Int),(l.take j).map (fun x=>renT V (tri T x)),V,l⟩) v' r0):=by subst hr0; exact jJ (HPwK.out.alloc _)
     have HNX:Hid (∀ q,q < 3 * np → (v' q).ownBlock ≠ some wK.heap.size):=jJ fun q hq e=>Nat.lt_irrefl _ (HPwK.out.lt hq e).2
     have HGX:Hid (wK.heap.size ≠ gp ∧ w5.heap.size ≤ wK.heap.size):=jJ ⟨fun e=>Nat.lt_irrefl _ (e ▸ HPwK.out.gp_lt),HPwK.out.b.size⟩
     rw [← hr0]
     obtain ⟨bx,hbx⟩:=jX wK.heap.size
     rw [← hbx] at KXr0 HNX HGX
     simp only [← hbx]
     have hR:LRow r0 w3.heap.size (some ad) c5 T:=own_only R55.out HPr0.out.b HNT.out
     have tq:=triQ_at hR hxT
     rw [← ht] at tq
     have k5:=K55.out.only HPr0.out.b HN5.out
     have c51:r0.cell? ⟨b5,1,none⟩=some (.slice (some ad) T.length c5):=k5.cell 1
     have d0:=tq.c.c0
     have d1:=tq.c.c1
     have d2:=tq.c.c2
     have e0:=tq.c.f0
     have e1:=tq.c.f1
     have e2:=tq.c.f2
     clear hr0 hbx yl HPwK hR tq k5 ht
     go_wp2_with fail
     refine wp_loop_rounds 4 ?_
     rw [rounds_succ]
     clear c51 d0 d1 d2 e0 e1 e2
     have ix0:∀ w,(Instr.index 65 (.agg #[.int .i64 t.a,.int .i64 t.b,.int .i64 t.c]) (.int .i64 0)).run Tryz.prog w=.ok (.int .i64 t.a) w:=fun _=>by kernel_rfl
     have ix1:∀ w,(Instr.index 65 (.agg #[.int .i64 t.a,.int .i64 t.b,.int .i64 t.c]) (.int .i64 1)).run Tryz.prog w=.ok (.int .i64 t.b) w:=fun _=>by kernel_rfl
     have ix2:∀ w,(Instr.index 65 (.agg #[.int .i64 t.a,.int .i64 t.b,.int .i64 t.c]) (.int .i64 2)).run Tryz.prog w=.ok (.int .i64 t.c) w:=fun _=>by kernel_rfl
     go_upto_region 28 with (fail)
     have cp0:r0.cell? ⟨gp,k * 4 + 2,none⟩=some (.slice (some ⟨g9,0,none⟩) nV c9):=by rw [← HW1.out]; exact HPr0.out.cell hkl (by decide:1 < 3)
     have hrow0:r0.ownsRow w5.heap.size 3 1 (.slice (some ⟨g9,0,none⟩) nV c9) nV (ZL V):=by
      have h:=HPr0.out.own k 1 hkl (by decide)
      rw [updF_at,HW1.out] at h
      rw [HNW.out] at h ⊢
      exact h
     have HS0:=jJ (search_own r0 w5.heap.size g9 nV c9 V t.a hrow0 (by omega) (by rw [HV.out]; exact vsL_up _) HM.out.1)
     clear hrow0
     go_wp2_with fail
     refine HS0.out.mono ?_
     rintro e q0 ⟨rfl,hb⟩
     have HPq0:=jJ (HPr0.out.below hb)
     have KXq0:=jJ (blk_call KXr0.out hb)
     obtain ⟨z0,hz0⟩:=jX ((V.idxOf t.a:Int))
     rw [← hz0]
     have HZ0:=jJ hz0
     have xf:=KXq0.out.frozen 0
     have xc:q0.cell? ⟨bx,0,none⟩=some (.int .i64 0):=KXq0.out.cell 0
     have hk':=KXq0.out.set_ 0 (.int .i64 z0)
     simp only [List.setIfInBounds_toArray,List.set_cons_zero,List.set_cons_succ] at hk'
     obtain ⟨r1,hr1⟩:=jX (q0.setCell ⟨bx,0,none⟩ (.int .i64 z0))
     rw [← hr1] at hk'
     have KXr1:Hid (Blk r1 bx 65 #[.int .i64 z0,.int .i64 0,.int .i64 0]):=jJ hk'
     have HPr1:Hid (PAt w5 gp np (updF (p2 T k) k ⟨(nV:Int),(l.take j).map (fun x=>renT V (tri T x)),V,l⟩) v' r1):=by subst hr1; exact jJ (HPq0.out.farX HNX.out HGX.out.1 HGX.out.2 _)
     clear hb HS0 HPr0 KXr0 cp0 HPq0 KXq0 hz0 hk'
     go_wp2_with fail
     rw [rounds_succ]
     go_upto_region 28 with (fail)
     rw [← hr1]
     clear hr1 xf xc
     have cp1:r1.cell? ⟨gp,k * 4 + 2,none⟩=some (.slice (some ⟨g9,0,none⟩) nV c9):=by rw [← HW1.out]; exact HPr1.out.cell hkl (by decide:1 < 3)
     have hrow1:r1.ownsRow w5.heap.size 3 1 (.slice (some ⟨g9,0,none⟩) nV c9) nV (ZL V):=by
      have h:=HPr1.out.own k 1 hkl (by decide)
      rw [updF_at,HW1.out] at h
      rw [HNW.out] at h ⊢
      exact h
     have HS1:=jJ (search_own r1 w5.heap.size g9 nV c9 V t.b hrow1 (by omega) (by rw [HV.out]; exact vsL_up _) HM.out.2.1)
     clear hrow1
     go_wp2_with fail
     refine HS1.out.mono ?_
     rintro e q1 ⟨rfl,hb⟩
     have HPq1:=jJ (HPr1.out.below hb)
     have KXq1:=jJ (blk_call KXr1.out hb)
     obtain ⟨z1,hz1⟩:=jX ((V.idxOf t.b:Int))
     rw [← hz1]
     have HZ1:=jJ hz1
     have xf:=KXq1.out.frozen 1
     have xc:q1.cell? ⟨bx,1,none⟩=some (.int .i64 0):=KXq1.out.cell 1
     have hk':=KXq1.out.set_ 1 (.int .i64 z1)
     simp only [List.setIfInBounds_toArray,List.set_cons_zero,List.set_cons_succ] at hk'
     obtain ⟨r2,hr2⟩:=jX (q1.setCell ⟨bx,1,none⟩ (.int .i64 z1))
     rw [← hr2] at hk'
     have KXr2:Hid (Blk r2 bx 65 #[.int .i64 z0,.int .i64 z1,.int .i64 0]):=jJ hk'
     have HPr2:Hid (PAt w5 gp np (updF (p2 T k) k ⟨(nV:Int),(l.take j).map (fun x=>renT V (tri T x)),V,l⟩) v' r2):=by subst hr2; exact jJ (HPq1.out.farX HNX.out HGX.out.1 HGX.out.2 _)
     clear hb HS1 HPr1 KXr1 cp1 HPq1 KXq1 hz1 hk'
     go_wp2_with fail
     rw [rounds_succ]
     go_upto_region 28 with (fail)
     rw [← hr2]
     clear hr2 xf xc
     have cp2:r2.cell? ⟨gp,k * 4 + 2,none⟩=some (.slice (some ⟨g9,0,none⟩) nV c9):=by rw [← HW1.out]; exact HPr2.out.cell hkl (by decide:1 < 3)
     have hrow2:r2.ownsRow w5.heap.size 3 1 (.slice (some ⟨g9,0,none⟩) nV c9) nV (ZL V):=by
      have h:=HPr2.out.own k 1 hkl (by decide)
      rw [updF_at,HW1.out] at h
      rw [HNW.out] at h ⊢
      exact h
     have HS2:=jJ (search_own r2 w5.heap.size g9 nV c9 V t.c hrow2 (by omega) (by rw [HV.out]; exact vsL_up _) HM.out.2.2)
     clear hrow2
     go_wp2_with fail
     refine HS2.out.mono ?_
     rintro e q2 ⟨rfl,hb⟩
     have HPq2:=jJ (HPr2.out.below hb)
     have KXq2:=jJ (blk_call KXr2.out hb)
     obtain ⟨z2,hz2⟩:=jX ((V.idxOf t.c:Int))
     rw [← hz2]
     have HZ2:=jJ hz2
     have xf:=KXq2.out.frozen 2
     have xc:q2.cell? ⟨bx,2,none⟩=some (.int .i64 0):=KXq2.out.cell 2
     have hk':=KXq2.out.set_ 2 (.int .i64 z2)
     simp only [List.setIfInBounds_toArray,List.set_cons_zero,List.set_cons_succ] at hk'
     obtain ⟨r3,hr3⟩:=jX (q2.setCell ⟨bx,2,none⟩ (.int .i64 z2))
     rw [← hr3] at hk'
     have KXr3:Hid (Blk r3 bx 65 #[.int .i64 z0,.int .i64 z1,.int .i64 z2]):=jJ hk'
     have HPr3:Hid (PAt w5 gp np (updF (p2 T k) k ⟨(nV:Int),(l.take j).map (fun x=>renT V (tri T x)),V,l⟩) v' r3):=by subst hr3; exact jJ (HPq2.out.farX HNX.out HGX.out.1 HGX.out.2 _)
     clear hb HS2 HPr2 KXr2 cp2 HPq2 KXq2 hz2 hk'
     go_wp2_with fail
     rw [rounds_succ]
     go_upto_region 31 with (fail)
     rw [← hr3]
     clear hr3 xf xc
     clear ix0 ix1 ix2
     obtain ⟨i2,hi2,jz0,jz1,jz2⟩:=info_parts tri_info47
     have hrt:=HPr3.out.own k 0 hkl (by decide)
     rw [updF_at] at hrt
     obtain ⟨AT,cT,hvt,_⟩:=own_form hrt
     obtain ⟨nT,hnT⟩:=jX (((l.take j).map (fun x=>renT V (tri T x))).length)
     replace hvt:v' (3 * k + 0)=.slice AT nT cT:=by rw [hvt,hnT]; rfl
     have hnT1:nT ≤ 1000:=by rw [hnT,List.length_map,List.length_take]; omega
     have hwt:r3.ownsRow w5.heap.size 65 3 (.slice AT nT cT) nT (((l.take j).map (fun x=>renT V (tri T x))).flatMap Tri.cells):=by rw [hvt] at hrt; rw [hnT] at hrt ⊢; exact hrt
     have HNT2:=jJ hnT
     have HVT:=jJ hvt
     have HWT:=jJ hwt
     have CPr3:Hid (CellQ r3 ⟨gp,k * 4 + 1,none⟩ (.slice AT nT cT)):=jJ ⟨by rw [← hvt]; exact HPr3.out.cell hkl (by decide:0 < 3),HPr3.out.gp_lt⟩
     have HMP:Hid (some gp ≠ (Value.slice AT nT cT).ownBlock):=jJ fun e=>HPr3.out.ne_gp (j:=3 * k + 0) (by omega) (by rw [hvt]; exact e.symm)
     have HMX:Hid (some bx ≠ (Value.slice AT nT cT).ownBlock):=jJ fun e=>HNX.out (3 * k + 0) (by omega) (by rw [hvt]; exact e.symm)
     have HSZ:=jJ HPr3.out.b.size
     clear hrt hvt hnT hwt
     refine wp_region_till (S:=fun w'=>w'.cell? ⟨gp,k * 4 + 1,none⟩=some (.slice AT nT cT) ∧ w'.cell? ⟨bx,0,none⟩=some (.int .i64 z0) ∧ w'.cell? ⟨bx,1,none⟩=some (.int .i64 z1) ∧ w'.cell? ⟨bx,2,none⟩=some (.int .i64 z2)) 12 (by kernel_rfl) ⟨(CPr3.out.drew.c),(KXr3.out.drew.cell 0),(KXr3.out.drew.cell 1),(KXr3.out.drew.cell 2)⟩ (fun hHeld=>?_)
     refine tKk 0 ?_; (try simp only [zQ])
     refine tKk 1 ?_; (try simp only [zQ])
     refine tKk 2 ?_; (try simp only [zQ])
     refine tKk 3 ?_; (try simp only [zQ])
     refine tKk 4 ?_; (try simp only [zQ])
     refine tKk 5 ?_; (try simp only [zQ])
     refine tKk 6 ?_; (try simp only [zQ])
     refine Till.ready (rs:=[7]) (by kernel_rfl) (by simp) ?_
     refine TillEach.cons rfl (fun K hK=>?_) ?_
     · go_simp
       go_wp2_with fail
       obtain ⟨v31,hvU⟩:=jX ((r3.alloc (.cells #[.int .i64 z0,.int .i64 z1,.int .i64 z2] 65)).drew)
       have CPv31:=jJ (CPr3.out.below (bw_drew (bw_alloc (Below.refl _ _) (.cells #[.int .i64 z0,.int .i64 z1,.int .i64 z2] 65))))
       have KXv31:=jJ (KXr3.out.alloc (.cells #[.int .i64 z0,.int .i64 z1,.int .i64 z2] 65)).drew
       rw [← hvU] at CPv31 KXv31 ⊢
       have HUv31:=jJ hvU
       clear hvU
       refine hK.out _ _ ?_ (fun hHeld=>?_)
       · exact ⟨(CPv31.out.c),(KXv31.out.cell 0),(KXv31.out.cell 1),(KXv31.out.cell 2)⟩
       clear hK K
       (try simp only [zQ])
       refine Till.ready (rs:=[8]) (by kernel_rfl) (by simp) ?_
       refine TillEach.cons rfl (fun K hK=>?_) ?_
       · refine step_append_sl _ (by rfl) (.tmp 127) (.tmp 129) _ (by rfl) w5.heap.size 65 i2 _ 3 24 Tryz.underlying22 hi2 jz0 jz1 jz2 rfl (by omega) (.slice AT nT cT) nT (((l.take j).map (fun x=>renT V (tri T x))).flatMap Tri.cells) (by rfl) (by rw [HUv31.out]; exact own_same HWT.out fun y hy=>Below.heap_alloc _ _ _ (HWT.out.lt y hy).2) (r3.heap.size + 1) (some ⟨r3.heap.size,0,none⟩) 1 1 [.int .i64 z0,.int .i64 z1,.int .i64 z2] (by rfl) (by rw [HUv31.out]; exact (reads_newN r3 #[.int .i64 z0,.int .i64 z1,.int .i64 z2] 65 1 3 rfl rfl).keep fun _ _=>World.cell?_of_block rfl) (by simp [Value.oneCell']) (by simp only [maxLen]; omega) (by omega) (by rw [HUv31.out]; show w5.heap.size ≤ (r3.alloc _).heap.size; rw [World.size_alloc]; exact Nat.le_succ_of_le HSZ.out) ?_
         intro A6 c6 v32 hown6 hg6 hat6
         have CPv32:Hid (CellQ v32 ⟨gp,k * 4 + 1,none⟩ (.slice AT nT cT)):=jJ ⟨(World.cell?_of_block (hg6.block gp CPv31.out.lt HMP.out)).trans CPv31.out.c,Nat.lt_of_lt_of_le CPv31.out.lt hg6.size⟩
         have KXv32:=jJ (KXv31.out.grown hg6 HMX.out)
         have HO6:=jJ hown6
         have HG6:=jJ hg6
         have HA6:=jJ hat6
         have hfz:v32.frozen? ⟨gp,k * 4 + 1,none⟩=false:=(World.frozen?_of_block (hg6.block gp CPv31.out.lt HMP.out)).trans (by rw [HUv31.out]; exact (HPr3.out.alloc _).drew.frozen _)
         clear hown6 hg6 hat6
         refine hK.out _ _ ?_ (fun hHeld=>?_)
         · exact ⟨(CPv32.out.c),(KXv32.out.cell 0),(KXv32.out.cell 1),(KXv32.out.cell 2)⟩
         clear hK K
         (try simp only [zQ])
         refine Till.takeP [11,10] (i:=9) (v:=?vt18) rfl (by kernel_rfl) (by kernel_rfl) (by kernel_rfl) (by kernel_rfl) (by kernel_rfl) (fun _ _ _ h=>h) (Or.inl ⟨by rfl,?ht18⟩) (by assumption) ?restt18
         case ht18=>(intro w h; (try dsimp only at h); go_simp; try with_reducible rfl)
         (try simp only [zQ])
         refine Till.takeP [11] (i:=10) (v:=?vt19) rfl (by kernel_rfl) (by kernel_rfl) (by kernel_rfl) (by kernel_rfl) (by kernel_rfl) (fun _ _ _ h=>h) (Or.inl ⟨by rfl,?ht19⟩) (by assumption) ?restt19
         case ht19=>(intro w h; (try dsimp only at h); go_simp; try with_reducible rfl)
         (try simp only [zQ])
         refine tKk 11 ?_; (try simp only [zQ])
         refine Till.ready (rs:=[12]) (by kernel_rfl) (by simp) ?_
         refine TillEach.last rfl (fun K hK=>?_)
         go_simp
         refine hK.out _ _ ?_
         clear hK K
         (try simp only [zQ])
         refine Till.done (by kernel_rfl) ?_ _
         have cp:=CPv32.out.c
         go_wp2_with fail
         go_roundw
         case rel =>
          refine ⟨j + 1,updF v' (3 * k + 0) (.slice A6 (nT + 1) c6),by omega,by go_num,jJ (by rw [updF_ne _ _ (by omega)]; exact HW1.out),jJ (by rw [updF_ne _ _ (by omega)]; exact HW2.out),jJ ?_⟩
          have ho:=HO6.out
          have hg:=HG6.out
          have ha:=HA6.out
          rw [HUv31.out] at hg ha
          rw [← updF_upd (p2 T k) k ⟨(nV:Int),(l.take j).map (fun x=>renT V (tri T x)),V,l⟩]
          refine HPr3.out.swap hkl (r:=0) (by decide) (fun s hs hne=>?_) (by rw [updF_at]) (fun i hi hne=>?_) ?_ (fun y hy=>?_) ?_
          · rw [updF_at]
            rcases (by omega:s=1 ∨ s=2) with rfl | rfl <;> exact ⟨rfl,rfl⟩
          · rw [hg.block i (by show i < (r3.alloc _).heap.size; rw [World.size_alloc]; exact Nat.lt_succ_of_lt hi) (fun e=>hne (by rw [HVT.out]; exact e.symm))]
            exact Below.heap_alloc _ _ _ hi
          · have hx:rXp ⟨(nV:Int),(l.take (j + 1)).map (fun x=>renT V (tri T x)),V,l⟩ 0=((l.take j).map (fun x=>renT V (tri T x))).flatMap Tri.cells ++ [.int .i64 z0,.int .i64 z1,.int .i64 z2]:=by
             show ((l.take (j + 1)).map (fun x=>renT V (tri T x))).flatMap Tri.cells=_
             rw [HTK.out,List.map_append,List.flatMap_append,HZ0.out,HZ1.out,HZ2.out,HT3.out]; simp [Tri.cells,renT]
            have hn:rKp ⟨(nV:Int),(l.take (j + 1)).map (fun x=>renT V (tri T x)),V,l⟩ 0=nT + 1:=by
             show ((l.take (j + 1)).map (fun x=>renT V (tri T x))).length=_
             rw [HTK.out,List.map_append,List.length_append,HNT2.out]; rfl
            rw [hx,hn]
            exact ho
          · rw [HVT.out]
            rcases ha with h | h
            · exact .inl (h ▸ hy)
            rw [h] at hy
            replace hy:some (r3.alloc (.cells #[.int .i64 z0,.int .i64 z1,.int .i64 z2] 65)).heap.size=some y:=hy
            rw [World.size_alloc] at hy
            injection hy with hy
            exact .inr (by rw [← hy]; exact Nat.le_succ _)
          exact (HPr3.out.b.alloc _).drew.grown hg fun y hy=>.inr (HWT.out.lt y hy).1
         case measure=>simp [intOf]; omega
       exact TillEach.nil
     exact TillEach.nil
   obtain rfl:j=l.length:=by omega
   have HPN:Hid (PAt w5 gp np (p2 T (k + 1)) v' wK):=by
    have h:=HPwK.out
    have e:(⟨(nV:Int),(l.take l.length).map (fun x=>renT V (tri T x)),V,l⟩:PartV)=partOf T k:=by
     unfold partOf
     rw [List.take_length,HNW.out,HV.out,HVX.out,HL.out]
    rw [e,p2_next] at h
    exact jJ h
   clear HPwK HW1 HW2
   go_wp2_with fail
   go_roundw
   case rel=>exact ⟨k + 1,v',by omega,by go_num,HPN⟩
   case measure=>simp [intOf]; omega
 obtain rfl:k=np:=by omega
 have c4:=(K45.out.only HPwG.out.b HN4.out).cell 0
 simp at c4
 have hend:∃ (w0:World) (gp:Nat) (v:Nat → Value),Below w.heap.size w w0 ∧ w.heap.size ≤ gp ∧ PAt w0 gp (kN T) (partOf T) v wG:=⟨w5,gp,v,HB5.out,HGE.out,by rw [← HNP.out]; exact HPwG.out.congr fun i hi=>if_pos hi⟩
 by_cases h0:k=0
 · have hz:((k:Int) == 0)=true:=by rw [h0]; rfl
   have HK:Hid (kN T=0):=jJ (by rw [← HNP.out]; exact h0)
   have HE:=jJ hend
   clear hend h0
   go_wp2_with fail
   obtain ⟨w0,gp',v',h1,h2,h3⟩:=HE.out
   refine bodyPost_ret (v:=.slice none 0 0) ?_ rfl ⟨w0,gp',v',by rw [if_pos HK.out],h1,h2,h3⟩
   simp [results,Tryz.results38,go_sem]
 have hz:((k:Int) == 0)=false:=by rw [beq_eq_false_iff_ne]; omega
 have HK:Hid (kN T=k):=jJ HNP.out.symm
 have HPE:Hid (PAt w5 gp (kN T) (partOf T) v wG):=jJ (by rw [← HNP.out]; exact HPwG.out.congr fun i hi=>if_pos hi)
 have HK0:Hid (kN T ≠ 0):=jJ (by rw [← HNP.out]; exact h0)
 clear hend h0
 go_wp2_with fail
 refine bodyPost_ret (v:=.slice (some ⟨gp,0,none⟩) k k) ?_ rfl ⟨w5,gp,v,by rw [if_neg HK0.out,HK.out],HB5.out,HGE.out,HPE.out⟩
 simp [results,Tryz.results38,go_sem]
end
section
def kindsL (T:List Tri) (j:Nat):List KindV:=(List.range j).map fun k=>kindV (partOf T k)
theorem kindsL_len (T:List Tri) (j:Nat):(kindsL T j).length=j:=by simp [kindsL]
theorem kindsL_succ (T:List Tri) (j:Nat):kindsL T (j + 1)=kindsL T j ++ [kindV (partOf T j)]:=by
 unfold kindsL
 rw [List.range_succ,List.map_append]
 rfl
def PartsOk (T:List Tri):Prop:=∀ k,k < kN T → checkR (partOf T k).n (partOf T k).t=(0,0,0) ∧ kN (partOf T k).t=1
def KindsYes (w:World) (T:List Tri) (e:Ending) (w':World):Prop :=
 ∃ (A:Option Addr) (c:Nat),e=.returned (.tuple #[.slice A (kN T) c,.bool true]) ∧ KindsAt w' w.heap.size A c (kindsL T (kN T)) ∧ Below w.heap.size w w'
theorem kind_info47:(Tryz.prog.info? 97).map (fun i=>(i.zero,i.size,i.bytes))=some (some (.agg #[.int .i64 0,.slice none 0 0,.slice none 0 0]),3,56):=by kernel_rfl
attribute [local irreducible] Blk World.alloc World.setCell World.cell? World.frozen? MapV MapI
theorem kindsYes_any (m:Nat) (A:Option Addr) (c:Nat) (T:List Tri) (w:World) (hs:checkR (m:Int) T=(0,0,0)) (hn:T.length ≤ 1000) (hp:PartsOk T) (ht:TrisAt w w.heap.size A T.length T) :
  Calls Tryz.prog 21 #[.agg #[.int .i64 (m:Int),.slice A T.length c]] w (KindsYes w T):=by
 have HT:=jJ ht
 have HS:=jJ hs
 have HP:=jJ hp
 clear ht hs hp
 obtain ⟨i3,hi3,jz0,jz1,jz2⟩:=info_parts kind_info47
 go_enter Tryz.func21,Tryz.ntmps21
 go_upto_region 1 with (fail)
 obtain ⟨wA,hwA⟩:=jX (w.alloc (.cells #[.int .i64 (m:Int),.slice A T.length c] 24))
 have K1A:Hid (Blk wA w.heap.size 24 #[.int .i64 (m:Int),.slice A T.length c]):=by subst hwA; exact jJ (Blk.new _ _ _)
 have HBA:Hid (Below w.heap.size w wA):=by subst hwA; exact jJ (bw_alloc (Below.refl _ _) _)
 rw [← hwA]
 have HIS:=jJ (is_any (m:Int) A T.length c T wA hn (tris_on HBA.out HT.out))
 obtain ⟨b1,hb1⟩:=jX w.heap.size
 rw [← hb1] at K1A
 simp only [← hb1]
 have p0:wA.cell? ⟨b1,0,none⟩=some (.int .i64 (m:Int)):=K1A.out.cell 0
 have p1:wA.cell? ⟨b1,1,none⟩=some (.slice A T.length c):=K1A.out.cell 1
 clear hwA hb1
 go_wp2_with fail
 refine HIS.out.mono ?_
 rintro e w1 ⟨rfl,hb⟩
 rw [decide_eq_true HS.out]
 have K11:=jJ (K1A.out.below hb K1A.out.lt)
 have HB1:=jJ (bw_call HBA.out hb)
 clear hb HIS K1A HBA p0 p1
 have HNE:=jJ (new_any (m:Int) A T.length c T w1 hn (tris_on HB1.out HT.out))
 have p0:w1.cell? ⟨b1,0,none⟩=some (.int .i64 (m:Int)):=K11.out.cell 0
 have p1:w1.cell? ⟨b1,1,none⟩=some (.slice A T.length c):=K11.out.cell 1
 go_wp2_with fail
 refine HNE.out.mono ?_
 rintro e w2 hpost
 rcases hpost with ⟨_,g,rfl,htab,hb⟩ | ⟨hne,_⟩
 case inr=>exact absurd HS.out hne
 rw [show wv (0,0,0)=.agg #[.int .i64 0,.int .i64 0,.int .i64 0] from rfl]
 have HT2:Hid (TabN w2 g m T):=jJ ⟨htab.base (Nat.zero_le _),surf_chk47 HS.out,hn⟩
 have HB2:=jJ (bw_call HB1.out hb)
 clear htab hb HNE K11 HB1 p0 p1
 go_upto_region 5 with (fail)
 obtain ⟨w3,hw3⟩:=jX (w2.alloc (.cells #[.int .i64 0,.int .i64 0,.int .i64 0] 39))
 have HT3:Hid (TabN w3 g m T):=by subst hw3; exact jJ (HT2.out.alloc _)
 have HB3:Hid (Below w.heap.size w w3):=by subst hw3; exact jJ (bw_alloc HB2.out _)
 rw [← hw3]
 have HSP:=jJ (split_any g m T w3 HT3.out)
 clear hw3 HT2 HB2
 go_wp2_with fail
 refine HSP.out.mono ?_
 rintro e wS ⟨w0,gp,v,rfl,hb0,hgp,hpa⟩
 obtain ⟨K,hK⟩:=jX (kN T)
 have hKT:K ≤ T.length:=hK ▸ kN_le T
 obtain ⟨Ap,cp,hAp,hgp2⟩:∃ (Ap:Option Addr) (cp:Nat),(if kN T=0 then Value.slice none 0 0 else .slice (some ⟨gp,0,none⟩) (kN T) (kN T))=.slice Ap K cp ∧ (0 < K → Ap=some ⟨gp,0,none⟩):=by
  rw [← hK]
  by_cases h0:K=0
  · exact ⟨none,0,by rw [if_pos h0,h0],fun h=>by omega⟩
  exact ⟨some ⟨gp,0,none⟩,K,by rw [if_neg h0],fun _=>rfl⟩
 rw [hAp]
 rw [← hK] at hpa
 have HKE:=jJ hK
 have HPA:=jJ hpa
 have HBS:Hid (Below w.heap.size w wS):=jJ ((HB3.out.trans (hb0.mono HB3.out.size)).trans (hpa.b.below (Nat.le_trans HB3.out.size hb0.size) fun k hk e=>by have:=HB3.out.size; omega))
 have HW0:Hid (w.heap.size ≤ w0.heap.size):=jJ (Nat.le_trans HB3.out.size hb0.size)
 have HGP:=jJ hgp2
 clear hK hAp hgp2 hb0 hgp hpa HSP HT3 HB3
 go_wp2_with fail
 go_loopw [6,8,20] (fun vo _ kv wr=>∃ (j co:Nat) (Ao:Option Addr),j ≤ K ∧ vo=.slice Ao j co ∧ kv=.int .i64 (j:Int) ∧ Hid (KindsAt wr wS.heap.size Ao co (kindsL T j)) ∧ Hid (Below wS.heap.size wS wr)) (fun _ _ kv _=>K - (intOf kv).toNat)
 case atStart=>exact ⟨0,0,none,by omega,rfl,rfl,jJ (KindsAt.nil _ _),jJ (Below.refl _ _)⟩
 obtain ⟨j,co,Ao,hj,rfl,rfl,HKr,HBr⟩:=hrel
 obtain ⟨wU,hwU⟩:=jX (wr:World)
 rw [← hwU] at HKr HBr ⊢
 clear hwU
 by_cases hjK:j < K
 · have hji:(j:Int) < (K:Int):=by omega
   have hAp:=HGP.out (by omega)
   subst hAp
   have HPU:=HPA.out.below HBr.out
   obtain ⟨P,hP⟩:=jX (partOf T j)
   have hw0:=HPU.own j 0 hjK (by decide)
   have hw1:=HPU.own j 1 hjK (by decide)
   have hw2:=HPU.own j 2 hjK (by decide)
   rw [← hP] at hw0 hw1 hw2
   obtain ⟨At,ct,ev0,_⟩:=own_form hw0
   obtain ⟨Av,cv,ev1,_⟩:=own_form hw1
   obtain ⟨Al,cl,ev2,_⟩:=own_form hw2
   have y0:wU.cell? ⟨gp,j * 4,none⟩=some (.int .i64 P.n):=by rw [hP]; exact HPU.cellN hjK
   have y1:wU.cell? ⟨gp,j * 4 + 1,none⟩=some (.slice At P.t.length ct):=(HPU.cell hjK (r:=0) (by decide)).trans (congrArg some ev0)
   have y2:wU.cell? ⟨gp,j * 4 + 2,none⟩=some (.slice Av P.v.length cv):=(HPU.cell hjK (r:=1) (by decide)).trans (congrArg some ev1)
   have y3:wU.cell? ⟨gp,j * 4 + 3,none⟩=some (.slice Al P.l.length cl):=(HPU.cell hjK (r:=2) (by decide)).trans (congrArg some ev2)
   rw [ev0] at hw0
   rw [ev1] at hw1
   have HR0:Hid (LRow wU w0.heap.size At ct P.t):=jJ hw0
   have HR1:Hid (IR wU w0.heap.size Av cv P.v):=jJ hw1
   have HPE:=jJ hP
   have hok:=HP.out j (by rw [← HKE.out]; exact hjK)
   rw [← hP] at hok
   have HOK:=jJ hok
   have hlen:P.t.length ≤ 1000:=by
    have h1:=lst_len (ofL T) T.length j
    have h2:P.t.length=(lstOf (ofL T) T.length j).length:=by rw [hP]; exact List.length_map _
    omega
   obtain ⟨nt,hnt⟩:=jX P.t.length
   obtain ⟨nv,hnv⟩:=jX P.v.length
   obtain ⟨nl,hnl⟩:=jX P.l.length
   obtain ⟨nP,hnP⟩:∃ n,n=P.n:=⟨_,rfl⟩
   rw [← hnP] at y0
   rw [← hnt] at y1
   rw [← hnv] at y2
   rw [← hnl] at y3
   have HNT:=jJ hnt
   have HNV:=jJ hnv
   have HNP:=jJ hnP
   clear hw0 hw1 hw2 ev0 ev1 ev2 hP hok HPU hnt hnv hnl hnP
   go_upto_region 8 with (fail)
   obtain ⟨wV,hwV⟩:=jX (wU.alloc (.cells #[.int .i64 nP,.slice At nt ct,.slice Av nv cv,.slice Al nl cl] 94))
   have KXV:Hid (Blk wV wU.heap.size 94 #[.int .i64 nP,.slice At nt ct,.slice Av nv cv,.slice Al nl cl]):=by subst hwV; exact jJ (Blk.new _ _ _)
   have HKV:Hid (KindsAt wV wS.heap.size Ao co (kindsL T j)):=by subst hwV; exact jJ (HKr.out.alloc _)
   have HBV:Hid (Below wS.heap.size wS wV):=by subst hwV; exact jJ (bw_alloc HBr.out _)
   have HRV0:Hid (LRow wV w0.heap.size At ct P.t):=by subst hwV; exact jJ (LRow.alloc HR0.out _)
   have HRV1:Hid (IR wV w0.heap.size Av cv P.v):=by subst hwV; exact jJ (IR.alloc HR1.out _)
   rw [← hwV]
   obtain ⟨bx,hbx⟩:=jX wU.heap.size
   rw [← hbx] at KXV
   simp only [← hbx]
   have HKO:Hid (Calls Tryz.prog 39 #[.agg #[.int .i64 nP,.slice At nt ct,.slice Av nv cv,.slice Al nl cl]] wV (KindPost1 wV (kindV P))):=jJ (by
    rw [HNT.out,HNV.out,HNP.out]
    exact kindOf1_any At Av Al ct cv nl cl P wV (by rw [HPE.out]; rfl) HOK.out.1 hlen HOK.out.2 (LRow.tris HRV0.out) (IR.reads HRV1.out))
   clear hwV hbx HKr HBr HR0 HR1 y0 y1 y2 y3
   have x0:=KXV.out.cell 0
   have x1:=KXV.out.cell 1
   have x2:=KXV.out.cell 2
   have x3:=KXV.out.cell 3
   simp at x0 x1 x2 x3
   go_wp2_with fail
   refine HKO.out.mono ?_
   rintro e wW ⟨Af,Aw,cf,cw,rfl,hl,hw,hb⟩
   obtain ⟨k,hk⟩:=jX (kindV P)
   rw [← hk] at hl hw ⊢
   obtain ⟨LK,hLK,hLo,hLi⟩:=(HKV.out.below hb).ex
   rw [kindsL_len] at hLo
   have HLK:=jJ hLK
   have HLo:=jJ hLo
   have HLi:=jJ hLi
   have HBW:=jJ (bw_call HBV.out hb)
   have HFl:=jJ (LRow.base hl HBV.out.size)
   have HFw:=jJ (hw.base HBV.out.size)
   have HKK:=jJ hk
   obtain ⟨nf,hnf⟩:=jX k.L.length
   obtain ⟨nw,hnw⟩:=jX k.ws.length
   rw [← hnf,← hnw]
   have HNf:=jJ hnf
   have HNw:=jJ hnw
   clear hl hw hb hLK hLo hLi HKO HKV HBV hk hnf hnw x0 x1 x2 x3 KXV HRV0 HRV1
   go_wp2_with (at_builtin; go_must (refine wpList_append_sl _ rfl (.tmp 24) (.tmp 27) _ rfl wS.heap.size 97 i3 _ 3 56 Tryz.underlying56 hi3 jz0 jz1 jz2 rfl (by omega) (.slice Ao j co) j (LK.flatMap KCell.cells) rfl (own_up HLo.out _) (wW.heap.size + 1) (some ⟨wW.heap.size,0,none⟩) 1 1 [.int .i64 k.M,.slice Af nf cf,.slice Aw nw cw] rfl (reads_newN _ _ _ 1 3 rfl rfl) (by simp [Value.oneCell']) (by simp only [maxLen]; omega) (by omega) (bw_size (bw_alloc HBW.out _)) ?_); intro A5 c5 wX hown5 hg5 hat5)
   have HKX:Hid (KindsAt wX wS.heap.size A5 c5 (kindsL T (j + 1))):=jJ (by
    refine ⟨⟨LK ++ [⟨Af,cf,Aw,cw,k⟩],?_,?_,fun x hx=>?_⟩⟩
    · rw [List.map_append,HLK.out,kindsL_succ,HKK.out,HPE.out]; rfl
    · rw [kindsL_len,List.flatMap_append,List.flatMap_singleton,KCell.cells,← HNf.out,← HNw.out]
      exact hown5
    have key:∀ (el:TypeId) (s n:Nat) (z:Value) (xs:List Value),el ≠ 97 → wW.ownsRow wS.heap.size el s z n xs → wX.ownsRow wS.heap.size el s z n xs:=fun el s n z xs hne ho=>own_grow2 (own_up ho _) hg5 (own_up HLo.out _) hne
    rcases List.mem_append.1 hx with hx | hx
    · exact ⟨key _ _ _ _ _ (by decide) (HLi.out x hx).1,(HLi.out x hx).2.same fun el s n z xs he ho=>key _ _ _ _ _ (by rcases he with rfl | rfl <;> decide) ho⟩
    rw [List.mem_singleton.1 hx]
    exact ⟨key _ _ _ _ _ (by decide) HFl.out,HFw.out.same fun el s n z xs he ho=>key _ _ _ _ _ (by rcases he with rfl | rfl <;> decide) ho⟩)
   have HBX:Hid (Below wS.heap.size wS wX):=jJ (bw_grow (bw_alloc HBW.out _) hg5 fun x hx=>(World.ownsRow.lt HLo.out x hx).1)
   go_roundw
   case rel=>exact ⟨j + 1,c5,A5,by omega,rfl,by go_num,HKX,HBX⟩
   case measure=>simp [intOf]; omega
 obtain rfl:j=K:=by omega
 go_wp2_with fail
 refine bodyPost_ret (v:=.tuple #[.slice Ao j co,.bool true]) ?_ rfl ⟨Ao,co,by rw [HKE.out],?_,HBS.out.trans (HBr.out.mono HBS.out.size)⟩
 · simp [results,Tryz.results21,go_sem]
 rw [← HKE.out]
 exact HKr.out.base HBS.out.size
end
section
theorem part_short (T:List Tri) (k:Nat):(partOf T k).t.length ≤ T.length:=by
 have h1:=lst_len (ofL T) T.length k
 have h2:(partOf T k).t.length=(lstOf (ofL T) T.length k).length:=List.length_map _
 omega
theorem kinds_small {T:List Tri} (hp:PartsOk T) (hn:T.length ≤ 1000):(∀ k ∈ kindsL T (kN T),k.L.length ≤ 1000) ∧ ∀ k ∈ kindsL T (kN T),k.ws.length ≤ 1000000:=by
 have key:∀ k ∈ kindsL T (kN T),k.L.length ≤ 1000 ∧ k.ws.length ≤ 1000000:=fun k hk=>by
  unfold kindsL at hk
  obtain ⟨i,hi,rfl⟩:=List.mem_map.1 hk
  have hi:=List.mem_range.1 hi
  obtain ⟨h1,h2⟩:=hp i hi
  have hs:=part_short T i
  have hb:=(bestN_is (T:=(partOf T i).t) (k:=0) (by omega)).2.lt
  have h3:=(rootC_fi hb).short
  have h4:=waysTo_len (partOf T i).t (partOf T i).v (rootO (partOf T i).t (bestN (partOf T i).t 0)).length (rootT (partOf T i).t (bestN (partOf T i).t 0)) (3 * (partOf T i).t.length)
  refine ⟨?_,?_⟩
  · show (rootT _ _).length ≤ 1000
    rw [rootT_len]; omega
  show (waysTo _ _ _ _ _).length ≤ 1000000
  omega
 exact ⟨fun k hk=>(key k hk).1,fun k hk=>(key k hk).2⟩
attribute [local irreducible] Blk World.alloc World.setCell World.cell? World.frozen? MapV MapI
theorem symOrder_yes (m:Nat) (A:Option Addr) (c:Nat) (T:List Tri) (w:World) (hs:checkR (m:Int) T=(0,0,0)) (hn:T.length ≤ 1000) (hp:PartsOk T) (ht:TrisAt w w.heap.size A T.length T) :
  Calls Tryz.prog 8 #[.agg #[.int .i64 (m:Int),.slice A T.length c]] w (OrderPost w (orderN (kindsL T (kN T)) (kN T))):=by
 have HT:=jJ ht
 have HS:=jJ hs
 have HP:=jJ hp
 clear ht hs hp
 go_enter Tryz.func8,Tryz.ntmps8
 go_upto_region 1 with (fail)
 obtain ⟨wA,hwA⟩:=jX (w.alloc (.cells #[.int .i64 (m:Int),.slice A T.length c] 24))
 have K1A:Hid (Blk wA w.heap.size 24 #[.int .i64 (m:Int),.slice A T.length c]):=by subst hwA; exact jJ (Blk.new _ _ _)
 have HBA:Hid (Below w.heap.size w wA):=by subst hwA; exact jJ (bw_alloc (Below.refl _ _) _)
 rw [← hwA]
 have HKI:=jJ (kindsYes_any m A c T wA HS.out hn HP.out (tris_on HBA.out HT.out))
 have p0:wA.cell? ⟨w.heap.size,0,none⟩=some (.int .i64 (m:Int)):=K1A.out.cell 0
 have p1:wA.cell? ⟨w.heap.size,1,none⟩=some (.slice A T.length c):=K1A.out.cell 1
 clear hwA
 go_wp2_with fail
 refine HKI.out.mono ?_
 rintro e w1 ⟨Ak,ck,rfl,hk,hb⟩
 have HB1:=jJ (bw_call HBA.out hb)
 have HOR:Hid (Calls Tryz.prog 22 #[.slice Ak (kN T) ck] w1 (OrderPost w1 (orderN (kindsL T (kN T)) (kN T)))):=jJ (by
  have hl:=kindsL_len T (kN T)
  have:=order_any wA.heap.size Ak ck (kindsL T (kN T)) w1 (by rw [hl]; exact Nat.le_trans (kN_le T) hn) (kinds_small HP.out hn).1 (kinds_small HP.out hn).2 hk
  rw [hl] at this
  exact this)
 obtain ⟨o,ho⟩:=jX (orderN (kindsL T (kN T)) (kN T))
 rw [← ho] at HOR ⊢
 have HOE:=jJ ho
 obtain ⟨K,hK⟩:=jX (kN T)
 rw [← hK] at HOR ⊢
 clear hb hk HKI p0 p1 ho hK
 go_wp2_with fail
 refine HOR.out.mono ?_
 rintro e w2 ⟨rfl,hb⟩
 have HB2:=jJ (bw_call HB1.out hb)
 cases o with
 | none =>
  unfold ordV
  dsimp only
  go_wp2_with fail
  refine bodyPost_ret (v:=.tuple #[.int .i64 0,.int .i64 7]) ?_ rfl ⟨by rw [← HOE.out]; rfl,HB2.out⟩
  simp [results,Tryz.results8,go_sem]
 | some n =>
  unfold ordV
  dsimp only
  go_wp2_with fail
  refine bodyPost_ret (v:=.tuple #[.int .i64 (n:Int),.int .i64 0]) ?_ rfl ⟨by rw [← HOE.out]; rfl,HB2.out⟩
  simp [results,Tryz.results8,go_sem]
end
end Go.Proofs.YtffmfhkiienmaaaGreat
