/- canon.Rooted, walked. No condition but sizes. -/
import Derived.Test.YtffmfhkiienmaaaGreatSh47
import Derived.Test.YtffmfhkiienmaaaGreatSortK
import Derived.Test.YtffmfhkiienmaaaGreatShelfIns
set_option maxRecDepth 100000
set_option maxHeartbeats 16000000
set_option linter.all false
namespace Go.Proofs.YtffmfhkiienmaaaGreat
open Go.RowKit
section
attribute [local irreducible] Blk World.alloc World.setCell World.cell? World.frozen? MapV MapI
def RootPost (w:World) (T:List Tri) (c:Nat) (e:Ending) (w':World):Prop :=
 ∃ (At Ao Ac:Option Addr) (ct co cc:Nat),e=.returned (.tuple #[.agg #[.int .i64 ((rootO T c).length:Int),.slice At (rootC T c).length ct],.slice Ao (rootO T c).length co,.slice Ac (rootC T c).length cc]) ∧
  LRow w' w.heap.size At ct (rootT T c) ∧ IR w' w.heap.size Ao co (rootO T c) ∧ IR w' w.heap.size Ac cc (natL (rootC T c)) ∧ Below w.heap.size w w'
theorem rooted_any (g m:Nat) (T:List Tri) (c:Nat) (w:World) (hc:c < 3 * T.length) (h:TabN w g m T) :
  Calls Tryz.prog 71 #[.pointer (some ⟨g,0,none⟩),.int .i64 (c:Int)] w (RootPost w T c):=by
 obtain ⟨i0,hi0,hz0,hz1,hz2⟩:=info_parts int_infoC
 have HT:=jJ h
 have hn1000:=h.n
 have hcv:=cv_ok h.s.ok hc
 have hmx:=h.s.m1
 obtain ⟨V,hV⟩:=jX ((w.alloc (.cells #[.pointer (some ⟨g,0,none⟩)] 25)).alloc (.cells #[.int .i64 0,.slice none 0 0] 24))
 have K2:Hid (Blk V w.heap.size 25 #[.pointer (some ⟨g,0,none⟩)]):=by subst hV; exact jJ ((Blk.new _ _ _).alloc _)
 have K4:Hid (Blk V (w.heap.size + 1) 24 #[.int .i64 0,.slice none 0 0]):=by subst hV; exact jJ (Blk.new_ (by rw [World.size_alloc]) _ _)
 have HB0:Hid (Below w.heap.size w V):=by subst hV; exact jJ (bw_alloc (bw_alloc (Below.refl _ _) _) _)
 have HVX:Hid (Calls Tryz.prog 17 #[.pointer (some ⟨g,0,none⟩),.int .i64 (c:Int)] V (IntPost V (cv T c))):=jJ ((h.below HB0.out).vertex hc)
 clear h
 obtain ⟨v0,hv0⟩:=jX (cv T c)
 rw [← hv0] at hcv HVX
 clear hv0
 go_enter Tryz.func71,Tryz.ntmps71
 go_upto_region 1 with (fail)
 rw [← hV]
 clear hV
 obtain ⟨b2,hb2⟩:=jX w.heap.size
 obtain ⟨b4,hb4⟩:=jX (w.heap.size + 1)
 have HG2:Hid (w.heap.size ≤ b2 ∧ w.heap.size ≤ b4):=jJ (by omega)
 rw [← hb4] at K4 ⊢
 rw [← hb2] at K2
 simp only [← hb2]
 clear hb2 hb4
 have c2:=K2.out.cell 0
 simp at c2
 go_wp2_with fail
 refine HVX.out.mono ?_
 rintro e w1 ⟨rfl,hb⟩
 have K21:=jJ (K2.out.below hb K2.out.lt)
 have K41:=jJ (K4.out.below hb K4.out.lt)
 have HB1:=jJ (bw_call HB0.out hb)
 clear hb HVX K2 K4 HB0 c2
 go_upto_region 3 with (fail)
 obtain ⟨q,hq⟩:=jX (c / 3)
 have hqd:Int.tdiv (c:Int) 3=(q:Int):=by rw [hq]; exact tdiv_nat c 3
 have hqT:q < T.length:=by omega
 have HQ:=jJ hq
 have hwq:IntKind.i64.wrap (q:Int)=(q:Int):=IntWalk.i64_in _ (by omega)
 have hqw:(Lit.int .i64 (q:Int)).wf=true:=wf_small (by omega) (by omega)
 clear hq
 obtain ⟨es,ck,hst,hmp⟩:=(MapI.made Tryz.prog 3 w1).store Tryz.underlying3 Tryz.underlying144 (by unfold maxLen; omega) hqw (.bool true)
 have hmm:=@run_makeMap Tryz.prog
 simp only [Option.isSome_none,Bool.false_eq_true,if_false] at hmp
 have hmp2:MapI Tryz.prog 3 (ChangeMaps.setBlock (w1.alloc (.map #[] 0)) w1.heap.size (.map es ck)) w1.heap.size 1 (inF [c]):=by
  refine (hmp:MapI _ _ _ _ 1 _).congr fun x=>?_
  unfold inF natL
  rw [HQ.out]
  simp
 have HMP:=jJ hmp2
 clear hmp hmp2
 go_upto_region 4 with (fail)
 have HBM:=jJ (bw_setBlock (bw_alloc HB1.out (.map #[] 0)) HB1.out.size (.map es ck))
 have K2M:=jJ ((K21.out.alloc (.map #[] 0)).setBlock (b:=w1.heap.size) (fun e=>by have:=K21.out.lt; omega) (.map es ck))
 have K4M:=jJ ((K41.out.alloc (.map #[] 0)).setBlock (b:=w1.heap.size) (fun e=>by have:=K41.out.lt; omega) (.map es ck))
 have HSM:Hid (w1.heap.size < (ChangeMaps.setBlock (w1.alloc (.map #[] 0)) w1.heap.size (.map es ck)).heap.size):=jJ HMP.out.lt
 obtain ⟨bm,hbm⟩:=jX w1.heap.size
 rw [← hbm] at HMP HBM K2M K4M HSM ⊢
 generalize ChangeMaps.setBlock (w1.alloc (.map #[] 0)) bm (.map es ck)=wM at *
 have HGM:Hid (w.heap.size ≤ bm):=jJ (by have:=HB1.out.size; omega)
 clear hst hmm K21 K41 HB1 hbm
 go_upto_region 5 with (fail)
 obtain ⟨w5,hw5⟩:=jX (((wM.alloc (.cells #[.map (some bm)] 144)).alloc (.cells #[.int .i64 (c:Int)] 3)).alloc (.cells #[.slice (some ⟨wM.heap.size + 1,0,none⟩) 1 1] 30))
 have HRA:Hid (RAt w g m T b2 wM.heap.size (wM.heap.size + 1 + 1) bm [c] w5):=by
  subst hw5
  refine jJ ⟨HT.out,((K2M.out.alloc _).alloc _).alloc _,((Blk.new _ _ _).alloc _).alloc _,⟨_,_,Blk.new_ (by simp only [World.size_alloc]) _ _,?_⟩,((HMP.out.alloc _).alloc _).alloc _,⟨HG2.out.1,HBM.out.size,by have:=HBM.out.size; omega,HGM.out⟩,bw_alloc (bw_alloc (bw_alloc HBM.out _) _) _⟩
  exact (ints_own (O:=[(c:Int)]) (Blk.new_ (by rw [World.size_alloc]) _ _) (by have:=HBM.out.size; omega) (by simp [maxLen])).alloc _
 have K45:Hid (Blk w5 b4 24 #[.int .i64 0,.slice none 0 0]):=by subst hw5; exact jJ (((K4M.out.alloc _).alloc _).alloc _)
 rw [← hw5]
 obtain ⟨b7,hb7⟩:=jX wM.heap.size
 obtain ⟨b8,hb8⟩:=jX (wM.heap.size + 1 + 1)
 rw [← hb8] at HRA ⊢
 rw [← hb7] at HRA
 simp only [← hb7]
 clear hw5 hb7 hb8 HBM K2M K4M HSM HMP
 go_wp2_with fail
 refine (over_any g m b2 b7 b8 bm T [c] c w w5 hc ⟨fun x hx=>by rw [List.mem_singleton.1 hx]; exact hc,by simp⟩ HRA.out).mono ?_
 rintro e w6 ⟨rfl,hr6,hk6⟩
 have HR6:=jJ hr6
 have K46:=jJ (hk6 _ _ _ K45.out (by decide) (by decide))
 have HF6:=jJ (start_fi (T:=T) hc)
 obtain ⟨fin,hfin⟩:=jX (rootC T c)
 have HFIN:=jJ hfin
 clear hr6 hk6 HRA K45 hfin
 go_wp2_with fail
 go_loopw [10] (fun iv wr=>∃ (i:Nat) (s:List Nat),i ≤ s.length ∧ iv=.int .i64 (i:Int) ∧ Hid (RAt w g m T b2 b7 b8 bm s wr) ∧ Hid (RFi T s) ∧ Hid (bfsR T (T.length + 1 - i) i s=fin) ∧ Hid (Blk wr b4 24 #[.int .i64 0,.slice none 0 0])) (fun iv _=>T.length + 1 - (intOf iv).toNat)
 case atStart=>exact ⟨0,overR T c [c],by omega,rfl,HR6,HF6,HFIN.out.symm,K46⟩
 obtain ⟨i,s,hi,rfl,HRwE,HF,HFS,K4wE⟩:=hrel
 obtain ⟨wE,hwE⟩:=jX (wr:World)
 rw [← hwE] at HRwE K4wE ⊢
 clear hwE HR6 K46 HF6
 have hsl:=HF.out.short
 by_cases hil:i < s.length
 · obtain ⟨x,hx⟩:=jX (s.getD i 0)
   have HX:=jJ hx
   have hmem:s.getD i 0 ∈ s:=by rw [List.getD_eq_getElem?_getD,List.getElem?_eq_getElem hil]; exact List.getElem_mem hil
   have hx3:x < 3 * T.length:=by rw [hx]; exact HF.out.lt _ hmem
   have HFS2:Hid (bfsR T (T.length + 1 - (i + 1)) (i + 1) (stepR T x s)=fin):=by
    have h1:=HFS.out
    rw [show T.length + 1 - i=(T.length + 1 - (i + 1)) + 1 by omega,bfsR_step hil,← hx] at h1
    exact jJ h1
   have hmore0:s=s ++ []:=by simp
   obtain ⟨s1,hs1⟩:=jX (overR T (nxc x) s)
   obtain ⟨s2,hs2⟩:=jX (overR T (pvc x) s1)
   have HF1:Hid (RFi T s1):=jJ (hs1 ▸ overR_fi HF.out _)
   have HF2:Hid (RFi T s2):=jJ (hs2 ▸ overR_fi HF1.out _)
   have HSS:Hid (bfsR T (T.length + 1 - (i + 1)) (i + 1) s2=fin):=jJ (by rw [hs2,hs1]; exact HFS2.out)
   obtain ⟨l1,hm1⟩:=overR_more (T:=T) (nxc x) s
   obtain ⟨l2,hm2⟩:=overR_more (T:=T) (pvc x) s1
   rw [← hs1] at hm1
   rw [← hs2] at hm2
   have hsl2:i + 1 ≤ s2.length:=by rw [hm2,hm1,List.length_append,List.length_append]; omega
   have HM0:=jJ hmore0
   have HM1:=jJ hm1
   have HS1:=jJ hs1
   have HS2:=jJ hs2
   clear hx hmem hs1 hs2 hmore0 hm1 hm2 HFS
   have hmore0:=HM0.out
   obtain ⟨A0,cc0,k80,ir0⟩:=HRwE.out.k8
   obtain ⟨hil0,hix0⟩:=more_at hmore0 hil
   obtain ⟨gw0,rfl,y0⟩:=ir_at ir0 hil0
   rw [hix0,← HX.out] at y0
   have C2wE:Hid (CellQ wE ⟨b2,0,none⟩ (.pointer (some ⟨g,0,none⟩))):=jJ ⟨HRwE.out.k2.cell 0,HRwE.out.k2.lt⟩
   have C8wE:Hid (CellQ wE ⟨b8,0,none⟩ (.slice (some ⟨gw0,0,none⟩) s.length cc0)):=jJ ⟨k80.cell 0,k80.lt⟩
   have CYwE:Hid (CellQ wE ⟨gw0,i,none⟩ (.int .i64 (x:Int))):=jJ ⟨y0,World.block_lt_of_cell? _ _ y0⟩
   have hii0:(i:Int) < (s.length:Int):=by omega
   clear y0 k80 ir0 hix0 hmore0
   have HBwE:=jJ HRwE.out.b
   have c8:=C8wE.out.c
   go_upto_region 10 with (fail)
   clear c8
   refine wp_region_till (S:=fun w'=>w'.cell? ⟨b2,0,none⟩=some (.pointer (some ⟨g,0,none⟩)) ∧ w'.cell? ⟨b8,0,none⟩=some (.slice (some ⟨gw0,0,none⟩) s.length cc0) ∧ w'.cell? ⟨gw0,i,none⟩=some (.int .i64 (x:Int))) 7 (by kernel_rfl) ⟨(C2wE.out.drew.c),(C8wE.out.drew.c),(CYwE.out.drew.c)⟩ (fun hHeld=>?_)
   refine tKk 0 ?_; (try simp only [zQ])
   refine Till.takeP [6] (i:=1) (v:=?vt8) rfl (by kernel_rfl) (by kernel_rfl) (by kernel_rfl) (by kernel_rfl) (by kernel_rfl) (fun _ _ _ h=>h) (Or.inl ⟨by rfl,?ht8⟩) (by assumption) ?restt8
   case ht8=>(intro w h; (try dsimp only at h); go_simp; try with_reducible rfl)
   (try simp only [zQ])
   refine Till.takeP [6,5,4] (i:=2) (v:=?vt9) rfl (by kernel_rfl) (by kernel_rfl) (by kernel_rfl) (by kernel_rfl) (by kernel_rfl) (fun _ _ _ h=>h) (Or.inl ⟨by rfl,?ht9⟩) (by assumption) ?restt9
   case ht9=>(intro w h; (try dsimp only at h); go_simp; try with_reducible rfl)
   (try simp only [zQ])
   refine Till.takeP [6,5,4] (i:=3) (v:=?vt10) rfl (by kernel_rfl) (by kernel_rfl) (by kernel_rfl) (by kernel_rfl) (by kernel_rfl) (fun _ _ _ h=>h) (Or.inl ⟨by rfl,?ht10⟩) (by assumption) ?restt10
   case ht10=>(intro w h; (try dsimp only at h); go_simp; try with_reducible rfl)
   (try simp only [zQ])
   refine Till.takeP [6,5] (i:=4) (v:=?vt11) rfl (by kernel_rfl) (by kernel_rfl) (by kernel_rfl) (by kernel_rfl) (by kernel_rfl) (fun _ _ _ h=>h) (Or.inl ⟨by rfl,?ht11⟩) (by assumption) ?restt11
   case ht11=>(intro w h; (try dsimp only at h); go_simp; try with_reducible rfl)
   (try simp only [zQ])
   refine Till.takeP [6] (i:=5) (v:=?vt12) rfl (by kernel_rfl) (by kernel_rfl) (by kernel_rfl) (by kernel_rfl) (by kernel_rfl) (fun _ _ _ h=>h) (Or.inl ⟨by rfl,?ht12⟩) (by assumption) ?restt12
   case ht12=>(intro w h; (try dsimp only at h); go_simp; try with_reducible rfl)
   (try simp only [zQ])
   refine Till.ready (rs:=[6]) (by kernel_rfl) (by simp) ?_
   refine TillEach.cons rfl (fun K hK=>?_) ?_
   · go_simp
     go_wp2_with (go_at_call 18; refine (HRwE.out.drew.tab.next hx3).mono ?_; rintro e v11 ⟨rfl,hb⟩)
     have C2v11:=jJ (C2wE.out.drew.below hb)
     have C8v11:=jJ (C8wE.out.drew.below hb)
     have CYv11:=jJ (CYwE.out.drew.below hb)
     have K4v11:=jJ (blk_call K4wE.out.drew hb)
     have HRv11:=jJ (HRwE.out.drew.below hb)
     have HBv11:=jJ (bw_call (bw_drew HBwE.out) hb)
     clear hb
     refine hK.out _ _ ?_ (fun hHeld=>?_)
     · exact ⟨(C2v11.out.c),(C8v11.out.c),(CYv11.out.c)⟩
     clear hK K
     (try simp only [zQ])
     refine Till.ready (rs:=[7]) (by kernel_rfl) (by simp) ?_
     refine TillEach.last rfl (fun K hK=>?_)
     go_simp
     go_wp2_with (go_at_call 95; refine (over_any g m b2 b7 b8 bm T s (nxc x) w v11 (nxc_lt hx3) HF.out HRv11.out).mono ?_; rintro e v12 ⟨rfl,hr,hk⟩)
     have HRv12:Hid (RAt w g m T b2 b7 b8 bm s1 v12):=jJ (by rw [HS1.out]; exact hr)
     have K4v12:=jJ (hk _ _ _ K4v11.out (by decide) (by decide))
     clear hr hk C2v11 C8v11 CYv11 K4v11 HRv11 HBv11
     refine hK.out _ _ ?_
     clear hK K
     (try simp only [zQ])
     refine Till.done (by kernel_rfl) ?_ _
     have hmore1:=HM1.out
     obtain ⟨A1,cc1,k81,ir1⟩:=HRv12.out.k8
     obtain ⟨hil1,hix1⟩:=more_at hmore1 hil
     obtain ⟨gw1,rfl,y1⟩:=ir_at ir1 hil1
     rw [hix1,← HX.out] at y1
     have C2v12:Hid (CellQ v12 ⟨b2,0,none⟩ (.pointer (some ⟨g,0,none⟩))):=jJ ⟨HRv12.out.k2.cell 0,HRv12.out.k2.lt⟩
     have C8v12:Hid (CellQ v12 ⟨b8,0,none⟩ (.slice (some ⟨gw1,0,none⟩) s1.length cc1)):=jJ ⟨k81.cell 0,k81.lt⟩
     have CYv12:Hid (CellQ v12 ⟨gw1,i,none⟩ (.int .i64 (x:Int))):=jJ ⟨y1,World.block_lt_of_cell? _ _ y1⟩
     have hii1:(i:Int) < (s1.length:Int):=by omega
     clear y1 k81 ir1 hix1 hmore1
     have HBv12:=jJ HRv12.out.b
     go_upto_region 11 with (fail)
     refine wp_region_till (S:=fun w'=>w'.cell? ⟨b2,0,none⟩=some (.pointer (some ⟨g,0,none⟩)) ∧ w'.cell? ⟨b8,0,none⟩=some (.slice (some ⟨gw1,0,none⟩) s1.length cc1) ∧ w'.cell? ⟨gw1,i,none⟩=some (.int .i64 (x:Int))) 7 (by kernel_rfl) ⟨(C2v12.out.drew.c),(C8v12.out.drew.c),(CYv12.out.drew.c)⟩ (fun hHeld=>?_)
     refine tKk 0 ?_; (try simp only [zQ])
     refine Till.takeP [6] (i:=1) (v:=?vt2) rfl (by kernel_rfl) (by kernel_rfl) (by kernel_rfl) (by kernel_rfl) (by kernel_rfl) (fun _ _ _ h=>h) (Or.inl ⟨by rfl,?ht2⟩) (by assumption) ?restt2
     case ht2=>(intro w h; (try dsimp only at h); go_simp; try with_reducible rfl)
     (try simp only [zQ])
     refine Till.takeP [6,5,4] (i:=2) (v:=?vt3) rfl (by kernel_rfl) (by kernel_rfl) (by kernel_rfl) (by kernel_rfl) (by kernel_rfl) (fun _ _ _ h=>h) (Or.inl ⟨by rfl,?ht3⟩) (by assumption) ?restt3
     case ht3=>(intro w h; (try dsimp only at h); go_simp; try with_reducible rfl)
     (try simp only [zQ])
     refine Till.takeP [6,5,4] (i:=3) (v:=?vt4) rfl (by kernel_rfl) (by kernel_rfl) (by kernel_rfl) (by kernel_rfl) (by kernel_rfl) (fun _ _ _ h=>h) (Or.inl ⟨by rfl,?ht4⟩) (by assumption) ?restt4
     case ht4=>(intro w h; (try dsimp only at h); go_simp; try with_reducible rfl)
     (try simp only [zQ])
     refine Till.takeP [6,5] (i:=4) (v:=?vt5) rfl (by kernel_rfl) (by kernel_rfl) (by kernel_rfl) (by kernel_rfl) (by kernel_rfl) (fun _ _ _ h=>h) (Or.inl ⟨by rfl,?ht5⟩) (by assumption) ?restt5
     case ht5=>(intro w h; (try dsimp only at h); go_simp; try with_reducible rfl)
     (try simp only [zQ])
     refine Till.takeP [6] (i:=5) (v:=?vt6) rfl (by kernel_rfl) (by kernel_rfl) (by kernel_rfl) (by kernel_rfl) (by kernel_rfl) (fun _ _ _ h=>h) (Or.inl ⟨by rfl,?ht6⟩) (by assumption) ?restt6
     case ht6=>(intro w h; (try dsimp only at h); go_simp; try with_reducible rfl)
     (try simp only [zQ])
     refine Till.ready (rs:=[6]) (by kernel_rfl) (by simp) ?_
     refine TillEach.cons rfl (fun K hK=>?_) ?_
     · go_simp
       go_wp2_with (go_at_call 19; refine (HRv12.out.drew.tab.prev hx3).mono ?_; rintro e v13 ⟨rfl,hb⟩)
       have C2v13:=jJ (C2v12.out.drew.below hb)
       have C8v13:=jJ (C8v12.out.drew.below hb)
       have CYv13:=jJ (CYv12.out.drew.below hb)
       have K4v13:=jJ (blk_call K4v12.out.drew hb)
       have HRv13:=jJ (HRv12.out.drew.below hb)
       have HBv13:=jJ (bw_call (bw_drew HBv12.out) hb)
       clear hb
       refine hK.out _ _ ?_ (fun hHeld=>?_)
       · exact ⟨(C2v13.out.c),(C8v13.out.c),(CYv13.out.c)⟩
       clear hK K
       (try simp only [zQ])
       refine Till.ready (rs:=[7]) (by kernel_rfl) (by simp) ?_
       refine TillEach.last rfl (fun K hK=>?_)
       go_simp
       go_wp2_with (go_at_call 95; refine (over_any g m b2 b7 b8 bm T s1 (pvc x) w v13 (pvc_lt hx3) HF1.out HRv13.out).mono ?_; rintro e v14 ⟨rfl,hr,hk⟩)
       have HRv14:Hid (RAt w g m T b2 b7 b8 bm s2 v14):=jJ (by rw [HS2.out]; exact hr)
       have K4v14:=jJ (hk _ _ _ K4v13.out (by decide) (by decide))
       clear hr hk C2v13 C8v13 CYv13 K4v13 HRv13 HBv13
       refine hK.out _ _ ?_
       clear hK K
       (try simp only [zQ])
       refine Till.done (by kernel_rfl) ?_ _
       go_wp2_with fail
       go_roundw
       case rel=>exact ⟨i + 1,s2,by omega,by go_num,HRv14,HF2,HSS,K4v14⟩
       case measure=>simp [intOf]; omega
     exact TillEach.nil
   exact TillEach.nil
 obtain rfl:i=s.length:=by omega
 have HSF:Hid (s=rootC T c):=jJ (by rw [← HFIN.out,← HFS.out,bfsR_stop (Nat.le_refl _)])
 have hs1:0 < s.length:=by
  obtain ⟨l,h⟩:=rootC_head (T:=T) c
  rw [HSF.out,h]; simp
 obtain ⟨A8,cc,k8,ir⟩:=HRwE.out.k8
 obtain ⟨gc,ca,rfl,kc,hca,hoc⟩:=ir_block ir hs1
 have K8:=jJ k8
 have KC:=jJ kc
 have HCA:=jJ hca
 have HIR:=jJ ir
 have c8:=k8.cell 0
 simp at c8
 have hmm:=@run_makeMap Tryz.prog
 have hlt3:∀ x ∈ s,x < 3 * T.length:=HF.out.lt
 have HLT:=jJ hlt3
 have HOC:=jJ hoc
 clear HFIN HFS hi k8 kc hca hoc ir hlt3
 go_upto_region 15 with (fail)
 obtain ⟨V,hV⟩:=jX ((wE.alloc (.cells #[.int .i64 0,.slice none 0 0] 24)).alloc (.map #[] 0))
 have HB0:=HRwE.out.b
 have HQ0:Hid (QAt w g m T b2 b4 b8 wE.heap.size (wE.heap.size + 1) gc ca s cc 0 none 0 [] V):=by
  subst hV
  refine jJ ⟨(HRwE.out.k2.alloc _).alloc _,(K4wE.out.alloc _).alloc _,(K8.out.alloc _).alloc _,(KC.out.alloc _).alloc _,⟨none,0,(Blk.new _ _ _).alloc _,World.ownsRow_nil _ _ _ _⟩,MapI.made_ _ _ (by rw [World.size_alloc]),IR.nil _ _,fun y hy=>?_,fun e=>?_,bw_alloc (bw_alloc HB0 _) _⟩
  · simp [Value.ownBlock] at hy
  have:=K4wE.out.lt
  omega
 have HGE:Hid (w.heap.size ≤ wE.heap.size ∧ w.heap.size ≤ wE.heap.size + 1):=jJ ⟨HB0.size,Nat.le_succ_of_le HB0.size⟩
 have HGB4:Hid (w.heap.size ≤ b4):=jJ HG2.out.2
 rw [← hV]
 obtain ⟨b11,hb11⟩:=jX wE.heap.size
 obtain ⟨bn,hbn⟩:=jX (wE.heap.size + 1)
 rw [← hbn,← hb11] at HQ0 HGE
 simp only [← hbn]
 simp only [← hb11]
 have c8:=HQ0.out.k8.cell 0
 simp at c8
 clear hV hb11 hbn hmm HB0 K8 HRwE K4wE HG2 HGM
 go_wp2_with fail
 go_loopw [12,15,16,17,18,19,20,21,62] (fun ov _ _ _ _ _ _ _ kv wr=>∃ (k:Nat) (Ao:Option Addr) (co:Nat) (old:List Int),k ≤ s.length ∧ kv=.int .i64 (k:Int) ∧ ov=.slice Ao old.length co ∧ Hid (old=oldC T (s.take k)) ∧ Hid (QAt w g m T b2 b4 b8 b11 bn gc ca s cc k Ao co old wr)) (fun _ _ _ _ _ _ _ _ kv _=>s.length - (intOf kv).toNat)
 case atStart=>exact ⟨0,none,0,[],by omega,rfl,rfl,jJ (by simp [oldC]),HQ0⟩
 obtain ⟨k,Ao,co,old,hk,rfl,rfl,HO,HQwR⟩:=hrel
 obtain ⟨wR,hwR⟩:=jX (wr:World)
 rw [← hwR] at HQwR ⊢
 clear hwR HQ0 c8
 by_cases hkl:k < s.length
 · obtain ⟨x,hx⟩:=jX (s.getD k 0)
   have hsx:s[k]?=some x:=by rw [hx,List.getD_eq_getElem?_getD,List.getElem?_eq_getElem hkl]; rfl
   have HSX:=jJ hsx
   have hx3:x < 3 * T.length:=HLT.out x (List.mem_of_getElem? hsx)
   have hcx:ca[k]?=some (.int .i64 (x:Int)):=by rw [hx]; exact HCA.out k hkl
   have cy:=(HQwR.out.kc.cell k).trans hcx
   have hki:(k:Int) < (s.length:Int):=by omega
   clear hx hsx hcx
   go_upto_region 19 with (fail)
   obtain ⟨wX,hwX⟩:=jX (wR.alloc (.cells #[.int .i64 0,.int .i64 0,.int .i64 0] 65))
   have KXwX:Hid (Blk wX wR.heap.size 65 #[.int .i64 0,.int .i64 0,.int .i64 0]):=by subst hwX; exact jJ (Blk.new _ _ _)
   have HBwX:Hid (Below wR.heap.size wR wX):=by subst hwX; exact jJ (bw_alloc (Below.refl _ _) _)
   have HTTwX:Hid (TabN wX g m T):=by subst hwX; exact jJ (HT.out.below (bw_alloc HQwR.out.b _))
   have C2wX:Hid (CellQ wX ⟨b2,0,none⟩ (.pointer (some ⟨g,0,none⟩))):=by subst hwX; exact jJ ⟨(HQwR.out.k2.alloc _).cell 0,(HQwR.out.k2.alloc _).lt⟩
   have HGX:Hid (wR.heap.size ≤ wR.heap.size):=jJ (Nat.le_refl _)
   rw [← hwX]
   obtain ⟨bx,hbx⟩:=jX wR.heap.size
   rw [show (wR.heap.size ≤ wR.heap.size)=(wR.heap.size ≤ bx) by rw [hbx]] at HGX
   rw [← hbx] at KXwX
   simp only [← hbx]
   clear hwX cy hbx hki
   refine wp_region_held_drew (S:=fun w'=>w'.cell? ⟨b2,0,none⟩=some (.pointer (some ⟨g,0,none⟩))) (by kernel_rfl) (C2wX.out.drew.c) (fun hHeld=>?_)
   refine hKk 0 ?_; (try simp only [zQ])
   refine hKk 1 ?_; (try simp only [zQ])
   refine hKk 2 ?_; (try simp only [zQ])
   refine hKk 4 ?_; (try simp only [zQ])
   refine hKk 5 ?_; (try simp only [zQ])
   refine hKk 9 ?_; (try simp only [zQ])
   refine wpAnyH_ready (rs:=[3]) (by kernel_rfl) (by simp) ?_
   refine held_cons rfl (fun K hK=>?_) ?_
   · go_simp
     go_wp2_with (go_at_call 18; refine (HTTwX.out.drew.next hx3).mono ?_; rintro e v21 ⟨rfl,hb⟩)
     have C2v21:=jJ (C2wX.out.drew.below hb)
     have KXv21:=jJ (blk_call KXwX.out.drew hb)
     have HTTv21:=jJ (HTTwX.out.drew.below hb)
     have HBv21:=jJ (bw_call (bw_drew HBwX.out) hb)
     clear hb
     refine hK.out _ _ ?_ (fun hHeld=>?_)
     · exact (C2v21.out.c)
     clear hK K
     (try simp only [zQ])
     refine wpAnyH_ready (rs:=[6]) (by kernel_rfl) (by simp) ?_
     refine held_cons rfl (fun K hK=>?_) ?_
     · go_simp
       go_wp2_with (go_at_call 19; refine (HTTv21.out.prev hx3).mono ?_; rintro e v22 ⟨rfl,hb⟩)
       have C2v22:=jJ (C2v21.out.below hb)
       have KXv22:=jJ (blk_call KXv21.out hb)
       have HTTv22:=jJ (HTTv21.out.below hb)
       have HBv22:=jJ (bw_call HBv21.out hb)
       clear hb C2v21 KXv21 HTTv21 HBv21
       refine hK.out _ _ ?_ (fun hHeld=>?_)
       · exact (C2v22.out.c)
       clear hK K
       (try simp only [zQ])
       refine wpAnyH_ready (rs:=[7]) (by kernel_rfl) (by simp) ?_
       refine held_cons rfl (fun K hK=>?_) ?_
       · go_simp
         go_wp2_with fail
         obtain ⟨v23,hvU⟩:=jX (v22.alloc (.cells #[.int .i64 (x:Int),.int .i64 (nxc x:Int),.int .i64 (pvc x:Int)] 3))
         have C2v23:Hid (CellQ v23 ⟨b2,0,none⟩ (.pointer (some ⟨g,0,none⟩))):=by subst hvU; exact jJ (C2v22.out.below (bw_alloc (Below.refl _ _) _))
         have HXv23:Hid (QX w g m T b2 b4 b8 b11 bn gc ca s cc k Ao co old bx v22.heap.size x (oldC T s) 0 v23):=by subst hvU; exact jJ (HQwR.out.open_ (bw_alloc HBv22.out _) HGX.out HBv22.out.size (by have h:=KXv22.out.alloc (.cells #[.int .i64 (x:Int),.int .i64 (nxc x:Int),.int .i64 (pvc x:Int)] 3); simpa [xN] using h) (Blk.new _ _ _))
         rw [← hvU]
         obtain ⟨gd,hgd⟩:=jX v22.heap.size
         rw [← hgd] at HXv23
         simp only [← hgd]
         clear hvU hgd C2v22 KXv22 HTTv22 HBv22
         refine hK.out _ _ ?_ (fun hHeld=>?_)
         · exact (C2v23.out.c)
         clear hK K
         (try simp only [zQ])
         refine hKk 8 ?_; (try simp only [zQ])
         refine wpAnyH_done (by kernel_rfl) ?_ _
         go_wp2_with fail
         clear C2v23 HQwR HGX
         go_loopw [12,17,18,19,20,21,75] (fun ov _ _ _ _ _ jv wr=>∃ (j:Nat) (Ao:Option Addr) (co:Nat) (o1:List Int),j ≤ 3 ∧ jv=.int .i64 (j:Int) ∧ ov=.slice Ao o1.length co ∧ Hid (o1=oldN T x old j) ∧ Hid (QX w g m T b2 b4 b8 b11 bn gc ca s cc k Ao co o1 bx gd x (oldC T s) j wr)) (fun _ _ _ _ _ _ jv _=>3 - (intOf jv).toNat)
         case atStart=>exact ⟨0,Ao,co,old,by omega,rfl,rfl,jJ rfl,HXv23⟩
         obtain ⟨j,A1,c1,o1,hj,rfl,rfl,HO1,HXwI⟩:=hrel
         obtain ⟨wI,hwI⟩:=jX (wr:World)
         rw [← hwI] at HXwI ⊢
         clear hwI HXv23
         by_cases hjl:j < 3
         · obtain ⟨d,hd⟩:=jX (dN x j)
           have hd3:d < 3 * T.length:=hd ▸ dN_lt hx3 j
           have cy:=(HXwI.out.kd.cell j).trans (kd_at (T:=T) hjl hd)
           have HD:=jJ hd
           have hvb:=cv_ok HT.out.s.ok hd3
           have HVX:Hid (Calls Tryz.prog 17 #[.pointer (some ⟨g,0,none⟩),.int .i64 (d:Int)] wI (IntPost wI (cv T d))):=jJ ((HT.out.below HXwI.out.q.b).vertex hd3)
           obtain ⟨v,hv⟩:=jX (cv T d)
           rw [← hv] at hvb HVX
           have HV:=jJ hv
           have c2:=HXwI.out.q.k2.cell 0
           simp at c2
           have hji:(j:Int) < 3:=by omega
           have hvw:(Lit.int .i64 v).wf=true:=wf_small (by omega) (by omega)
           clear hd hv
           go_wp2_with fail
           refine HVX.out.mono ?_
           rintro e wJ ⟨rfl,hb⟩
           have HXwJ:=jJ (HXwI.out.below hb)
           clear hb HVX HXwI c2 cy
           have hlook1:=HXwJ.out.q.mp.look Tryz.underlying3 Tryz.underlying155 (zero_int47 wJ) hvw true
           by_cases hm:v ∈ o1
           · have hlook2:=HXwJ.out.q.mp.look Tryz.underlying3 Tryz.underlying155 (zero_int47 wJ) hvw false
             rw [nowF_yes hm] at hlook1 hlook2
             have hos:o1=oldN T x old (j + 1):=by rw [HO1.out]; rw [HO1.out,HV.out,HD.out] at hm; exact (oldN_yes hm).symm
             have hix:=old_idx (T:=T) HSX.out hjl
             rw [← HO.out,← hos,← HD.out,← HV.out] at hix
             rw [hix] at hlook1 hlook2
             simp only [Option.getD_some,Option.isSome_some,if_true,Bool.false_eq_true,if_false] at hlook1 hlook2
             have HOS:=jJ hos
             obtain ⟨z,hz⟩:=xN_at T x (oldC T s) hjl
             have cx:=(HXwJ.out.kx.cell j).trans hz
             have zx:=HXwJ.out.kx.frozen j
             clear hm hos hix hz
             go_wp2_with fail
             go_roundw
             case rel=>exact ⟨j + 1,A1,c1,o1,by omega,by go_num,rfl,HOS,jJ (HXwJ.out.store hjl)⟩
             case measure=>simp [intOf]; omega
           rw [nowF_no hm] at hlook1
           simp only [Option.getD_none,Option.isSome_none,if_true] at hlook1
           have hol:o1.length ≤ 3 * T.length + 3:=by
            have h1:=oldC_len (T:=T) (s.take k)
            have h2:=oldN_len T x old j
            rw [← HO.out] at h1
            rw [← HO1.out,List.length_take] at *
            have:=HF.out.short
            omega
           obtain ⟨es,ck,hst,hmp⟩:=HXwJ.out.q.mp.store Tryz.underlying3 Tryz.underlying155 (by unfold maxLen; omega) hvw (.int .i64 (o1.length:Int))
           rw [nowF_no hm] at hmp
           simp only [Option.isSome_none,Bool.false_eq_true,if_false] at hmp
           have HMP:=jJ hmp
           have HM:=jJ hm
           clear hm hmp
           go_upto_region 26 with (fail)
           obtain ⟨w6,hw6⟩:=jX (ChangeMaps.setBlock wJ bn (.map es ck))
           have HI6:Hid (IR w6 w.heap.size A1 c1 o1):=jJ (own_same HXwJ.out.q.o fun y hy=>by
            rw [hw6]
            exact heap_setBlock_ne wJ bn _ fun e=>by
             obtain ⟨ds,hd⟩:=own_blk HXwJ.out.q.o hy
             exact HXwJ.out.q.mp.ne_blk hd e.symm)
           have HB6:Hid (Below w.heap.size w w6):=by rw [hw6]; exact jJ (bw_setBlock HXwJ.out.q.b HGE.out.2 (.map es ck))
           have HW6:=jJ hw6
           rw [← hw6]
           clear hw6 hst hlook1
           go_upto_region 27 with (at_builtin; go_must (refine wpList_append_sl _ rfl (.tmp 95) (.tmp 97) _ rfl w.heap.size 3 i0 _ 1 8 Tryz.underlying30 hi0 hz0 hz1 hz2 rfl (by omega) (.slice A1 o1.length c1) o1.length (ZL o1) rfl (HI6.out.alloc _) (w6.heap.size + 1) (some ⟨w6.heap.size,0,none⟩) 1 1 [.int .i64 v] rfl (reads_new w6 #[.int .i64 v] 3 1 1 rfl) (by simp [Value.oneCell']) (by simp only [maxLen]; omega) (by omega) (by rw [World.size_alloc]; have:=HB6.out.size; omega) ?_); intro A7 c7 w7 hown7 hg7 hat7; have HO7:=jJ hown7; have HG7:=jJ hg7; have HA7:=jJ hat7; clear hown7 hg7 hat7)
           have hx7:=HXwJ.out.number (es:=es) (ck:=ck) HGE.out.2 HM.out HMP.out (by have h:=HO7.out; rw [HW6.out] at *; exact h) (by have h:=HG7.out; rw [HW6.out] at h; exact h) (by have h:=HA7.out; rw [HW6.out] at h; exact h)
           have HX7:=jJ hx7
           have hin:v ∈ o1 ++ [v]:=by simp
           have hlook2:=HX7.out.q.mp.look Tryz.underlying3 Tryz.underlying155 (zero_int47 w7) hvw false
           rw [nowF_yes hin] at hlook2
           have hos:o1 ++ [v]=oldN T x old (j + 1):=by
            have hm:=HM.out
            rw [HO1.out,HV.out,HD.out] at hm
            rw [HO1.out,HV.out,HD.out,oldN_no hm]
           have hix:=old_idx (T:=T) HSX.out hjl
           rw [← HO.out,← hos,← HD.out,← HV.out] at hix
           rw [hix] at hlook2
           simp only [Option.getD_some,Bool.false_eq_true,if_false] at hlook2
           have HOS:=jJ hos
           obtain ⟨z,hz⟩:=xN_at T x (oldC T s) hjl
           have cx:=(HX7.out.kx.cell j).trans hz
           have zx:=HX7.out.kx.frozen j
           clear hos hix hz hin hx7 HO7 HG7 HA7 HW6 HI6 HB6 HMP HM HXwJ
           go_wp2_with fail
           go_roundw
           case rel=>exact ⟨j + 1,A7,c7,o1 ++ [v],by omega,by go_num,by simp,HOS,jJ (HX7.out.store hjl)⟩
           case measure=>simp [intOf]; omega
         obtain rfl:j=3:=by omega
         obtain ⟨At,ct,h1,h2⟩:=HXwI.out.q.k11
         obtain ⟨j0,hj0,jz0,jz1,jz2⟩:=info_parts tri_info47
         have H1:=jJ h1
         have ho3:o1=oldC T (s.take (k + 1)):=by rw [HO1.out,oldN_three,HO.out,oldC_take HSX.out]
         have HO3:=jJ ho3
         have d1:wI.cell? ⟨b11,1,none⟩=some (.slice At k ct):=h1.cell 1
         have x0:wI.cell? ⟨bx,0,none⟩=some (.int .i64 (ixN T x (oldC T s) 0)):=HXwI.out.kx.cell 0
         have x1:wI.cell? ⟨bx,1,none⟩=some (.int .i64 (ixN T x (oldC T s) 1)):=HXwI.out.kx.cell 1
         have x2:wI.cell? ⟨bx,2,none⟩=some (.int .i64 (ixN T x (oldC T s) 2)):=HXwI.out.kx.cell 2
         have hlk:((s.take k).map (triR T (oldC T s))).length=k:=by rw [List.length_map,List.length_take]; omega
         have H2:=jJ h2
         have hw2:wI.ownsRow w.heap.size 65 3 (.slice At k ct) k (((s.take k).map (triR T (oldC T s))).flatMap Tri.cells):=by
          have h:=h2
          unfold LRow at h
          rw [hlk] at h
          exact h
         have HW2:=jJ hw2
         have HB3:=jJ HXwI.out.q.b
         have hsl:=HF.out.short
         clear h1 h2 ho3 hw2 hlk
         go_wp2_with (at_builtin; go_must (refine wpList_append_sl _ rfl (.tmp 106) (.tmp 108) _ rfl w.heap.size 65 j0 _ 3 24 Tryz.underlying22 hj0 jz0 jz1 jz2 rfl (by omega) (.slice At k ct) k (((s.take k).map (triR T (oldC T s))).flatMap Tri.cells) rfl (own_same HW2.out fun y hy=>Below.heap_alloc _ _ _ (HW2.out.lt y hy).2) (wI.heap.size + 1) (some ⟨wI.heap.size,0,none⟩) 1 1 [.int .i64 (ixN T x (oldC T s) 0),.int .i64 (ixN T x (oldC T s) 1),.int .i64 (ixN T x (oldC T s) 2)] rfl (reads_newN _ _ _ 1 3 rfl rfl) (by simp [Value.oneCell']) (by simp only [maxLen]; omega) (by omega) (by rw [World.size_alloc]; have:=HB3.out.size; omega) ?_); intro A5 c5 w5 hown5 hg5 hat5; have k11:=(H1.out.alloc (.cells #[.int .i64 (ixN T x (oldC T s) 0),.int .i64 (ixN T x (oldC T s) 1),.int .i64 (ixN T x (oldC T s) 2)] 65)).grown hg5 (fun e=>own_blk_ne HW2.out H1.out (by decide) e.symm); have y1:w5.cell? ⟨b11,1,none⟩=some (.slice At k ct):=k11.cell 1; have yf:=k11.frozen 1; have HO5:=jJ hown5; have HG5:=jJ hg5; clear hown5 hg5 hat5 k11)
         go_roundw
         case rel=>exact ⟨k + 1,A1,c1,o1,by omega,by go_num,rfl,HO3,jJ (HXwI.out.q.tri HSX.out HGE.out.1 H1.out H2.out HO5.out HG5.out)⟩
         case measure=>simp [intOf]; omega
       exact AllReadyH.nil
     exact AllReadyH.nil
   exact AllReadyH.nil
 obtain rfl:k=s.length:=by omega
 obtain ⟨At,ct,h1,h2⟩:=HQwR.out.k11
 have H1:=jJ h1
 have H2:=jJ h2
 have d0:wR.cell? ⟨b11,0,none⟩=some (.int .i64 0):=h1.cell 0
 have f0:=h1.frozen 0
 clear h1 h2
 go_upto_region 32 with (fail)
 obtain ⟨wY,hwY⟩:=jX (wR.setCell ⟨b11,0,none⟩ (.int .i64 (old.length:Int)))
 have DwY:Hid (Blk wY b11 24 #[.int .i64 (old.length:Int),.slice At s.length ct]):=by subst hwY; exact jJ (by simpa using H1.out.set_ 0 (.int .i64 (old.length:Int)))
 have EwY:Hid (Blk wY b8 30 #[.slice (some ⟨gc,0,none⟩) s.length cc]):=by subst hwY; exact jJ (HQwR.out.k8.far (p:=⟨b11,0,none⟩) (HQwR.out.k8.ne_ H1.out (by decide)) _)
 have KwY:Hid (Blk wY b4 24 #[.int .i64 0,.slice none 0 0]):=by subst hwY; exact jJ (HQwR.out.k4.far (p:=⟨b11,0,none⟩) HQwR.out.n4 _)
 have LwY:Hid (LRow wY w.heap.size At ct ((s.take s.length).map (triR T (oldC T s)))):=by subst hwY; exact jJ (H2.out.setSoup H1.out _)
 have IwY:Hid (IR wY w.heap.size Ao co old):=by subst hwY; exact jJ (HQwR.out.o.far H1.out (by decide) _)
 have JwY:Hid (Blk wY gc 3 ca):=by subst hwY; exact jJ (HQwR.out.kc.far (p:=⟨b11,0,none⟩) (HQwR.out.kc.ne_ H1.out (by decide)) _)
 have HBwY:Hid (Below w.heap.size w wY):=by subst hwY; exact jJ (bw_set HQwR.out.b (p:=⟨b11,0,none⟩) HGE.out.1 _)
 have HN4:=jJ HQwR.out.n4
 have HG4:Hid (w.heap.size ≤ b4):=HGB4
 rw [← hwY]
 clear hwY H1 H2 HQwR d0 f0
 refine wp_region_till (S:=fun w'=>w'.cell? ⟨b11,0,none⟩=some (.int .i64 (old.length:Int)) ∧ w'.cell? ⟨b11,1,none⟩=some (.slice At s.length ct) ∧ w'.cell? ⟨b8,0,none⟩=some (.slice (some ⟨gc,0,none⟩) s.length cc)) 5 (by kernel_rfl) ⟨(DwY.out.drew.cell 0),(DwY.out.drew.cell 1),(EwY.out.drew.cell 0)⟩ (fun hHeld=>?_)
 refine tKk 0 ?_; (try simp only [zQ])
 refine tKk 1 ?_; (try simp only [zQ])
 refine tKk 2 ?_; (try simp only [zQ])
 refine Till.ready (rs:=[3]) (by kernel_rfl) (by simp) ?_
 refine TillEach.cons rfl (fun K hK=>?_) ?_
 · have k0:=KwY.out.cell 0
   have k1:=KwY.out.cell 1
   have kf0:=KwY.out.frozen 0
   have kf1:=KwY.out.frozen 1
   simp at k0 k1
   go_simp
   go_wp2_with fail
   obtain ⟨v41,hvU⟩:=jX (((wY.setCell ⟨b4,0,none⟩ (.int .i64 (old.length:Int))).setCell ⟨b4,1,none⟩ (.slice At s.length ct)).drew)
   have hK1:=KwY.out.set_ 0 (.int .i64 (old.length:Int))
   have Dv41:Hid (Blk v41 b11 24 #[.int .i64 (old.length:Int),.slice At s.length ct]):=by subst hvU; exact jJ ((DwY.out.far (p:=⟨b4,0,none⟩) (fun e=>HN4.out e.symm) _).far (p:=⟨b4,1,none⟩) (fun e=>HN4.out e.symm) _).drew
   have Ev41:Hid (Blk v41 b8 30 #[.slice (some ⟨gc,0,none⟩) s.length cc]):=by subst hvU; exact jJ ((EwY.out.far (p:=⟨b4,0,none⟩) (EwY.out.ne_ KwY.out (by decide)) _).far (p:=⟨b4,1,none⟩) (EwY.out.ne_ KwY.out (by decide)) _).drew
   have Jv41:Hid (Blk v41 gc 3 ca):=by subst hvU; exact jJ ((JwY.out.far (p:=⟨b4,0,none⟩) (JwY.out.ne_ KwY.out (by decide)) _).far (p:=⟨b4,1,none⟩) (JwY.out.ne_ KwY.out (by decide)) _).drew
   have Kv41:Hid (Blk v41 b4 24 #[.int .i64 (old.length:Int),.slice At s.length ct]):=by subst hvU; exact jJ (by simpa using (hK1.set_ 1 (.slice At s.length ct)).drew)
   have Lv41:Hid (LRow v41 w.heap.size At ct ((s.take s.length).map (triR T (oldC T s)))):=by subst hvU; exact jJ (LwY.out.soup_set KwY.out _ _).drew
   have Iv41:Hid (IR v41 w.heap.size Ao co old):=by subst hvU; exact jJ ((IwY.out.far KwY.out (by decide) _).far hK1 (by decide) _).drew
   have HBv41:Hid (Below w.heap.size w v41):=by subst hvU; exact jJ (bw_drew (bw_set (bw_set HBwY.out (p:=⟨b4,0,none⟩) HG4.out _) (p:=⟨b4,1,none⟩) HG4.out _))
   rw [← hvU]
   clear hvU hK1 k0 k1 kf0 kf1 DwY EwY JwY KwY LwY IwY HBwY
   refine hK.out _ _ ?_ (fun hHeld=>?_)
   · exact ⟨(Dv41.out.cell 0),(Dv41.out.cell 1),(Ev41.out.cell 0)⟩
   clear hK K
   (try simp only [zQ])
   refine Till.ready (rs:=[4]) (by kernel_rfl) (by simp) ?_
   refine TillEach.cons rfl (fun K hK=>?_) ?_
   · go_simp
     go_wp2_with fail
     have Dv42:=Dv41
     have Ev42:=Ev41
     have Jv42:=Jv41
     have Kv42:=Kv41
     have Lv42:=Lv41
     have Iv42:=Iv41
     have HBv42:=HBv41
     refine hK.out _ _ ?_ (fun hHeld=>?_)
     · exact ⟨(Dv42.out.cell 0),(Dv42.out.cell 1),(Ev42.out.cell 0)⟩
     clear hK K
     (try simp only [zQ])
     refine Till.ready (rs:=[5]) (by kernel_rfl) (by simp) ?_
     refine TillEach.last rfl (fun K hK=>?_)
     go_simp
     refine hK.out _ _ ?_
     clear hK K
     (try simp only [zQ])
     refine Till.done (by kernel_rfl) ?_ _
     have f0:v41.cell? ⟨b4,0,none⟩=some (.int .i64 (old.length:Int)):=Kv42.out.cell 0
     have f1:v41.cell? ⟨b4,1,none⟩=some (.slice At s.length ct):=Kv42.out.cell 1
     go_wp2_with fail
     refine bodyPost_ret (v:=.tuple #[.agg #[.int .i64 (old.length:Int),.slice At s.length ct],.slice Ao old.length co,.slice (some ⟨gc,0,none⟩) s.length cc]) ?_ rfl ?_
     · simp [results,Tryz.results71,go_sem,f0,f1]
     have ho:old=rootO T c:=by rw [HO.out,List.take_length,HSF.out]; rfl
     have hl:(s.take s.length).map (triR T (oldC T s))=rootT T c:=by rw [List.take_length,HSF.out]; rfl
     refine ⟨At,Ao,some ⟨gc,0,none⟩,ct,co,cc,?_,?_,?_,?_,HBv42.out⟩
     · rw [ho,HSF.out]
     · rw [← hl]; exact Lv42.out
     · rw [← ho]; exact Iv42.out
     rw [← HSF.out]; exact ir_again HIR.out HOC.out KC.out Jv42.out
   exact TillEach.nil
 exact TillEach.nil
end
section
def rowC (T:List Tri) (c:Nat):List Int:=rowL ((rootO T c).length:Int) (rootT T c)
theorem rootT_len (T:List Tri) (c:Nat):(rootT T c).length=(rootC T c).length:=by unfold rootT; rw [List.length_map]
def FromPost (w:World) (T:List Tri) (c:Nat) (e:Ending) (w':World):Prop :=
 ∃ (Ar At Ao:Option Addr) (cr ct co:Nat),e=.returned (.agg #[.slice Ar (rowC T c).length cr,.int .i64 ((rootO T c).length:Int),.slice At (rootT T c).length ct,.slice none 0 0,.slice none 0 0,.slice Ao (rootO T c).length co]) ∧
  IR w' w.heap.size Ar cr (rowC T c) ∧ LRow w' w.heap.size At ct (rootT T c) ∧ IR w' w.heap.size Ao co (rootO T c) ∧ Below w.heap.size w w'
section
variable {w:World} {g:Nat} {a b c d e f:Value}
theorem blk_set6 {t:TypeId} {z0 z1 z2 z3 z4 z5:Value} (h:Blk w g t #[z0,z1,z2,z3,z4,z5]):Blk ((((((w.setCell ⟨g,0,none⟩ (a)).setCell ⟨g,1,none⟩ (b)).setCell ⟨g,2,none⟩ (c)).setCell ⟨g,3,none⟩ (d)).setCell ⟨g,4,none⟩ (e)).setCell ⟨g,5,none⟩ (f)) g t #[a,b,c,d,e,f]:=by
 simpa using (((((h.set_ 0 a).set_ 1 b).set_ 2 c).set_ 3 d).set_ 4 e).set_ 5 f
theorem heap_set6 {i:Nat} (h:i ≠ g):((((((w.setCell ⟨g,0,none⟩ (a)).setCell ⟨g,1,none⟩ (b)).setCell ⟨g,2,none⟩ (c)).setCell ⟨g,3,none⟩ (d)).setCell ⟨g,4,none⟩ (e)).setCell ⟨g,5,none⟩ (f)).heap[i]?=w.heap[i]?:=by
 rw [Below.heap_setCell _ ⟨g,5,none⟩ _ i h,Below.heap_setCell _ ⟨g,4,none⟩ _ i h,Below.heap_setCell _ ⟨g,3,none⟩ _ i h,Below.heap_setCell _ ⟨g,2,none⟩ _ i h,Below.heap_setCell _ ⟨g,1,none⟩ _ i h,Below.heap_setCell _ ⟨g,0,none⟩ _ i h]
theorem below_set6 {w0:World} (h:Below w0.heap.size w0 w) (hg:w0.heap.size ≤ g):Below w0.heap.size w0 ((((((w.setCell ⟨g,0,none⟩ (a)).setCell ⟨g,1,none⟩ (b)).setCell ⟨g,2,none⟩ (c)).setCell ⟨g,3,none⟩ (d)).setCell ⟨g,4,none⟩ (e)).setCell ⟨g,5,none⟩ (f)) :=
 bw_set (bw_set (bw_set (bw_set (bw_set (bw_set h (p:=⟨g,0,none⟩) hg _) (p:=⟨g,1,none⟩) hg _) (p:=⟨g,2,none⟩) hg _) (p:=⟨g,3,none⟩) hg _) (p:=⟨g,4,none⟩) hg _) (p:=⟨g,5,none⟩) hg _
theorem far_set6 {g':Nat} {t:TypeId} {cs:Array Value} (h:Blk w g' t cs) (hg:g' ≠ g):Blk ((((((w.setCell ⟨g,0,none⟩ (a)).setCell ⟨g,1,none⟩ (b)).setCell ⟨g,2,none⟩ (c)).setCell ⟨g,3,none⟩ (d)).setCell ⟨g,4,none⟩ (e)).setCell ⟨g,5,none⟩ (f)) g' t cs:=(heap_set6 hg).trans h
theorem own_set6 {B n s:Nat} {el t:TypeId} {v:Value} {xs:List Value} {cs:Array Value} (h:w.ownsRow B el s v n xs) (hb:Blk w g t cs) (ht:el ≠ t):((((((w.setCell ⟨g,0,none⟩ (a)).setCell ⟨g,1,none⟩ (b)).setCell ⟨g,2,none⟩ (c)).setCell ⟨g,3,none⟩ (d)).setCell ⟨g,4,none⟩ (e)).setCell ⟨g,5,none⟩ (f)).ownsRow B el s v n xs :=
 own_same h fun y hy=>heap_set6 fun e=>own_blk_ne h hb ht (e ▸ hy)
end
attribute [local irreducible] Blk World.alloc World.setCell World.cell? World.frozen? MapV MapI
theorem from_any (g m:Nat) (T:List Tri) (c:Nat) (x y:Value) (w:World) (hc:c < 3 * T.length) (h:TabN w g m T) :
  Calls Tryz.prog 50 #[.pointer (some ⟨g,0,none⟩),.agg #[x,y,.slice none 0 0,.slice none 0 0],.int .i64 (c:Int)] w (FromPost w T c):=by
 have HT:=jJ h
 have hn1000:=h.n
 clear h
 go_enter Tryz.func50,Tryz.ntmps50
 go_upto_region 1 with (fail)
 obtain ⟨wA,hwA⟩:=jX ((w.alloc (.cells #[x,y,.slice none 0 0,.slice none 0 0] 74)).alloc (.cells #[.slice none 0 0,.int .i64 0,.slice none 0 0,.slice none 0 0,.slice none 0 0,.slice none 0 0] 113))
 have K4A:Hid (Blk wA w.heap.size 74 #[x,y,.slice none 0 0,.slice none 0 0]):=by subst hwA; exact jJ ((Blk.new _ _ _).alloc _)
 have K6A:Hid (Blk wA (w.heap.size + 1) 113 #[.slice none 0 0,.int .i64 0,.slice none 0 0,.slice none 0 0,.slice none 0 0,.slice none 0 0]):=by subst hwA; exact jJ (Blk.new_ (by rw [World.size_alloc]) _ _)
 have HBA:Hid (Below w.heap.size w wA):=by subst hwA; exact jJ (bw_alloc (bw_alloc (Below.refl _ _) _) _)
 rw [← hwA]
 obtain ⟨b6,hb6⟩:=jX (w.heap.size + 1)
 obtain ⟨b4,hb4⟩:=jX w.heap.size
 have HG:Hid (w.heap.size ≤ b4 ∧ w.heap.size ≤ b6):=jJ (by omega)
 rw [← hb6] at K6A
 rw [← hb4] at K4A
 simp only [← hb6]
 simp only [← hb4]
 have HRC:=jJ (rooted_any g m T c wA hc (HT.out.below HBA.out))
 clear hwA hb4 hb6
 go_wp2_with fail
 refine HRC.out.mono ?_
 rintro e w1 ⟨At,Ao,Ac,ct,co,cc,rfl,hl,ho,_,hb⟩
 obtain ⟨R,hR⟩:=jX (rootT T c)
 obtain ⟨O,hO⟩:=jX (rootO T c)
 rw [← rootT_len,← hR,← hO]
 rw [← hR] at hl
 rw [← hO] at ho
 have HRR:=jJ hR
 have HOO:=jJ hO
 have hR1:R.length ≤ 1000:=by rw [hR,rootT_len]; have:=(rootC_fi hc).short; omega
 have K41:=jJ (K4A.out.below hb K4A.out.lt)
 have K61:=jJ (K6A.out.below hb K6A.out.lt)
 have HL1:=jJ (hl.base HBA.out.size)
 have HO1:=jJ (own_low (B:=w.heap.size) ho HBA.out.size)
 have HB1:=jJ (bw_call HBA.out hb)
 clear hl ho hb HRC K4A K6A HBA hR hO
 go_upto_region 2 with (fail)
 obtain ⟨w2,hw2⟩:=jX (w1.alloc (.cells #[.int .i64 (O.length:Int),.slice At R.length ct] 24))
 have Sw2:Hid (Blk w2 w1.heap.size 24 #[.int .i64 (O.length:Int),.slice At R.length ct]):=by subst hw2; exact jJ ((Blk.new _ _ _))
 have K4w2:Hid (Blk w2 b4 74 #[x,y,.slice none 0 0,.slice none 0 0]):=by subst hw2; exact jJ (K41.out.alloc _)
 have K6w2:Hid (Blk w2 b6 113 #[.slice none 0 0,.int .i64 0,.slice none 0 0,.slice none 0 0,.slice none 0 0,.slice none 0 0]):=by subst hw2; exact jJ (K61.out.alloc _)
 have HLw2:Hid (LRow w2 w.heap.size At ct R):=by subst hw2; exact jJ (HL1.out.alloc _)
 have HOw2:Hid (IR w2 w.heap.size Ao co O):=by subst hw2; exact jJ (IR.alloc HO1.out _)
 have HBw2:Hid (Below w.heap.size w w2):=by subst hw2; exact jJ (bw_alloc HB1.out _)
 rw [← hw2]
 obtain ⟨b7,hb7⟩:=jX w1.heap.size
 rw [← hb7] at Sw2
 simp only [← hb7]
 clear hw2 hb7 K41 K61 HL1 HO1 HB1
 refine wp_region_till (S:=fun w'=>w'.cell? ⟨b7,0,none⟩=some (.int .i64 (O.length:Int)) ∧ w'.cell? ⟨b7,1,none⟩=some (.slice At R.length ct)) 7 (by kernel_rfl) ⟨(Sw2.out.drew.cell 0),(Sw2.out.drew.cell 1)⟩ (fun hHeld=>?_)
 refine tKk 0 ?_; (try simp only [zQ])
 refine tKk 2 ?_; (try simp only [zQ])
 refine tKk 3 ?_; (try simp only [zQ])
 refine tKk 4 ?_; (try simp only [zQ])
 refine Till.ready (rs:=[1,6]) (by kernel_rfl) (by simp) ?_
 refine TillEach.cons rfl (fun K hK=>?_) ?_
 · go_simp
   go_wp2_with (go_at_call 84; refine (row_any w2.drew w.heap.size (O.length:Int) At ct R hR1 HLw2.out.drew).mono ?_; rintro e v3 ⟨Ar,cr,rfl,hr,hb⟩)
   have Sv3:=jJ (blk_call Sw2.out.drew hb)
   have K4v3:=jJ (blk_call K4w2.out.drew hb)
   have K6v3:=jJ (blk_call K6w2.out.drew hb)
   have HLv3:=jJ (HLw2.out.drew.below hb)
   have HOv3:=jJ (HOw2.out.drew.below hb)
   have HRv3:=jJ (own_low (B:=w.heap.size) hr (bw_drew HBw2.out).size)
   try (have KBv3:=jJ (blk_call KBw2.out hb); have q0:=KBv3.out.cell 0; have q1:=KBv3.out.cell 1; have q2:=KBv3.out.cell 2; have q3:=KBv3.out.cell 3; have q4:=KBv3.out.cell 4; have q5:=KBv3.out.cell 5; have qf0:=KBv3.out.frozen 0; have qf1:=KBv3.out.frozen 1; have qf2:=KBv3.out.frozen 2; have qf3:=KBv3.out.frozen 3; have qf4:=KBv3.out.frozen 4; have qf5:=KBv3.out.frozen 5; simp at q0 q1 q2 q3 q4 q5)
   clear hr
   have HBv3:=jJ (bw_call (bw_drew HBw2.out) hb)
   clear hb
   refine hK.out _ _ ?_ (fun hHeld=>?_)
   · exact ⟨(Sv3.out.cell 0),(Sv3.out.cell 1)⟩
   clear hK K
   (try simp only [zQ])
   refine tKk 5 ?_; (try simp only [zQ])
   refine Till.ready (rs:=[6]) (by kernel_rfl) (by simp) ?_
   refine TillEach.cons rfl (fun K hK=>?_) ?_
   · go_simp
     go_wp2_with fail
     obtain ⟨v4,hvU⟩:=jX ((v3.alloc (.cells #[.slice none 0 0,.int .i64 0,.slice none 0 0,.slice none 0 0,.slice none 0 0,.slice none 0 0] 113)))
     have Sv4:Hid (Blk v4 b7 24 #[.int .i64 (O.length:Int),.slice At R.length ct]):=by subst hvU; exact jJ ((Sv3.out.alloc _))
     have K4v4:Hid (Blk v4 b4 74 #[x,y,.slice none 0 0,.slice none 0 0]):=by subst hvU; exact jJ ((K4v3.out.alloc _))
     have K6v4:Hid (Blk v4 b6 113 #[.slice none 0 0,.int .i64 0,.slice none 0 0,.slice none 0 0,.slice none 0 0,.slice none 0 0]):=by subst hvU; exact jJ ((K6v3.out.alloc _))
     have KBv4:Hid (Blk v4 v3.heap.size 113 #[.slice none 0 0,.int .i64 0,.slice none 0 0,.slice none 0 0,.slice none 0 0,.slice none 0 0]):=by subst hvU; exact jJ ((Blk.new _ _ _))
     have HLv4:Hid (LRow v4 w.heap.size At ct R):=by subst hvU; exact jJ ((HLv3.out.alloc _))
     have HOv4:Hid (IR v4 w.heap.size Ao co O):=by subst hvU; exact jJ ((IR.alloc HOv3.out _))
     try (have HRv4:Hid (IR v4 w.heap.size Ar cr (rowL (O.length:Int) R)):=by subst hvU; exact jJ ((IR.alloc HRv3.out _)))
     have HBv4:Hid (Below w.heap.size w v4):=by subst hvU; first | exact jJ (bw_alloc HBv3.out _) | exact jJ (bw_drew (bw_alloc HBv3.out _))
     have HGB:Hid (w.heap.size ≤ v3.heap.size ∧ v3.heap.size ≠ b6):=jJ ⟨HBv3.out.size,fun e=>Nat.lt_irrefl _ (e ▸ K6v3.out.lt)⟩
     obtain ⟨b10,hb10⟩:=jX v3.heap.size
     rw [← hvU]
     rw [← hb10] at KBv4 HGB
     simp only [← hb10]
     clear hvU hb10
     have q0:=KBv4.out.cell 0
     have q1:=KBv4.out.cell 1
     have q2:=KBv4.out.cell 2
     have q3:=KBv4.out.cell 3
     have q4:=KBv4.out.cell 4
     have q5:=KBv4.out.cell 5
     have qf0:=KBv4.out.frozen 0
     have qf1:=KBv4.out.frozen 1
     have qf2:=KBv4.out.frozen 2
     have qf3:=KBv4.out.frozen 3
     have qf4:=KBv4.out.frozen 4
     have qf5:=KBv4.out.frozen 5
     simp at q0 q1 q2 q3 q4 q5
     refine hK.out _ _ ?_ (fun hHeld=>?_)
     · exact ⟨(Sv4.out.cell 0),(Sv4.out.cell 1)⟩
     clear hK K
     (try simp only [zQ])
     refine Till.ready (rs:=[7]) (by kernel_rfl) (by simp) ?_
     refine TillEach.last rfl (fun K hK=>?_)
     go_simp
     refine hK.out _ _ ?_
     clear hK K
     (try simp only [zQ])
     refine Till.done (by kernel_rfl) ?_ _
     go_upto_region 3 with (fail)
     obtain ⟨w9,hw9⟩:=jX (((((((v4.setCell ⟨b10,0,none⟩ (.slice Ar (rowL (O.length:Int) R).length cr)).setCell ⟨b10,1,none⟩ (.int .i64 (O.length:Int))).setCell ⟨b10,2,none⟩ (.slice At R.length ct)).setCell ⟨b10,3,none⟩ (.slice none 0 0)).setCell ⟨b10,4,none⟩ (.slice none 0 0)).setCell ⟨b10,5,none⟩ (.slice Ao O.length co)))
     have KB9:Hid (Blk w9 b10 113 #[.slice Ar (rowL (O.length:Int) R).length cr,.int .i64 (O.length:Int),.slice At R.length ct,.slice none 0 0,.slice none 0 0,.slice Ao O.length co]):=by subst hw9; exact jJ (blk_set6 KBv4.out)
     have K49:Hid (Blk w9 b4 74 #[x,y,.slice none 0 0,.slice none 0 0]):=by subst hw9; exact jJ (far_set6 K4v4.out (K4v4.out.ne_ KBv4.out (by decide)))
     have K69:Hid (Blk w9 b6 113 #[.slice none 0 0,.int .i64 0,.slice none 0 0,.slice none 0 0,.slice none 0 0,.slice none 0 0]):=by subst hw9; exact jJ (far_set6 K6v4.out (Ne.symm HGB.out.2))
     have HL9:Hid (LRow w9 w.heap.size At ct R):=by subst hw9; exact jJ (own_set6 HLv4.out KBv4.out (by decide))
     have HO9:Hid (IR w9 w.heap.size Ao co O):=by subst hw9; exact jJ (own_set6 HOv4.out KBv4.out (by decide))
     have HR9:Hid (IR w9 w.heap.size Ar cr (rowL (O.length:Int) R)):=by subst hw9; exact jJ (own_set6 HRv4.out KBv4.out (by decide))
     have HB9:Hid (Below w.heap.size w w9):=by subst hw9; exact jJ (below_set6 HBv4.out HGB.out.1)
     rw [← hw9]
     clear hw9 q0 q1 q2 q3 q4 q5 qf0 qf1 qf2 qf3 qf4 qf5
     have p2:=K49.out.cell 2
     have p3:=K49.out.cell 3
     have q0:=KB9.out.cell 0
     have q1:=KB9.out.cell 1
     have q2:=KB9.out.cell 2
     have q3:=KB9.out.cell 3
     have q4:=KB9.out.cell 4
     have q5:=KB9.out.cell 5
     have s0:=K69.out.cell 0
     have s1:=K69.out.cell 1
     have s2:=K69.out.cell 2
     have s3:=K69.out.cell 3
     have s4:=K69.out.cell 4
     have s5:=K69.out.cell 5
     have sf0:=K69.out.frozen 0
     have sf1:=K69.out.frozen 1
     have sf2:=K69.out.frozen 2
     have sf3:=K69.out.frozen 3
     have sf4:=K69.out.frozen 4
     have sf5:=K69.out.frozen 5
     simp at p2 p3 q0 q1 q2 q3 q4 q5 s0 s1 s2 s3 s4 s5
     go_wp2_with fail
     have kf:=blk_set6 (a:=.slice Ar (rowL (O.length:Int) R).length cr) (b:=.int .i64 (O.length:Int)) (c:=.slice At R.length ct) (d:=.slice none 0 0) (e:=.slice none 0 0) (f:=.slice Ao O.length co) K69.out
     have f0:=kf.cell 0
     have f1:=kf.cell 1
     have f2:=kf.cell 2
     have f3:=kf.cell 3
     have f4:=kf.cell 4
     have f5:=kf.cell 5
     simp only [List.getElem?_toArray,List.getElem?_cons_zero,List.getElem?_cons_succ] at f0 f1 f2 f3 f4 f5
     refine bodyPost_ret (v:=.agg #[.slice Ar (rowL (O.length:Int) R).length cr,.int .i64 (O.length:Int),.slice At R.length ct,.slice none 0 0,.slice none 0 0,.slice Ao O.length co]) ?_ rfl ⟨Ar,At,Ao,cr,ct,co,?_,?_,?_,?_,below_set6 HB9.out HG.out.2⟩
     · simp [results,Tryz.results50,go_sem,f0,f1,f2,f3,f4,f5]
     · unfold rowC
       rw [← HOO.out,← HRR.out]
     · unfold rowC
       rw [← HOO.out,← HRR.out]
       exact own_set6 HR9.out K69.out (by decide)
     · rw [← HRR.out]
       exact own_set6 HL9.out K69.out (by decide)
     rw [← HOO.out]
     exact own_set6 HO9.out K69.out (by decide)
   exact TillEach.nil
 refine TillEach.cons rfl (fun K hK=>?_) ?_
 · go_simp
   go_wp2_with fail
   obtain ⟨v3,hvU⟩:=jX ((w2.alloc (.cells #[.slice none 0 0,.int .i64 0,.slice none 0 0,.slice none 0 0,.slice none 0 0,.slice none 0 0] 113)).drew)
   have Sv3:Hid (Blk v3 b7 24 #[.int .i64 (O.length:Int),.slice At R.length ct]):=by subst hvU; exact jJ ((Sw2.out.alloc _).drew)
   have K4v3:Hid (Blk v3 b4 74 #[x,y,.slice none 0 0,.slice none 0 0]):=by subst hvU; exact jJ ((K4w2.out.alloc _).drew)
   have K6v3:Hid (Blk v3 b6 113 #[.slice none 0 0,.int .i64 0,.slice none 0 0,.slice none 0 0,.slice none 0 0,.slice none 0 0]):=by subst hvU; exact jJ ((K6w2.out.alloc _).drew)
   have KBv3:Hid (Blk v3 w2.heap.size 113 #[.slice none 0 0,.int .i64 0,.slice none 0 0,.slice none 0 0,.slice none 0 0,.slice none 0 0]):=by subst hvU; exact jJ ((Blk.new _ _ _).drew)
   have HLv3:Hid (LRow v3 w.heap.size At ct R):=by subst hvU; exact jJ ((HLw2.out.alloc _).drew)
   have HOv3:Hid (IR v3 w.heap.size Ao co O):=by subst hvU; exact jJ ((IR.alloc HOw2.out _).drew)
   try (have HRv3:Hid (IR v3 w.heap.size Ar cr (rowL (O.length:Int) R)):=by subst hvU; exact jJ ((IR.alloc HRw2.out _).drew))
   have HBv3:Hid (Below w.heap.size w v3):=by subst hvU; first | exact jJ (bw_alloc HBw2.out _) | exact jJ (bw_drew (bw_alloc HBw2.out _))
   have HGB:Hid (w.heap.size ≤ w2.heap.size ∧ w2.heap.size ≠ b6):=jJ ⟨HBw2.out.size,fun e=>Nat.lt_irrefl _ (e ▸ K6w2.out.lt)⟩
   obtain ⟨b10,hb10⟩:=jX w2.heap.size
   rw [← hvU]
   rw [← hb10] at KBv3 HGB
   simp only [← hb10]
   clear hvU hb10
   have q0:=KBv3.out.cell 0
   have q1:=KBv3.out.cell 1
   have q2:=KBv3.out.cell 2
   have q3:=KBv3.out.cell 3
   have q4:=KBv3.out.cell 4
   have q5:=KBv3.out.cell 5
   have qf0:=KBv3.out.frozen 0
   have qf1:=KBv3.out.frozen 1
   have qf2:=KBv3.out.frozen 2
   have qf3:=KBv3.out.frozen 3
   have qf4:=KBv3.out.frozen 4
   have qf5:=KBv3.out.frozen 5
   simp at q0 q1 q2 q3 q4 q5
   refine hK.out _ _ ?_ (fun hHeld=>?_)
   · exact ⟨(Sv3.out.cell 0),(Sv3.out.cell 1)⟩
   clear hK K
   (try simp only [zQ])
   refine Till.ready (rs:=[1]) (by kernel_rfl) (by simp) ?_
   refine TillEach.cons rfl (fun K hK=>?_) ?_
   · go_simp
     go_wp2_with (go_at_call 84; refine (row_any v3 w.heap.size (O.length:Int) At ct R hR1 HLv3.out).mono ?_; rintro e v4 ⟨Ar,cr,rfl,hr,hb⟩)
     have Sv4:=jJ (blk_call Sv3.out hb)
     have K4v4:=jJ (blk_call K4v3.out hb)
     have K6v4:=jJ (blk_call K6v3.out hb)
     have HLv4:=jJ (HLv3.out.below hb)
     have HOv4:=jJ (HOv3.out.below hb)
     have HRv4:=jJ (own_low (B:=w.heap.size) hr HBv3.out.size)
     try (have KBv4:=jJ (blk_call KBv3.out hb); have q0:=KBv4.out.cell 0; have q1:=KBv4.out.cell 1; have q2:=KBv4.out.cell 2; have q3:=KBv4.out.cell 3; have q4:=KBv4.out.cell 4; have q5:=KBv4.out.cell 5; have qf0:=KBv4.out.frozen 0; have qf1:=KBv4.out.frozen 1; have qf2:=KBv4.out.frozen 2; have qf3:=KBv4.out.frozen 3; have qf4:=KBv4.out.frozen 4; have qf5:=KBv4.out.frozen 5; simp at q0 q1 q2 q3 q4 q5)
     clear hr
     have HBv4:=jJ (bw_call HBv3.out hb)
     clear hb Sv3 K4v3 K6v3 HLv3 HOv3 HBv3
     refine hK.out _ _ ?_ (fun hHeld=>?_)
     · exact ⟨(Sv4.out.cell 0),(Sv4.out.cell 1)⟩
     clear hK K
     (try simp only [zQ])
     refine tKk 5 ?_; (try simp only [zQ])
     refine Till.ready (rs:=[7]) (by kernel_rfl) (by simp) ?_
     refine TillEach.last rfl (fun K hK=>?_)
     go_simp
     refine hK.out _ _ ?_
     clear hK K
     (try simp only [zQ])
     refine Till.done (by kernel_rfl) ?_ _
     go_upto_region 3 with (fail)
     obtain ⟨w9,hw9⟩:=jX (((((((v4.setCell ⟨b10,0,none⟩ (.slice Ar (rowL (O.length:Int) R).length cr)).setCell ⟨b10,1,none⟩ (.int .i64 (O.length:Int))).setCell ⟨b10,2,none⟩ (.slice At R.length ct)).setCell ⟨b10,3,none⟩ (.slice none 0 0)).setCell ⟨b10,4,none⟩ (.slice none 0 0)).setCell ⟨b10,5,none⟩ (.slice Ao O.length co)))
     have KB9:Hid (Blk w9 b10 113 #[.slice Ar (rowL (O.length:Int) R).length cr,.int .i64 (O.length:Int),.slice At R.length ct,.slice none 0 0,.slice none 0 0,.slice Ao O.length co]):=by subst hw9; exact jJ (blk_set6 KBv4.out)
     have K49:Hid (Blk w9 b4 74 #[x,y,.slice none 0 0,.slice none 0 0]):=by subst hw9; exact jJ (far_set6 K4v4.out (K4v4.out.ne_ KBv4.out (by decide)))
     have K69:Hid (Blk w9 b6 113 #[.slice none 0 0,.int .i64 0,.slice none 0 0,.slice none 0 0,.slice none 0 0,.slice none 0 0]):=by subst hw9; exact jJ (far_set6 K6v4.out (Ne.symm HGB.out.2))
     have HL9:Hid (LRow w9 w.heap.size At ct R):=by subst hw9; exact jJ (own_set6 HLv4.out KBv4.out (by decide))
     have HO9:Hid (IR w9 w.heap.size Ao co O):=by subst hw9; exact jJ (own_set6 HOv4.out KBv4.out (by decide))
     have HR9:Hid (IR w9 w.heap.size Ar cr (rowL (O.length:Int) R)):=by subst hw9; exact jJ (own_set6 HRv4.out KBv4.out (by decide))
     have HB9:Hid (Below w.heap.size w w9):=by subst hw9; exact jJ (below_set6 HBv4.out HGB.out.1)
     rw [← hw9]
     clear hw9 q0 q1 q2 q3 q4 q5 qf0 qf1 qf2 qf3 qf4 qf5
     have p2:=K49.out.cell 2
     have p3:=K49.out.cell 3
     have q0:=KB9.out.cell 0
     have q1:=KB9.out.cell 1
     have q2:=KB9.out.cell 2
     have q3:=KB9.out.cell 3
     have q4:=KB9.out.cell 4
     have q5:=KB9.out.cell 5
     have s0:=K69.out.cell 0
     have s1:=K69.out.cell 1
     have s2:=K69.out.cell 2
     have s3:=K69.out.cell 3
     have s4:=K69.out.cell 4
     have s5:=K69.out.cell 5
     have sf0:=K69.out.frozen 0
     have sf1:=K69.out.frozen 1
     have sf2:=K69.out.frozen 2
     have sf3:=K69.out.frozen 3
     have sf4:=K69.out.frozen 4
     have sf5:=K69.out.frozen 5
     simp at p2 p3 q0 q1 q2 q3 q4 q5 s0 s1 s2 s3 s4 s5
     go_wp2_with fail
     have kf:=blk_set6 (a:=.slice Ar (rowL (O.length:Int) R).length cr) (b:=.int .i64 (O.length:Int)) (c:=.slice At R.length ct) (d:=.slice none 0 0) (e:=.slice none 0 0) (f:=.slice Ao O.length co) K69.out
     have f0:=kf.cell 0
     have f1:=kf.cell 1
     have f2:=kf.cell 2
     have f3:=kf.cell 3
     have f4:=kf.cell 4
     have f5:=kf.cell 5
     simp only [List.getElem?_toArray,List.getElem?_cons_zero,List.getElem?_cons_succ] at f0 f1 f2 f3 f4 f5
     refine bodyPost_ret (v:=.agg #[.slice Ar (rowL (O.length:Int) R).length cr,.int .i64 (O.length:Int),.slice At R.length ct,.slice none 0 0,.slice none 0 0,.slice Ao O.length co]) ?_ rfl ⟨Ar,At,Ao,cr,ct,co,?_,?_,?_,?_,below_set6 HB9.out HG.out.2⟩
     · simp [results,Tryz.results50,go_sem,f0,f1,f2,f3,f4,f5]
     · unfold rowC
       rw [← HOO.out,← HRR.out]
     · unfold rowC
       rw [← HOO.out,← HRR.out]
       exact own_set6 HR9.out K69.out (by decide)
     · rw [← HRR.out]
       exact own_set6 HL9.out K69.out (by decide)
     rw [← HOO.out]
     exact own_set6 HO9.out K69.out (by decide)
   exact TillEach.nil
 exact TillEach.nil
end
section
def cmpL:List Int → List Int → Int
 | [],[]=>0
 | [],_ :: _=>-1
 | _ :: _,[]=>1
 | x :: a,y :: b=>if cmpI x y=0 then cmpL a b else cmpI x y
theorem own_max {w:World} {base n:Nat} {e:TypeId} {size:Nat} {v:Value} {xs:List Value} (h:w.ownsRow base e size v n xs):n ≤ maxLen:=by
 rcases h.2 with ⟨_,rfl⟩ | ⟨g,cap,cur,_,_,_,h1,h2,_⟩
 · exact Nat.zero_le _
 exact Nat.le_trans h1 h2
theorem cmpL_cc (x y:Int) (a b:List Int):cmpL (x :: a) (y :: b)=if cmpI x y=0 then cmpL a b else cmpI x y:=rfl
theorem cmpL_cn (x:Int) (a:List Int):cmpL (x :: a) []=1:=rfl
theorem cmpL_nc (y:Int) (b:List Int):cmpL [] (y :: b)=-1:=rfl
theorem cmpR_reads (w:World) (B1 B2:Nat) (A1 A2:Option Addr) (c1 c2:Nat) (L1 L2:List Int) (h1:Reads w B1 1 A1 L1.length (ZL L1)) (h2:Reads w B2 1 A2 L2.length (ZL L2)) (hmx:L1.length ≤ maxLen) :
  Calls Tryz.prog 51 #[.slice A1 L1.length c1,.slice A2 L2.length c2] w (IsPost w (.int .i64 (cmpL L1 L2))):=by
 have H1:=jJ h1
 have H2:=jJ h2
 obtain ⟨fin,hfin⟩:=jX (cmpL L1 L2)
 rw [← hfin]
 have HF:=jJ hfin
 obtain ⟨n1,hn1⟩:=jX L1.length
 obtain ⟨n2,hn2⟩:=jX L2.length
 rw [← hn1,← hn2]
 have hm1:n1 ≤ maxLen:=by rw [hn1]; exact hmx
 unfold maxLen at hm1
 have HN1:=jJ hn1
 have HN2:=jJ hn2
 clear h1 h2 hfin hn1 hn2
 go_enter Tryz.func51,Tryz.ntmps51
 go_wp2_with fail
 go_loopw [5,6,7,8,11] (fun _ _ _ _ kv wr=>∃ k:Nat,k ≤ n1 ∧ k ≤ n2 ∧ kv=.int .i64 (k:Int) ∧ Hid (cmpL (L1.drop k) (L2.drop k)=fin) ∧ wr=w) (fun _ _ _ _ kv _=>n1 - (intOf kv).toNat)
 case atStart=>exact ⟨0,by omega,by omega,rfl,jJ HF.out.symm,rfl⟩
 clear HF
 obtain ⟨k,hk1,hk2,rfl,HF,rfl⟩:=hrel
 by_cases hkl:k < n1
 · have hl1:k < L1.length:=by rw [← HN1.out]; exact hkl
   obtain ⟨ad1,x,rfl,_,hx,d1⟩:=zl_read H1.out hl1
   rw [List.getElem?_eq_getElem hl1] at hx
   injection hx with hx
   replace hx:=hx.symm
   have HD1:Hid (L1.drop k=x :: L1.drop (k + 1)):=jJ (by rw [List.drop_eq_getElem_cons hl1,hx])
   have hki:(k:Int) < (n1:Int):=by omega
   clear hx
   by_cases hk3:k < n2
   · have hl2:k < L2.length:=by rw [← HN2.out]; exact hk3
     obtain ⟨ad2,y,rfl,_,hy,d2⟩:=zl_read H2.out hl2
     rw [List.getElem?_eq_getElem hl2] at hy
     injection hy with hy
     replace hy:=hy.symm
     have HD2:Hid (L2.drop k=y :: L2.drop (k + 1)):=jJ (by rw [List.drop_eq_getElem_cons hl2,hy])
     have hkj:¬ (n2:Int) ≤ (k:Int):=by omega
     have hkj2:(k:Int) < (n2:Int):=by omega
     have HC:=jJ (compare_any x y wr)
     clear hy hl1 hl2
     go_wp2_with fail
     refine HC.out.mono ?_
     rintro e w3 ⟨rfl,rfl⟩
     by_cases hc:cmpI x y=0
     · have hcb:(cmpI x y != 0)=false:=by rw [hc]; rfl
       have HFN:Hid (cmpL (L1.drop (k + 1)) (L2.drop (k + 1))=fin):=jJ (by
        have h:=HF.out
        rw [HD1.out,HD2.out,cmpL_cc,if_pos hc] at h
        exact h)
       clear hc HC
       go_wp2_with fail
       go_roundw
       case rel=>exact ⟨k + 1,by omega,by omega,by go_num,HFN,trivial⟩
       case measure=>simp [intOf]; omega
     have hcb:(cmpI x y != 0)=true:=by rw [bne_iff_ne]; exact hc
     have HE:Hid (cmpI x y=fin):=jJ (by
      have h:=HF.out
      rw [HD1.out,HD2.out,cmpL_cc,if_neg hc] at h
      exact h)
     clear hc HC
     go_wp2_with fail
     go_ret
     exact ⟨by have h:=HE.out; subst h; rfl,rfl⟩
   have hkj:(n2:Int) ≤ (k:Int):=by omega
   have HE:Hid ((1:Int)=fin):=jJ (by
    have h:=HF.out
    rw [HD1.out,show L2.drop k=[] from List.drop_eq_nil_of_le (by have:=HN2.out; omega),cmpL_cn] at h
    exact h)
   go_wp2_with fail
   go_ret
   exact ⟨by have h:=HE.out; subst h; rfl,rfl⟩
 obtain rfl:k=n1:=by omega
 by_cases hlt:k < n2
 · have hlti:(k:Int) < (n2:Int):=by omega
   have HE:Hid ((-1:Int)=fin):=jJ (by
    have h:=HF.out
    have hl2:k < L2.length:=by rw [← HN2.out]; exact hlt
    rw [show L1.drop k=[] from List.drop_eq_nil_of_le (by have:=HN1.out; omega),List.drop_eq_getElem_cons hl2,cmpL_nc] at h
    exact h)
   go_wp2_with fail
   go_ret
   exact ⟨by have h:=HE.out; subst h; rfl,rfl⟩
 have hlti:¬ (k:Int) < (n2:Int):=by omega
 have HE:Hid ((0:Int)=fin):=jJ (by
  have h:=HF.out
  rw [show L1.drop k=[] from List.drop_eq_nil_of_le (by have:=HN1.out; omega),show L2.drop k=[] from List.drop_eq_nil_of_le (by have:=HN2.out; omega)] at h
  exact h)
 go_wp2_with fail
 go_ret
 exact ⟨by have h:=HE.out; subst h; rfl,rfl⟩
theorem cmpL_any (w:World) (B1 B2:Nat) (A1 A2:Option Addr) (c1 c2:Nat) (L1 L2:List Int) (h1:IR w B1 A1 c1 L1) (h2:IR w B2 A2 c2 L2) :
  Calls Tryz.prog 51 #[.slice A1 L1.length c1,.slice A2 L2.length c2] w (IsPost w (.int .i64 (cmpL L1 L2))) :=
 cmpR_reads w w.heap.size w.heap.size A1 A2 c1 c2 L1 L2 (IR.reads h1) (IR.reads h2) (own_max h1)
end
section
def ltL (a b:List Int):Prop:=cmpL a b < 0
instance (a b:List Int):Decidable (ltL a b):=by unfold ltL; exact inferInstance
theorem cmpI_anti (x y:Int):cmpI x y=- cmpI y x:=by unfold cmpI; split <;> split <;> omega
theorem cmpL_anti:∀ a b:List Int,cmpL a b=- cmpL b a
 | [],[]=>rfl
 | [],_ :: _=>rfl
 | _ :: _,[]=>rfl
 | x :: a,y :: b=>by
  rw [cmpL_cc,cmpL_cc,cmpL_anti a b,cmpI_anti x y]
  by_cases h:cmpI y x=0
  · rw [if_pos (by omega),if_pos h]
  rw [if_neg (by omega),if_neg h]
theorem cmpI_zero {x y:Int}:cmpI x y=0 ↔ x=y:=by unfold cmpI; split <;> (try split) <;> omega
theorem cmpI_neg {x y:Int}:cmpI x y < 0 ↔ x < y:=by unfold cmpI; split <;> (try split) <;> omega
theorem cmpL_zero:∀ {a b:List Int},cmpL a b=0 ↔ a=b
 | [],[]=>by simp [cmpL]
 | [],_ :: _=>by simp [cmpL]
 | _ :: _,[]=>by simp [cmpL]
 | x :: a,y :: b=>by
  rw [cmpL_cc]
  by_cases h:cmpI x y=0
  · rw [if_pos h,cmpL_zero,cmpI_zero.1 h]; simp
  rw [if_neg h]; have:=mt cmpI_zero.2 h; simp [h,this]
theorem ltL_nil {a:List Int}:¬ ltL a []:=by cases a <;> simp [ltL,cmpL]
theorem ltL_cc {x y:Int} {a b:List Int}:ltL (x :: a) (y :: b) ↔ x < y ∨ x=y ∧ ltL a b:=by
 unfold ltL
 rw [cmpL_cc]
 by_cases h:cmpI x y=0
 · rw [if_pos h]; have:=cmpI_zero.1 h; subst this; simp
 rw [if_neg h,cmpI_neg]; have:=mt cmpI_zero.2 h; simp [this]
theorem ltL_irr (a:List Int):¬ ltL a a:=by unfold ltL; rw [cmpL_zero.2 rfl]; omega
theorem ltL_trans:∀ {a b c:List Int},ltL a b → ltL b c → ltL a c
 | _,b,[],_,h=>absurd h ltL_nil
 | a,[],_ :: _,h,_=>absurd h ltL_nil
 | [],_ :: _,_ :: _,_,_=>by simp [ltL,cmpL]
 | x :: a,y :: b,z :: c,h1,h2=>by
  rw [ltL_cc] at *
  rcases h1 with h1 | ⟨rfl,h1⟩
  · rcases h2 with h2 | ⟨rfl,h2⟩
    · left; omega
    exact Or.inl h1
  rcases h2 with h2 | ⟨rfl,h2⟩
  · exact Or.inl h2
  exact Or.inr ⟨rfl,ltL_trans h1 h2⟩
theorem ltL_tri (a b:List Int):ltL a b ∨ a=b ∨ ltL b a:=by
 unfold ltL
 by_cases h:cmpL a b=0
 · exact Or.inr (Or.inl (cmpL_zero.1 h))
 rcases (by omega:cmpL a b < 0 ∨ 0 < cmpL a b) with h1 | h1
 · exact Or.inl h1
 refine Or.inr (Or.inr ?_)
 have:=cmpL_anti b a
 omega
theorem ltL_ntrans {a b c:List Int} (h1:¬ ltL a b) (h2:¬ ltL b c):¬ ltL a c:=by
 intro h
 rcases ltL_tri a b with h3 | rfl | h3
 · exact h1 h3
 · exact h2 h
 exact h2 (ltL_trans h3 h)
theorem ltL_eq {a b:List Int} (h1:¬ ltL a b) (h2:¬ ltL b a):a=b:=by
 rcases ltL_tri a b with h | h | h
 · exact absurd h h1
 · exact h
 exact absurd h h2
end
section
def pickB (T:List Tri) (i:Nat):Option Nat → Option Nat
 | none=>some i
 | some b=>if cmpL (rowC T i) (rowC T b) < 0 then some i else some b
def bestF (T:List Tri):Nat → Nat → Option Nat
 | 0=>fun _=>none
 | i + 1=>updF (bestF T i) (ofN T (i / 3)) (pickB T i (bestF T i (ofN T (i / 3))))
def bestN (T:List Tri) (k:Nat):Nat:=(bestF T (3 * T.length) k).getD 0
section
variable {T:List Tri}
theorem pickB_some (i:Nat) (o:Option Nat):∃ b,pickB T i o=some b:=by
 cases o with
 | none=>exact ⟨_,rfl⟩
 | some b =>
  unfold pickB
  dsimp only
  split
  · exact ⟨_,rfl⟩
  exact ⟨_,rfl⟩
structure BestI (T:List Tri) (i k b:Nat):Prop where
 lt:b < i
 of:ofN T (b / 3)=k
 le:∀ c,c < i → ofN T (c / 3)=k → ¬ ltL (rowC T c) (rowC T b)
theorem best_is:∀ (i:Nat) {k b:Nat},bestF T i k=some b → BestI T i k b
 | 0,_,_,h=>by simp [bestF] at h
 | i + 1,k,b,h=>by
  unfold bestF at h
  by_cases hk:k=ofN T (i / 3)
  · rw [← hk,updF_at] at h
    cases hb:bestF T i k with
    | none =>
     rw [hb] at h
     have h:some i=some b:=h
     injection h with h
     subst h
     refine ⟨Nat.lt_succ_self _,hk.symm,fun c hc ho=>?_⟩
     rcases Nat.lt_or_ge c i with h1 | h1
     · exfalso
       -- an earlier corner of the shell: there would be a best one
       have:∀ j,c < j → ∃ a,bestF T j k=some a:=by
        intro j hj
        induction j with
        | zero=>omega
        | succ j ih =>
         unfold bestF
         by_cases h2:k=ofN T (j / 3)
         · rw [← h2,updF_at]; exact pickB_some _ _
         rw [updF_ne _ _ h2]
         refine ih ?_
         rcases Nat.lt_or_ge c j with h3 | h3
         · exact h3
         exfalso; obtain rfl:c=j:=by omega
         exact h2 ho.symm
       obtain ⟨a,ha⟩:=this i h1
       rw [ha] at hb
       cases hb
     obtain rfl:c=i:=by omega
     exact ltL_irr _
    | some a =>
     have ih:=best_is i hb
     rw [hb] at h
     have h:(if cmpL (rowC T i) (rowC T a) < 0 then some i else some a)=some b:=h
     by_cases hc:cmpL (rowC T i) (rowC T a) < 0
     · rw [if_pos hc] at h
       injection h with h
       subst h
       refine ⟨Nat.lt_succ_self _,hk.symm,fun c h1 ho h2=>?_⟩
       rcases Nat.lt_or_ge c i with h3 | h3
       · exact ih.le c h3 ho (ltL_trans h2 hc)
       obtain rfl:c=i:=by omega
       exact ltL_irr _ h2
     rw [if_neg hc] at h
     injection h with h
     subst h
     refine ⟨Nat.lt_succ_of_lt ih.lt,ih.of,fun c h1 ho=>?_⟩
     rcases Nat.lt_or_ge c i with h3 | h3
     · exact ih.le c h3 ho
     obtain rfl:c=i:=by omega
     exact hc
  rw [updF_ne _ _ hk] at h
  have ih:=best_is i h
  refine ⟨Nat.lt_succ_of_lt ih.lt,ih.of,fun c h1 ho=>?_⟩
  rcases Nat.lt_or_ge c i with h3 | h3
  · exact ih.le c h3 ho
  obtain rfl:c=i:=by omega
  exact absurd ho.symm hk
theorem best_ex {i k c:Nat} (hc:c < i) (ho:ofN T (c / 3)=k):∃ b,bestF T i k=some b:=by
 induction i with
 | zero=>omega
 | succ i ih =>
  unfold bestF
  by_cases h2:k=ofN T (i / 3)
  · rw [← h2,updF_at]; exact pickB_some _ _
  rw [updF_ne _ _ h2]
  refine ih ?_
  rcases Nat.lt_or_ge c i with h3 | h3
  · exact h3
  exfalso; obtain rfl:c=i:=by omega
  exact h2 ho.symm
theorem bestN_is {k:Nat} (hk:k < kN T):bestF T (3 * T.length) k=some (bestN T k) ∧ BestI T (3 * T.length) k (bestN T k):=by
 have hp:=lst_pos hk
 obtain ⟨x,l,hl⟩:∃ x l,lstOf (ofL T) T.length k=x :: l:=by
  cases h:lstOf (ofL T) T.length k with
  | nil=>rw [h] at hp; exact absurd hp (Nat.lt_irrefl 0)
  | cons x l=>exact ⟨x,l,rfl⟩
 have hx:x ∈ lstOf (ofL T) T.length k:=by rw [hl]; exact List.mem_cons_self
 have hx1:=lst_mem hx
 have hx2:(ofL T).getD x 0=(k:Int):=by
  have:=(List.mem_filter.1 hx).2
  simpa using this
 have hx3:ofN T (3 * x / 3)=k:=by
  rw [show 3 * x / 3=x by omega]
  have:=ofN_eq hx1
  omega
 obtain ⟨b,hb⟩:=best_ex (T:=T) (i:=3 * T.length) (c:=3 * x) (by omega) hx3
 have:bestN T k=b:=by unfold bestN; rw [hb]; rfl
 rw [this]
 exact ⟨hb,best_is _ hb⟩
structure Put (T:List Tri) (p:List Nat):Prop where
 perm:p.Perm (List.range (kN T))
 up:∀ i j,i < j → j < p.length → ¬ ltL (rowC T (bestN T (p.getD j 0))) (rowC T (bestN T (p.getD i 0)))
def putL (T:List Tri) (p:List Nat):List Nat:=p.map (bestN T)
def joinC (T:List Tri):List Nat → Int → List Tri
 | [],_=>[]
 | c :: l,n=>(rootT T c).map (shiftT n) ++ joinC T l (n + (rootO T c).length)
def oldsC (T:List Tri) (l:List Nat):List Int:=l.flatMap (rootO T)
end
end
section
def s6 (a b c d e f:Value):Nat → Value
 | 0=>a
 | 1=>b
 | 2=>c
 | 3=>d
 | 4=>e
 | _=>f
def z6:Nat → Value:=s6 (.slice none 0 0) (.int .i64 0) (.slice none 0 0) (.slice none 0 0) (.slice none 0 0) (.slice none 0 0)
structure SAt (W:World) (gb K:Nat) (v:Nat → Nat → Value):Prop where
 ex:∃ cs,Blk W gb 113 cs ∧ cs.size=K * 6 ∧ ∀ k j,k < K → j < 6 → cs[k * 6 + j]?=some (v k j)
section
variable {W W':World} {gb K k j:Nat} {v:Nat → Nat → Value}
theorem SAt.lt (h:SAt W gb K v):gb < W.heap.size:=by
 obtain ⟨cs,hb,_⟩:=h.ex
 exact hb.lt
theorem SAt.same (h:SAt W gb K v) (hs:W'.heap[gb]?=W.heap[gb]?):SAt W' gb K v:=by
 obtain ⟨cs,hb,h1,h2⟩:=h.ex
 exact ⟨⟨cs,hs.trans hb,h1,h2⟩⟩
theorem SAt.below {B:Nat} (h:SAt W gb K v) (hb:Below B W W') (hg:gb < B):SAt W' gb K v:=h.same (hb.block gb hg)
theorem SAt.alloc (h:SAt W gb K v) (o:Obj):SAt (W.alloc o) gb K v:=h.same (Below.heap_alloc W o gb h.lt)
theorem SAt.drew (h:SAt W gb K v):SAt W.drew gb K v:=h.same rfl
theorem SAt.drewN (h:SAt W gb K v) (n:Nat):SAt (W.drewN n) gb K v:=h.same rfl
theorem SAt.far (h:SAt W gb K v) {p:Addr} (hp:gb ≠ p.block) (u:Value):SAt (W.setCell p u) gb K v:=h.same (Below.heap_setCell W p u gb hp)
theorem SAt.cell (h:SAt W gb K v) (hk:k < K) (hj:j < 6):W.cell? ⟨gb,k * 6 + j,none⟩=some (v k j):=by
 obtain ⟨cs,hb,h1,h2⟩:=h.ex
 rw [hb.cell]
 exact h2 k j hk hj
theorem SAt.frozen (h:SAt W gb K v) (i:Nat):W.frozen? ⟨gb,i,none⟩=false:=by
 obtain ⟨cs,hb,h1,h2⟩:=h.ex
 exact hb.frozen i
theorem SAt.ne_blk (h:SAt W gb K v) {g:Nat} {t:TypeId} {cs:Array Value} (hg:Blk W g t cs) (ht:t ≠ 113):gb ≠ g:=by
 obtain ⟨cs',hb,_⟩:=h.ex
 exact (Blk.ne_ hg hb ht).symm
theorem SAt.own_ne (h:SAt W gb K v) {B n s:Nat} {el:TypeId} {u:Value} {xs:List Value} (ho:W.ownsRow B el s u n xs) (ht:el ≠ 113):u.ownBlock ≠ some gb:=by
 obtain ⟨cs',hb,_⟩:=h.ex
 exact own_blk_ne ho hb ht
theorem SAt.set (h:SAt W gb K v) (hk:k < K) (hj:j < 6) (u:Value):SAt (W.setCell ⟨gb,k * 6 + j,none⟩ u) gb K (fun a b=>if a=k ∧ b=j then u else v a b):=by
 obtain ⟨cs,hb,h1,h2⟩:=h.ex
 refine ⟨⟨cs.setIfInBounds (k * 6 + j) u,hb.set_ _ u,by simpa using h1,fun a b ha hb'=>?_⟩⟩
 rw [Array.getElem?_setIfInBounds]
 by_cases he:a=k ∧ b=j
 · rw [if_pos he,if_pos (by rw [he.1,he.2]),if_pos (by omega)]
 rw [if_neg he,if_neg (by omega)]
 exact h2 a b ha hb'
theorem SAt.congr {v':Nat → Nat → Value} (h:SAt W gb K v) (he:∀ k j,k < K → j < 6 → v' k j=v k j):SAt W gb K v':=by
 obtain ⟨cs,hb,h1,h2⟩:=h.ex
 exact ⟨⟨cs,hb,h1,fun a b ha hb'=>by rw [he a b ha hb']; exact h2 a b ha hb'⟩⟩
theorem SAt.set6 (h:SAt W gb K v) (hk:k < K) (a b c d e f:Value) :
  SAt ((((((W.setCell ⟨gb,k * 6,none⟩ a).setCell ⟨gb,k * 6 + 1,none⟩ b).setCell ⟨gb,k * 6 + 2,none⟩ c).setCell ⟨gb,k * 6 + 3,none⟩ d).setCell ⟨gb,k * 6 + 4,none⟩ e).setCell ⟨gb,k * 6 + 5,none⟩ f) gb K (updF v k (s6 a b c d e f)):=by
 refine ((((((h.set (j:=0) hk (by decide) a).set (j:=1) hk (by decide) b).set (j:=2) hk (by decide) c).set (j:=3) hk (by decide) d).set (j:=4) hk (by decide) e).set (j:=5) hk (by decide) f).congr fun x y hx hy=>?_
 unfold updF
 by_cases hxk:x=k
 · rw [if_pos hxk]
   rcases (by omega:y=0 ∨ y=1 ∨ y=2 ∨ y=3 ∨ y=4 ∨ y=5) with rfl | rfl | rfl | rfl | rfl | rfl <;> simp [hxk,s6]
 rw [if_neg hxk]
 simp [hxk]
end
structure SlotV (B:Nat) (T:List Tri) (b:Nat) (u:Nat → Value) (W:World):Prop where
 ex:∃ (Ar At Ao:Option Addr) (cr ct co:Nat),u=s6 (.slice Ar (rowC T b).length cr) (.int .i64 ((rootO T b).length:Int)) (.slice At (rootT T b).length ct) (.slice none 0 0) (.slice none 0 0) (.slice Ao (rootO T b).length co) ∧
  IR W B Ar cr (rowC T b) ∧ LRow W B At ct (rootT T b) ∧ IR W B Ao co (rootO T b)
def Slot (B:Nat) (T:List Tri) (o:Option Nat) (u:Nat → Value) (W:World):Prop :=
 match o with
 | none=>u=z6
 | some b=>SlotV B T b u W
structure BAt (w:World) (T:List Tri) (gb K:Nat) (f:Nat → Option Nat) (W:World):Prop where
 ex:∃ v,SAt W gb K v ∧ ∀ k,k < K → Slot w.heap.size T (f k) (v k) W
 b:Only (fun i=>i=gb) w W
section
variable {w W W':World} {T:List Tri} {gb K:Nat} {f:Nat → Option Nat}
theorem SlotV.same {B b:Nat} {u:Nat → Value} (h:SlotV B T b u W) (hb:∀ (el:TypeId) (s n:Nat) (z:Value) (xs:List Value),el ≠ 113 → W.ownsRow B el s z n xs → W'.ownsRow B el s z n xs):SlotV B T b u W':=by
 obtain ⟨Ar,At,Ao,cr,ct,co,h0,h1,h2,h3⟩:=h.ex
 exact ⟨⟨Ar,At,Ao,cr,ct,co,h0,hb _ _ _ _ _ (by decide) h1,hb _ _ _ _ _ (by decide) h2,hb _ _ _ _ _ (by decide) h3⟩⟩
theorem Slot.same {B:Nat} {o:Option Nat} {u:Nat → Value} (h:Slot B T o u W) (hb:∀ (el:TypeId) (s n:Nat) (z:Value) (xs:List Value),el ≠ 113 → W.ownsRow B el s z n xs → W'.ownsRow B el s z n xs):Slot B T o u W':=by
 cases o with
 | none=>exact h
 | some b=>exact SlotV.same h hb
theorem BAt.lt (h:BAt w T gb K f W):gb < W.heap.size:=by
 obtain ⟨v,h1,_⟩:=h.ex
 exact h1.lt
theorem BAt.below (h:BAt w T gb K f W) (hb:Below W.heap.size W W'):BAt w T gb K f W':=by
 obtain ⟨v,h1,h2⟩:=h.ex
 exact ⟨⟨v,h1.below hb h1.lt,fun k hk=>(h2 k hk).same fun _ _ _ _ _ _ ho=>own_same ho fun q hq=>hb.block q (World.ownsRow.lt ho q hq).2⟩,h.b.trans (Only.of_below hb _)⟩
theorem BAt.alloc (h:BAt w T gb K f W) (o:Obj):BAt w T gb K f (W.alloc o):=h.below (bw_alloc (Below.refl _ _) o)
theorem BAt.drew (h:BAt w T gb K f W):BAt w T gb K f W.drew:=h.below (bw_drew (Below.refl _ _))
theorem made_slots {gb K:Nat} (hb:Blk W gb 113 (madeCells #[.slice none 0 0,.int .i64 0,.slice none 0 0,.slice none 0 0,.slice none 0 0,.slice none 0 0] (K * 6))):SAt W gb K (fun _=>z6):=by
 have hc:∀ j,j < K * 6 → (madeCells #[.slice none 0 0,.int .i64 0,.slice none 0 0,.slice none 0 0,.slice none 0 0,.slice none 0 0] (K * 6))[j]?=some (z6 (j % 6)):=fun j hj=>by
  have h4:=Nat.mod_lt j (show 6 > 0 by decide)
  unfold madeCells
  rw [Array.getElem?_map,Array.getElem?_range,if_pos hj]
  simp only [Option.map_some,List.size_toArray,List.length_cons,List.length_nil]
  rcases (by omega:j % 6=0 ∨ j % 6=1 ∨ j % 6=2 ∨ j % 6=3 ∨ j % 6=4 ∨ j % 6=5) with e | e | e | e | e | e <;> simp [e,z6,s6]
 refine ⟨⟨_,hb,size_madeCells _ _,fun k j hk hj=>?_⟩⟩
 rw [hc _ (by omega),show (k * 6 + j) % 6=j by omega]
theorem BAt.start {gb:Nat} (hb:Blk W gb 113 (madeCells #[.slice none 0 0,.int .i64 0,.slice none 0 0,.slice none 0 0,.slice none 0 0,.slice none 0 0] (K * 6))):BAt W T gb K (bestF T 0) W :=
 ⟨⟨_,made_slots hb,fun _ _=>rfl⟩,Only.refl _ _⟩
theorem only_set1 {w W:World} {gb:Nat} (h:Only (fun i=>i=gb) w W) (o:Nat) (u:Value):Only (fun i=>i=gb) w (W.setCell ⟨gb,o,none⟩ u):=h.setCell (p:=⟨gb,o,none⟩) (Or.inl rfl) u
theorem only_set6 {w W:World} {gb:Nat} (h:Only (fun i=>i=gb) w W) (o1 o2 o3 o4 o5 o6:Nat) (a b c d e f:Value):Only (fun i=>i=gb) w ((((((W.setCell ⟨gb,o1,none⟩ a).setCell ⟨gb,o2,none⟩ b).setCell ⟨gb,o3,none⟩ c).setCell ⟨gb,o4,none⟩ d).setCell ⟨gb,o5,none⟩ e).setCell ⟨gb,o6,none⟩ f) :=
 only_set1 (only_set1 (only_set1 (only_set1 (only_set1 (only_set1 h o1 a) o2 b) o3 c) o4 d) o5 e) o6 f
theorem BAt.put (h:BAt w T gb K f W) {k i:Nat} (hk:k < K) {Ar At Ao:Option Addr} {cr ct co:Nat} (h1:IR W w.heap.size Ar cr (rowC T i)) (h2:LRow W w.heap.size At ct (rootT T i)) (h3:IR W w.heap.size Ao co (rootO T i)) :
  BAt w T gb K (updF f k (some i)) ((((((W.setCell ⟨gb,k * 6,none⟩ (.slice Ar (rowC T i).length cr)).setCell ⟨gb,k * 6 + 1,none⟩ (.int .i64 ((rootO T i).length:Int))).setCell ⟨gb,k * 6 + 2,none⟩ (.slice At (rootT T i).length ct)).setCell ⟨gb,k * 6 + 3,none⟩ (.slice none 0 0)).setCell ⟨gb,k * 6 + 4,none⟩ (.slice none 0 0)).setCell ⟨gb,k * 6 + 5,none⟩ (.slice Ao (rootO T i).length co)):=by
 obtain ⟨v,hs,hv⟩:=h.ex
 have hb:Only (fun i=>i=gb) W ((((((W.setCell ⟨gb,k * 6,none⟩ (.slice Ar (rowC T i).length cr)).setCell ⟨gb,k * 6 + 1,none⟩ (.int .i64 ((rootO T i).length:Int))).setCell ⟨gb,k * 6 + 2,none⟩ (.slice At (rootT T i).length ct)).setCell ⟨gb,k * 6 + 3,none⟩ (.slice none 0 0)).setCell ⟨gb,k * 6 + 4,none⟩ (.slice none 0 0)).setCell ⟨gb,k * 6 + 5,none⟩ (.slice Ao (rootO T i).length co)) :=
  only_set6 (Only.refl _ _) _ _ _ _ _ _ _ _ _ _ _ _
 have hown:∀ (el:TypeId) (s n:Nat) (z:Value) (xs:List Value),el ≠ 113 → W.ownsRow w.heap.size el s z n xs → World.ownsRow _ w.heap.size el s z n xs:=fun el s n z xs hne ho=>own_same ho fun q hq=>hb.block q (World.ownsRow.lt ho q hq).2 fun e=>hs.own_ne ho hne (by rw [hq,e])
 refine ⟨⟨_,hs.set6 hk _ _ _ _ _ _,fun q hq=>?_⟩,h.b.trans hb⟩
 unfold updF
 by_cases hqk:q=k
 · rw [if_pos hqk,if_pos hqk]
   exact ⟨⟨Ar,At,Ao,cr,ct,co,rfl,hown _ _ _ _ _ (by decide) h1,hown _ _ _ _ _ (by decide) h2,hown _ _ _ _ _ (by decide) h3⟩⟩
 rw [if_neg hqk,if_neg hqk]
 exact (hv q hq).same hown
theorem BAt.at_none (h:BAt w T gb K f W) {k:Nat} (hk:k < K) (hf:f k=none):W.cell? ⟨gb,k * 6,none⟩=some (.slice none 0 0):=by
 obtain ⟨v,hs,hv⟩:=h.ex
 have h1:=hs.cell hk (j:=0) (by decide)
 have h2:=hv k hk
 rw [hf] at h2
 have h2:v k=z6:=h2
 rw [h2] at h1
 exact h1
theorem BAt.at_some (h:BAt w T gb K f W) {k b:Nat} (hk:k < K) (hf:f k=some b):∃ A c,W.cell? ⟨gb,k * 6,none⟩=some (.slice A (rowC T b).length c) ∧ IR W w.heap.size A c (rowC T b):=by
 obtain ⟨v,hs,hv⟩:=h.ex
 have h1:=hs.cell hk (j:=0) (by decide)
 have h2:=hv k hk
 rw [hf] at h2
 have h2:SlotV w.heap.size T b (v k) W:=h2
 obtain ⟨Ar,At,Ao,cr,ct,co,e,r,_,_⟩:=h2.ex
 rw [e] at h1
 exact ⟨Ar,cr,h1,r⟩
theorem BAt.frozen (h:BAt w T gb K f W) (i:Nat):W.frozen? ⟨gb,i,none⟩=false:=by
 obtain ⟨v,hs,hv⟩:=h.ex
 exact hs.frozen i
end
end
section
open Go.RowKit Go.Sort Go.Shelf
def clK (K i:Nat):Nat:=if i < K then i else 0
theorem clK_of {K i:Nat} (h:i < K):clK K i=i:=if_pos h
theorem clK_lt {K:Nat} (h:0 < K) (i:Nat):clK K i < K:=by
 unfold clK
 split
 · assumption
 exact h
def encS (v:Nat → Nat → Value) (K i:Nat):List Value:=[v (clK K i) 0,v (clK K i) 1,v (clK K i) 2,v (clK K i) 3,v (clK K i) 4,v (clK K i) 5]
theorem encS_len (v:Nat → Nat → Value) (K i:Nat):(encS v K i).length=6:=rfl
structure RowsS (B gb K:Nat) (v:Nat → Nat → Value) (row:Nat → List Int) (W:World):Prop where
 row:∀ k,k < K → ∃ A c,v k 0=.slice A (row k).length c ∧ IR W B A c (row k) ∧ (Value.slice A (row k).length c).ownBlock ≠ some gb
 one:∀ k j,k < K → j < 6 → (v k j).oneCell'=true
theorem RowsS.only {B gb K:Nat} {v:Nat → Nat → Value} {row:Nat → List Int} {W W':World} (h:RowsS B gb K v row W) (ho:Only (fun i=>i=gb) W W'):RowsS B gb K v row W':=by
 refine ⟨fun k hk=>?_,h.one⟩
 obtain ⟨A,c,h0,h1,h2⟩:=h.row k hk
 exact ⟨A,c,h0,own_same h1 fun q hq=>ho.block q (World.ownsRow.lt h1 q hq).2 (fun e=>h2 (by rw [hq,e])),h2⟩
theorem cmpR_any (W:World) (B1 B2:Nat) (A1 A2:Option Addr) (c1 c2:Nat) (L1 L2:List Int) (x1 x2 x3 x4 x5 y1 y2 y3 y4 y5:Value) (h1:IR W B1 A1 c1 L1) (h2:IR W B2 A2 c2 L2) :
  Calls Tryz.prog 53 #[.agg #[.slice A1 L1.length c1,x1,x2,x3,x4,x5],.agg #[.slice A2 L2.length c2,y1,y2,y3,y4,y5]] W fun e w'=>e=.returned (.int .i64 (cmpL L1 L2)) ∧ w'=(W.alloc (.cells #[.slice A1 L1.length c1,x1,x2,x3,x4,x5] 113)).alloc (.cells #[.slice A2 L2.length c2,y1,y2,y3,y4,y5] 113):=by
 obtain ⟨V,hV⟩:=jX ((W.alloc (.cells #[.slice A1 L1.length c1,x1,x2,x3,x4,x5] 113)).alloc (.cells #[.slice A2 L2.length c2,y1,y2,y3,y4,y5] 113))
 have H1:IR V B1 A1 c1 L1:=by subst hV; exact (h1.alloc _).alloc _
 have H2:IR V B2 A2 c2 L2:=by subst hV; exact (h2.alloc _).alloc _
 have HC:=jJ (cmpL_any V B1 B2 A1 A2 c1 c2 L1 L2 H1 H2)
 have k0:V.cell? ⟨W.heap.size,0,none⟩=some (.slice A1 L1.length c1):=by subst hV; exact ((Blk.new W 113 _).alloc _).cell 0
 have k1:V.cell? ⟨W.heap.size + 1,0,none⟩=some (.slice A2 L2.length c2):=by subst hV; exact (Blk.new_ (by rw [World.size_alloc]) _ _).cell 0
 rw [← hV]
 have HV:=jJ hV
 clear H1 H2 h1 h2
 go_enter Tryz.func53,Tryz.ntmps53
 go_upto_region 1 with (fail)
 rw [← hV]
 clear hV
 go_wp2_with fail
 refine HC.out.mono ?_
 rintro e w1 ⟨rfl,rfl⟩
 go_wp2_with fail
 go_ret
 exact ⟨rfl,rfl⟩
theorem grow_two (W:World) (o o':Obj):(W.alloc o).alloc o'=grow (W.drewN 0) #[o,o']:=by
 rw [alloc_eq_grow,alloc_eq_grow,grow_grow]
 rfl
def cfS (K:Nat) (row:Nat → List Int) (i j:Nat):Int:=cmpL (row (clK K i)) (row (clK K j))
theorem ltOf_cfS (K:Nat) (row:Nat → List Int) (i j:Nat):ltOf (cfS K row) i j=true ↔ ltL (row (clK K i)) (row (clK K j)):=by
 unfold ltOf cfS ltL
 rw [decide_eq_true_eq]
theorem ltOf_cfS_no (K:Nat) (row:Nat → List Int) (i j:Nat):ltOf (cfS K row) i j=false ↔ ¬ ltL (row (clK K i)) (row (clK K j)):=by
 rw [← ltOf_cfS]; simp
theorem swoS (K:Nat) (row:Nat → List Int):SWO (ltOf (cfS K row)) where
 irrefl x:=by rw [ltOf_cfS_no]; exact ltL_irr _
 trans x y z h1 h2:=by rw [ltOf_cfS] at *; exact ltL_trans h1 h2
 ntrans x y z h1 h2:=by rw [ltOf_cfS_no] at *; exact ltL_ntrans h1 h2
def SortPost (gb K:Nat) (v:Nat → Nat → Value) (row:Nat → List Int) (w:World) (e:Ending) (w':World):Prop :=
 e=.returned (.tuple #[]) ∧ ∃ p:List Nat,p.Perm (List.range K) ∧ SAt w' gb K (fun k=>v (p.getD k 0)) ∧ (∀ i j,i < j → j < K → ¬ ltL (row (p.getD j 0)) (row (p.getD i 0))) ∧ Only (fun i=>i=gb) w w'
theorem insert_none (A:Option Addr) (n c:Nat) (fv:Value) (w:World):Calls Tryz.prog 103 #[.slice A n c,.int .i64 0,.int .i64 0,fv] w fun e w'=>e=.returned (.tuple #[]) ∧ w'=w:=by
 go_enter Tryz.func103,Tryz.ntmps103
 go_wp2_with fail
 refine wp_loop_rounds 1 ?_
 rw [rounds_succ]
 go_wp2_with fail
 exact bodyPost_end (results_none rfl _ _ _) rfl ⟨rfl,rfl⟩
theorem insert_any (B gb K:Nat) (v:Nat → Nat → Value) (row:Nat → List Int) (w:World) (hK:K < 20) (hS:SAt w gb K v) (hR:RowsS B gb K v row w) :
  Calls Tryz.prog 103 #[.slice (some ⟨gb,0,none⟩) K K,.int .i64 0,.int .i64 K,.func (.func 53) #[] #[]] w (SortPost gb K v row w):=by
 by_cases h0:K=0
 · subst h0
   refine (insert_none _ 0 0 _ w).mono ?_
   rintro e w' ⟨rfl,rfl⟩
   exact ⟨rfl,[],by simp,hS.congr (fun k j hk=>absurd hk (Nat.not_lt_zero _)),fun i j _ hj=>absurd hj (Nat.not_lt_zero _),Only.refl _ _⟩
 have hpos:0 < K:=by omega
 have eg:∀ args w,(callFunc 53 args).run Tryz.prog w=.ok (.enter 53 args) w:=enters_of Tryz.func53 (by kernel_rfl) rfl
 have hcmp:CmpLays Tryz.prog 53 #[] (encS v K) 6 (cfS K row) gb 0 (Array.range K).size w:=fun m os dk _ x y=>by
  have ho:=only_sortWorldK (encS v K) 6 w gb m dk os
  have hR':=hR.only ho
  obtain ⟨A1,c1,e1,r1,_⟩:=hR'.row (clK K x) (clK_lt hpos x)
  obtain ⟨A2,c2,e2,r2,_⟩:=hR'.row (clK K y) (clK_lt hpos y)
  have:=cmpR_any _ B B A1 A2 c1 c2 _ _ (v (clK K x) 1) (v (clK K x) 2) (v (clK K x) 3) (v (clK K x) 4) (v (clK K x) 5) (v (clK K y) 1) (v (clK K y) 2) (v (clK K y) 3) (v (clK K y) 4) (v (clK K y) 5) r1 r2
  rw [← e1,← e2] at this
  exact this.mono fun e w' h=>⟨h.1,0,_,h.2.trans (grow_two _ _ _)⟩
 obtain ⟨cs,hb,hsz,hc⟩:=hS.ex
 have hfl:(flatK (encS v K) 6 (Array.range K)).size=K * 6:=by rw [size_flatK]; simp
 have hget:∀ (d:Array Nat),d.size=K → ∀ k j,k < K → j < 6 → (flatK (encS v K) 6 d)[k * 6 + j]?=some (v (clK K d[k]!) j):=fun d hd k j hk hj=>by
  have ht:k * 6 + j < (flatK (encS v K) 6 d).size:=by rw [size_flatK,hd]; omega
  rw [Array.getElem?_eq_getElem ht]
  have h2:=get_flatK (encS v K) 6 d (k * 6 + j) (by rw [hd]; omega)
  rw [getElem!_pos (flatK (encS v K) 6 d) (k * 6 + j) ht] at h2
  rw [h2,show (k * 6 + j) / 6=k by omega,show (k * 6 + j) % 6=j by omega]
  rcases (by omega:j=0 ∨ j=1 ∨ j=2 ∨ j=3 ∨ j=4 ∨ j=5) with rfl | rfl | rfl | rfl | rfl | rfl <;> rfl
 have hH:HoldsK (encS v K) 6 w gb 0 (Array.range K):=by
  unfold HoldsK Holds
  intro j hj
  rw [hfl] at hj
  have h1:=hget (Array.range K) (by simp) (j / 6) (j % 6) (by omega) (by omega)
  rw [show j / 6 * 6 + j % 6=j by omega] at h1
  have ht:j < (flatK (encS v K) 6 (Array.range K)).size:=by rw [hfl]; exact hj
  rw [Array.getElem?_eq_getElem ht] at h1
  injection h1 with h1
  rw [Nat.zero_add,hb.cell,getElem!_pos (flatK (encS v K) 6 (Array.range K)) j ht,h1]
  refine ⟨?_,hb.frozen _⟩
  have h2:=hc (j / 6) (j % 6) (by omega) (by omega)
  rw [show j / 6 * 6 + j % 6=j by omega] at h2
  have h3:(Array.range K)[j / 6]! = j / 6:=by rw [getElem!_pos (Array.range K) (j / 6) (by simp; omega)]; simp
  rw [h2,h3,clK_of (by omega)]
  rfl
 have h1:∀ x,∀ u ∈ encS v K x,u.oneCell'=true:=fun x u hu=>by
  have hl:=clK_lt hpos x
  simp only [encS,List.mem_cons,List.not_mem_nil,or_false] at hu
  rcases hu with rfl | rfl | rfl | rfl | rfl | rfl
  · exact hR.one _ 0 hl (by decide)
  · exact hR.one _ 1 hl (by decide)
  · exact hR.one _ 2 hl (by decide)
  · exact hR.one _ 3 hl (by decide)
  · exact hR.one _ 4 hl (by decide)
  exact hR.one _ 5 hl (by decide)
 have hcon:=AnyQ.insertionSortCmpFunc Tryz.insR 6 Tryz.isAgg113 Tryz.sizeOf113 (encS v K) (encS_len v K) h1 (cfS K row) 53 #[] gb 0 K 0 K (Array.range K) w eg hcmp hH hb.lt (Nat.zero_le _) (by simp) (by simp; omega)
 rw [show (Array.range K).size=K by simp] at hcon
 refine hcon.mono ?_
 rintro e w' ⟨he,n,os,hw⟩
 subst hw
 obtain ⟨hp,hs⟩:=insertionSort_holds (lt:=ltOf (cfS K row)) (swoS K row) (Array.range K) 0 K (Nat.zero_le _) (by simp)
 generalize insertionSort (ltOf (cfS K row)) (Array.range K) 0 K=d at hp hs ⊢
 have hds:d.size=K:=by have:=hp.1; simpa using this
 have hperm:d.toList.Perm (List.range K):=by
  have:=hp.2.2
  rw [show d.extract 0 K=d by rw [← hds]; simp,show (Array.range K).extract 0 K=Array.range K by simp] at this
  simpa using this
 have hlt:∀ k,k < K → d[k]! < K ∧ d.toList.getD k 0=d[k]! := fun k hk=>by
  have hk':k < d.size:=by omega
  have h2:d.toList.getD k 0=d[k]:=by simp [List.getD,hk']
  rw [getElem!_pos d k hk']
  refine ⟨?_,h2⟩
  have:=hperm.mem_iff.1 (Array.getElem_mem_toList hk')
  exact List.mem_range.1 this
 refine ⟨he,d.toList,hperm,⟨⟨_,heap_sortWorldK (encS v K) 6 w gb n d os hb,by simp [putCells,hsz],fun k j hk hj=>?_⟩⟩,fun i j hij hj=>?_,only_sortWorldK _ _ _ _ _ _ _⟩
 · have h2:=hget d hds k j hk hj
   have hfd:(flatK (encS v K) 6 d).size=K * 6:=by rw [size_flatK,hds]
   have h3:k * 6 + j < cs.size:=by rw [hsz]; omega
   have h4:k * 6 + j < (flatK (encS v K) 6 d).size:=by rw [hfd]; omega
   unfold putCells
   rw [Array.getElem?_mapIdx,Array.getElem?_eq_getElem h3,Option.map_some,if_pos ⟨Nat.zero_le _,by rw [Nat.zero_add]; exact h4⟩]
   rw [Array.getElem?_eq_getElem h4] at h2
   injection h2 with h2
   simp only [Nat.sub_zero,id]
   rw [getElem!_pos (flatK (encS v K) 6 d) (k * 6 + j) h4,h2,(hlt k hk).2,clK_of (hlt k hk).1]
 have h2:=hs i j (Nat.zero_le _) hij hj
 rw [ltOf_cfS_no,clK_of (hlt j hj).1,clK_of (hlt i (by omega)).1] at h2
 rw [(hlt j hj).2,(hlt i (by omega)).2]
 exact h2
theorem stable_any {Q:Ending → World → Prop} (A:Option Addr) (K c:Nat) (fv:Value) (w:World) (hK:K < 20)
  (h:Calls Tryz.prog 103 #[.slice A K c,.int .i64 0,.int .i64 K,fv] w (fun e w'=>e=.returned (.tuple #[]) ∧ Q e w')) :
  Calls Tryz.prog 85 #[.slice A K c,.int .i64 K,fv] w (fun e w'=>e=.returned (.tuple #[]) ∧ Q e w'):=by
 have H:=jJ h
 clear h
 have h1:¬ (20:Int) ≤ (K:Int):=by omega
 have h2:¬ (20:Int) < (K:Int):=by omega
 go_enter Tryz.func85,Tryz.ntmps85
 go_wp2_with fail
 refine wp_loop_rounds 1 ?_
 rw [rounds_succ]
 go_wp2_with fail
 refine H.out.mono ?_
 rintro e w1 ⟨rfl,hq⟩
 go_wp2_with fail
 refine wp_loop_rounds 1 ?_
 rw [rounds_succ]
 go_wp2_with fail
 exact bodyPost_end (results_none rfl _ _ _) rfl ⟨rfl,hq⟩
theorem sortStable_any (B gb K:Nat) (v:Nat → Nat → Value) (row:Nat → List Int) (w:World) (hK:K < 20) (hS:SAt w gb K v) (hR:RowsS B gb K v row w) :
  Calls Tryz.prog 52 #[.slice (some ⟨gb,0,none⟩) K K,.func (.func 53) #[] #[]] w (SortPost gb K v row w):=by
 have H:=jJ (stable_any (Q:=SortPost gb K v row w) (some ⟨gb,0,none⟩) K K (.func (.func 53) #[] #[]) w hK ((insert_any B gb K v row w hK hS hR).mono fun e w' h=>⟨h.1,h⟩))
 go_enter Tryz.func52,Tryz.ntmps52
 go_wp2_with fail
 refine H.out.mono ?_
 rintro e w1 ⟨rfl,hq⟩
 go_wp2_with fail
 exact bodyPost_end (results_none rfl _ _ _) rfl hq
end
end Go.Proofs.YtffmfhkiienmaaaGreat
