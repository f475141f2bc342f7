/- walk.begin, walked. No condition but sizes. -/
import Derived.Test.YtffmfhkiienmaaaGreatWySim
import Derived.Test.YtffmfhkiienmaaaGreatWq2
set_option maxRecDepth 100000
set_option maxHeartbeats 16000000
set_option linter.all false
namespace Go.Proofs.YtffmfhkiienmaaaGreat
open Go.RowKit
theorem TabN.verts {w:World} {g m:Nat} {T:List Tri} (h:TabN w g m T):Calls Tryz.prog 59 #[.pointer (some ⟨g,0,none⟩)] w (IsPost w (.int .i64 (m:Int))):=verts_any g 0 m T w h.t.s
theorem bool_infoW:(Tryz.prog.info? 4).map (fun i=>(i.zero,i.size,i.bytes))=some (some (.bool false),1,1):=by kernel_rfl
theorem madeBool (n:Nat):madeCells (Value.bool false).cells (n * 1)=boolA (List.replicate n false):=by
 apply Array.ext'
 refine List.ext_getElem? fun i=>?_
 by_cases hi:i < n
 · simp [madeCells,boolA,hi,Value.cells,Nat.mod_one]
 simp [madeCells,boolA,hi,Value.cells]
def BegPost (w:World) (B g m:Nat) (T:List Tri) (root:Nat) (e:Ending) (w':World):Prop :=
 ∃ (gw gc:Nat) (come:List Bool) (x:Way),e=.returned (.pointer (some ⟨gw,0,none⟩)) ∧ WyAt w' B g gw gc m come [x] none 0 ∧ x.2=[cv T (nxc root),cv T root,cv T (pvc root)] ∧ (∀ v:Nat,v < m → (come.getD v false=true ↔ (v:Int) ∈ [cv T root,cv T (nxc root),cv T (pvc root)])) ∧ Below w.heap.size w w' ∧ w.heap.size ≤ gw ∧ w.heap.size ≤ gc ∧ ∃ k,(wayC x).ownBlock=some k ∧ w.heap.size ≤ k
attribute [local irreducible] Blk World.alloc World.setCell World.cell? World.frozen? MapV MapI
theorem begin_any (w:World) (B g m:Nat) (T:List Tri) (root:Nat) (hT:TabN w g m T) (hB:B ≤ w.heap.size) (hr:root < 3 * T.length) :
  Calls Tryz.prog 36 #[.pointer (some ⟨g,0,none⟩),.int .i64 (root:Int)] w (BegPost w B g m T root):=by
 obtain ⟨i0,hi0,hz0,hz1,hz2⟩:=info_parts bool_infoW
 have HT:=jJ hT
 have hm4:=hT.s.m1
 obtain ⟨a0,a1⟩:=cv_bd hT.s hr
 obtain ⟨b0,b1⟩:=cv_bd hT.s (nxc_lt hr)
 obtain ⟨d0,d1⟩:=cv_bd hT.s (pvc_lt hr)
 obtain ⟨a,ha⟩:=Int.eq_ofNat_of_zero_le a0
 obtain ⟨b,hb⟩:=Int.eq_ofNat_of_zero_le b0
 obtain ⟨d,hd⟩:=Int.eq_ofNat_of_zero_le d0
 have HA:Hid (cv T root=(a:Int)):=jJ ha
 have HB:Hid (cv T (nxc root)=(b:Int)):=jJ hb
 have HD:Hid (cv T (pvc root)=(d:Int)):=jJ hd
 have ham:(a:Int) < (m:Int):=by rw [ha] at a1; exact a1
 have hbm:(b:Int) < (m:Int):=by rw [hb] at b1; exact b1
 have hdm:(d:Int) < (m:Int):=by rw [hd] at d1; exact d1
 have HV:Hid (∀ V:World,Below w.heap.size w V → Calls Tryz.prog 17 #[.pointer (some ⟨g,0,none⟩),.int .i64 (root:Int)] V (IntPost V (a:Int))):=jJ fun V hV=>by rw [← ha]; exact (hT.below hV).vertex hr
 have HVN:Hid (∀ V:World,Below w.heap.size w V → Calls Tryz.prog 17 #[.pointer (some ⟨g,0,none⟩),.int .i64 (nxc root:Int)] V (IntPost V (b:Int))):=jJ fun V hV=>by rw [← hb]; exact (hT.below hV).vertex (nxc_lt hr)
 have HVP:Hid (∀ V:World,Below w.heap.size w V → Calls Tryz.prog 17 #[.pointer (some ⟨g,0,none⟩),.int .i64 (pvc root:Int)] V (IntPost V (d:Int))):=jJ fun V hV=>by rw [← hd]; exact (hT.below hV).vertex (pvc_lt hr)
 have HN:Hid (∀ V:World,Below w.heap.size w V → Calls Tryz.prog 18 #[.pointer (some ⟨g,0,none⟩),.int .i64 (root:Int)] V (IntPost V (nxc root:Int))):=jJ fun V hV=>(hT.below hV).next hr
 have HP:Hid (∀ V:World,Below w.heap.size w V → Calls Tryz.prog 19 #[.pointer (some ⟨g,0,none⟩),.int .i64 (root:Int)] V (IntPost V (pvc root:Int))):=jJ fun V hV=>(hT.below hV).prev hr
 have hmk:∀ wx:World,(Instr.makeSlice 123 (.int .i64 (m:Int)) (.int .i64 (m:Int))).run Tryz.prog wx=.ok (.slice (some ⟨wx.heap.size,0,none⟩) m m) (wx.alloc (.cells (boolA (List.replicate m false)) 4)):=fun wx=>by
  have:=run_make_rowN (P:=Tryz.prog) 123 4 i0 _ Tryz.underlying123 hi0 hz0 .i64 .i64 m m (Nat.le_refl _) (by rw [hz2]; omega) (by omega) wx
  rw [hz1,madeBool] at this
  exact this
 have HVT:Hid (Calls Tryz.prog 59 #[.pointer (some ⟨g,0,none⟩)] w (IsPost w (.int .i64 (m:Int)))):=jJ hT.verts
 clear hT ha hb hd a0 a1 b0 b1 d0 d1
 go_enter Tryz.func36,Tryz.ntmps36
 go_wp2_with fail
 refine HVT.out.mono ?_
 rintro e w' ⟨rfl,hw⟩
 replace hw:=hw.symm
 subst hw
 go_upto_region 2 with (fail)
 obtain ⟨v1,hv1⟩:=jX ((w.alloc (.cells (boolA (List.replicate m false)) 4)).alloc (.cells #[.pointer (some ⟨g,0,none⟩),.slice (some ⟨w.heap.size,0,none⟩) m m,.slice none 0 0,.slice none 0 0] 125))
 have KCv1:Hid (Blk v1 w.heap.size 4 (boolA (List.replicate m false))):=by rw [hv1]; exact jJ ((Blk.new _ _ _).alloc _)
 have KWv1:Hid (Blk v1 (w.heap.size + 1) 125 #[.pointer (some ⟨g,0,none⟩),.slice (some ⟨w.heap.size,0,none⟩) m m,.slice none 0 0,.slice none 0 0]):=by rw [hv1]; exact jJ (Blk.new_ (by rw [World.size_alloc]) _ _)
 have HBv1:Hid (Below w.heap.size w v1):=by rw [hv1]; exact jJ (bw_alloc (bw_alloc (Below.refl _ _) _) _)
 rw [← hv1]
 obtain ⟨gw,hgw⟩:=jX (w.heap.size + 1)
 obtain ⟨gc,hgc⟩:=jX w.heap.size
 simp only [← hgw]
 rw [← hgw] at KWv1
 simp only [← hgc]
 rw [← hgc] at KWv1 KCv1
 have HG:Hid (w.heap.size ≤ gw ∧ w.heap.size ≤ gc):=jJ (by omega)
 clear hv1 hgw hgc HVT
 go_wp2_with fail
 refine (HV.out _ HBv1.out).mono ?_
 rintro e v2 ⟨rfl,hb⟩
 have KCv2:=jJ (blk_call KCv1.out hb)
 have KWv2:=jJ (blk_call KWv1.out hb)
 have HBv2:=jJ (bw_call HBv1.out hb)
 clear hb KCv1 KWv1 HBv1
 go_wp2_with fail
 refine (HN.out _ HBv2.out).mono ?_
 rintro e v3 ⟨rfl,hb⟩
 have KCv3:=jJ (blk_call KCv2.out hb)
 have KWv3:=jJ (blk_call KWv2.out hb)
 have HBv3:=jJ (bw_call HBv2.out hb)
 clear hb KCv2 KWv2 HBv2
 go_wp2_with fail
 refine (HVN.out _ HBv3.out).mono ?_
 rintro e v4 ⟨rfl,hb⟩
 have KCv4:=jJ (blk_call KCv3.out hb)
 have KWv4:=jJ (blk_call KWv3.out hb)
 have HBv4:=jJ (bw_call HBv3.out hb)
 clear hb KCv3 KWv3 HBv3
 go_wp2_with fail
 refine (HP.out _ HBv4.out).mono ?_
 rintro e v5 ⟨rfl,hb⟩
 have KCv5:=jJ (blk_call KCv4.out hb)
 have KWv5:=jJ (blk_call KWv4.out hb)
 have HBv5:=jJ (bw_call HBv4.out hb)
 clear hb KCv4 KWv4 HBv4
 go_wp2_with fail
 refine (HVP.out _ HBv5.out).mono ?_
 rintro e v6 ⟨rfl,hb⟩
 have KCv6:=jJ (blk_call KCv5.out hb)
 have KWv6:=jJ (blk_call KWv5.out hb)
 have HBv6:=jJ (bw_call HBv5.out hb)
 clear hb KCv5 KWv5 HBv5
 go_upto_region 3 with (fail)
 have hgcw:gc ≠ gw:=KCv6.out.ne_ KWv6.out (by decide)
 have hlr:∀ (l:List Bool) (i:Nat) (u:Bool),l.length=m → (l.set i u).length=m:=fun l i u h=>by rw [List.length_set]; exact h
 have h0:(List.replicate m false).length=m:=List.length_replicate
 have han:a < m:=by omega
 have hbn:b < m:=by omega
 have hdn:d < m:=by omega
 have KXv6:Hid (CellQ v6 ⟨gw,1,none⟩ (.slice (some ⟨gc,0,none⟩) m m)):=jJ ⟨KWv6.out.cell 1,KWv6.out.lt⟩
 refine wp_region_till (S:=fun w'=>w'.cell? ⟨gw,1,none⟩=some (.slice (some ⟨gc,0,none⟩) m m)) 20 (by kernel_rfl) KXv6.out.drew.c (fun hHeld=>?_)
 refine tKk 0 ?_; (try simp only [zQ])
 refine tKk 1 ?_; (try simp only [zQ])
 refine tKk 2 ?_; (try simp only [zQ])
 refine tKk 3 ?_; (try simp only [zQ])
 refine tKk 4 ?_; (try simp only [zQ])
 refine tKk 5 ?_; (try simp only [zQ])
 refine tKk 6 ?_; (try simp only [zQ])
 refine tKk 7 ?_; (try simp only [zQ])
 refine tKk 8 ?_; (try simp only [zQ])
 refine tKk 9 ?_; (try simp only [zQ])
 refine tKk 10 ?_; (try simp only [zQ])
 refine tKk 11 ?_; (try simp only [zQ])
 refine tKk 12 ?_; (try simp only [zQ])
 refine tKk 13 ?_; (try simp only [zQ])
 refine tKk 14 ?_; (try simp only [zQ])
 refine tKk 15 ?_; (try simp only [zQ])
 refine Till.ready (rs:=[16]) (by kernel_rfl) (by simp) ?_
 refine TillEach.cons rfl (fun K hK=>?_) ?_
 · have qc:v6.drew.cell? ⟨gc,a,none⟩=some (.bool ((List.replicate m false).getD a false)):=(KCv6.out.drew.cell a).trans (boolA_at (by first | (rw [h0]; omega) | (rw [hlr _ _ _ h0]; omega) | (rw [hlr _ _ _ (hlr _ _ _ h0)]; omega)))
   have qf:v6.drew.frozen? ⟨gc,a,none⟩=false:=KCv6.out.drew.frozen a
   go_simp
   go_wp2_with fail
   obtain ⟨v7,hvU⟩:=jX ((v6.setCell ⟨gc,a,none⟩ (.bool true)).drew)
   have KCv7:Hid (Blk v7 gc 4 (boolA ((List.replicate m false).set a true))):=jJ (by rw [hvU]; exact boolA_set (List.replicate m false) a true ▸ (KCv6.out.set_ a _).drew)
   have KWv7:Hid (Blk v7 gw 125 #[.pointer (some ⟨g,0,none⟩),.slice (some ⟨gc,0,none⟩) m m,.slice none 0 0,.slice none 0 0]):=jJ (by rw [hvU]; exact (KWv6.out.far (p:=⟨gc,a,none⟩) hgcw.symm _).drew)
   have KXv7:Hid (CellQ v7 ⟨gw,1,none⟩ (.slice (some ⟨gc,0,none⟩) m m)):=jJ ⟨KWv7.out.cell 1,KWv7.out.lt⟩
   have HBv7:Hid (Below w.heap.size w v7):=jJ (by rw [hvU]; exact bw_drew (bw_set HBv6.out (p:=⟨gc,a,none⟩) HG.out.2 _))
   rw [← hvU]
   clear qc qf hvU
   refine hK.out _ _ ?_ (fun hHeld=>?_)
   · exact KXv7.out.c
   clear hK K
   (try simp only [zQ])
   refine tKk 17 ?_; (try simp only [zQ])
   refine Till.ready (rs:=[18]) (by kernel_rfl) (by simp) ?_
   refine TillEach.cons rfl (fun K hK=>?_) ?_
   · have qc:v7.cell? ⟨gc,b,none⟩=some (.bool (((List.replicate m false).set a true).getD b false)):=(KCv7.out.cell b).trans (boolA_at (by first | (rw [h0]; omega) | (rw [hlr _ _ _ h0]; omega) | (rw [hlr _ _ _ (hlr _ _ _ h0)]; omega)))
     have qf:v7.frozen? ⟨gc,b,none⟩=false:=KCv7.out.frozen b
     go_simp
     go_wp2_with fail
     obtain ⟨v8,hvU⟩:=jX ((v7.setCell ⟨gc,b,none⟩ (.bool true)))
     have KCv8:Hid (Blk v8 gc 4 (boolA (((List.replicate m false).set a true).set b true))):=jJ (by rw [hvU]; exact boolA_set ((List.replicate m false).set a true) b true ▸ (KCv7.out.set_ b _))
     have KWv8:Hid (Blk v8 gw 125 #[.pointer (some ⟨g,0,none⟩),.slice (some ⟨gc,0,none⟩) m m,.slice none 0 0,.slice none 0 0]):=jJ (by rw [hvU]; exact (KWv7.out.far (p:=⟨gc,b,none⟩) hgcw.symm _))
     have KXv8:Hid (CellQ v8 ⟨gw,1,none⟩ (.slice (some ⟨gc,0,none⟩) m m)):=jJ ⟨KWv8.out.cell 1,KWv8.out.lt⟩
     have HBv8:Hid (Below w.heap.size w v8):=jJ (by rw [hvU]; exact bw_set HBv7.out (p:=⟨gc,b,none⟩) HG.out.2 _)
     rw [← hvU]
     clear qc qf hvU
     have qc:v8.cell? ⟨gc,d,none⟩=some (.bool ((((List.replicate m false).set a true).set b true).getD d false)):=(KCv8.out.cell d).trans (boolA_at (by rw [hlr _ _ _ (hlr _ _ _ h0)]; omega))
     have qf:v8.frozen? ⟨gc,d,none⟩=false:=KCv8.out.frozen d
     refine hK.out _ _ ?_ (fun hHeld=>?_)
     · exact KXv8.out.c
     clear hK K
     (try simp only [zQ])
     refine tKk 19 ?_; (try simp only [zQ])
     refine Till.ready (rs:=[20]) (by kernel_rfl) (by simp) ?_
     refine TillEach.last rfl (fun K hK=>?_)
     go_simp
     refine hK.out _ _ ?_
     clear hK K
     (try simp only [zQ])
     refine Till.done (by kernel_rfl) ?_ _
     obtain ⟨v9,hv9⟩:=jX (v8.setCell ⟨gc,d,none⟩ (.bool true))
     have KCv9:Hid (Blk v9 gc 4 (boolA ((((List.replicate m false).set a true).set b true).set d true))):=jJ (by rw [hv9]; exact boolA_set (((List.replicate m false).set a true).set b true) d true ▸ KCv8.out.set_ d _)
     have KWv9:Hid (Blk v9 gw 125 #[.pointer (some ⟨g,0,none⟩),.slice (some ⟨gc,0,none⟩) m m,.slice none 0 0,.slice none 0 0]):=jJ (by rw [hv9]; exact KWv8.out.far (p:=⟨gc,d,none⟩) hgcw.symm _)
     have HBv9:Hid (Below w.heap.size w v9):=jJ (by rw [hv9]; exact bw_set HBv8.out (p:=⟨gc,d,none⟩) HG.out.2 _)
     go_upto_region 4 with (fail)
     rw [← hv9]
     clear hv9 qc qf
     obtain ⟨vA,hvA⟩:=jX (v9.alloc (.cells #[.int .i64 (b:Int),.int .i64 (a:Int),.int .i64 (d:Int)] 3))
     have KWvA:Hid (Blk vA gw 125 #[.pointer (some ⟨g,0,none⟩),.slice (some ⟨gc,0,none⟩) m m,.slice none 0 0,.slice none 0 0]):=jJ (by rw [hvA]; exact KWv9.out.alloc _)
     have KCvA:Hid (Blk vA gc 4 (boolA ((((List.replicate m false).set a true).set b true).set d true))):=jJ (by rw [hvA]; exact KCv9.out.alloc _)
     have KRvA:Hid (Blk vA v9.heap.size 3 #[.int .i64 (b:Int),.int .i64 (a:Int),.int .i64 (d:Int)]):=jJ (by rw [hvA]; exact Blk.new _ _ _)
     have HBvA:Hid (Below w.heap.size w vA):=jJ (by rw [hvA]; exact bw_alloc HBv9.out _)
     have hqa:(v9.alloc (.cells #[.int .i64 (b:Int),.int .i64 (a:Int),.int .i64 (d:Int)] 3)).cell? ⟨gw,2,none⟩=some (.slice none 0 0):=by rw [← hvA]; exact KWvA.out.cell 2
     have hqf:(v9.alloc (.cells #[.int .i64 (b:Int),.int .i64 (a:Int),.int .i64 (d:Int)] 3)).frozen? ⟨gw,2,none⟩=false:=by rw [← hvA]; exact KWvA.out.frozen 2
     go_wp2_with fail
     rw [← hvA]
     clear hqa hqf
     obtain ⟨g3,hg3⟩:=jX v9.heap.size
     rw [← hg3] at KRvA
     simp only [← hg3]
     have HG3:Hid (w.heap.size ≤ g3):=jJ (by rw [hg3]; exact HBv9.out.size)
     have hne3:g3 ≠ gw:=KRvA.out.ne_ KWvA.out (by decide)
     have hne4:g3 ≠ gc:=KRvA.out.ne_ KCvA.out (by decide)
     go_ret
     refine ⟨gw,gc,((((List.replicate m false).set a true).set b true).set d true),((some ⟨g3,0,none⟩,3),[(b:Int),(a:Int),(d:Int)]),rfl,⟨KWvA.out.set_ 2 _,KCvA.out.far (p:=⟨gw,2,none⟩) hgcw _,World.ownsRow_nil _ _ _ _,fun x hx=>?_,?_,fun x hx=>?_,hlr _ _ _ (hlr _ _ _ (hlr _ _ _ h0)),by have:=HG.out; omega,by have:=HG.out; omega⟩,?_,fun v hv=>?_,bw_set HBvA.out (p:=⟨gw,2,none⟩) HG.out.1 _,HG.out.1,HG.out.2,g3,rfl,HG3.out⟩
     · rw [List.mem_singleton.1 hx]
       refine own_off (g:=gw) ?_ KWvA.out (by decide) _ _
       refine own_of_cells (cur:=#[.int .i64 (b:Int),.int .i64 (a:Int),.int .i64 (d:Int)]) KRvA.out (by have:=HG3.out; omega) rfl (Nat.le_refl _) (by simp [maxLen]) fun j u hj=>?_
       rw [KRvA.out.cell]
       match j,hj with
       | 0,hj=>exact hj
       | 1,hj=>exact hj
       | 2,hj=>exact hj
     · simp
     · rw [List.mem_singleton.1 hx]
       exact Nat.le_refl _
     · rw [HA.out,HB.out,HD.out]
     rw [HA.out,HB.out,HD.out,List.getD_eq_getElem?_getD,List.getElem?_set,List.getElem?_set,List.getElem?_set]
     simp only [List.mem_cons,List.not_mem_nil,or_false,List.length_set,List.length_replicate]
     by_cases e1:d=v
     · simp [e1,hv]
     by_cases e2:b=v
     · simp [e1,e2,hv]
     by_cases e3:a=v
     · simp [e1,e2,e3,hv]
     rw [if_neg e1,if_neg e2,if_neg e3]
     have e0:((List.replicate m false)[v]?.getD false)=false:=by rw [List.getElem?_replicate]; split <;> rfl
     rw [e0]
     exact ⟨(fun h=>by cases h),(fun h=>by omega)⟩
   exact TillEach.nil
 exact TillEach.nil
end Go.Proofs.YtffmfhkiienmaaaGreat
