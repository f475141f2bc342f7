/- soup.Join, walked. No condition. -/
import Derived.Test.YtffmfhkiienmaaaGreatFm47
import Derived.Test.YtffmfhkiienmaaaGreatIs
import Derived.Test.YtffmfhkiienmaaaGreatShelfMul
set_option maxRecDepth 100000
set_option maxHeartbeats 16000000
set_option linter.all false
namespace Go.Proofs.YtffmfhkiienmaaaGreat
open Go.RowKit
section
attribute [local irreducible] Blk LRow World.alloc World.setCell World.cell? World.frozen?
theorem join_any (A:Option Addr) (n c:Nat) (l:List Sp) (w:World) (hn:n ≤ 1000) (hT:∀ s ∈ l,s.T.length ≤ 1000) (hm:∀ k,k ≤ l.length → (joinS (l.take k)).2.length ≤ 6000) (ht:SoupsAt w w.heap.size A n l) :
  Calls Tryz.prog 54 #[.slice A n c] w (PickPost w (joinL l)):=by
 obtain rfl:l.length=n:=ht.len
 have HT:=jJ ht
 have HTL:=jJ hT
 have HJL:=jJ hm
 clear hm
 obtain ⟨i0,hi0,hz0,hz1,hz2⟩:=info_parts ltri_info
 clear ht hT
 go_enter Tryz.func54,Tryz.ntmps54
 go_wp2_with fail
 obtain ⟨V,hV⟩:=jX ((w.alloc (.cells #[.int .i64 0,.slice none 0 0] 24)).alloc (.cells #[.int .i64 0,.slice none 0 0] 24))
 have HO:Hid (OneSoup V w.heap.size (w.heap.size + 1) (.int .i64 0) none 0 []):=by subst hV; exact jJ ⟨blk_new1 _ _ _ _,LRow.nil _ _,Nat.le_succ _⟩
 have HR:Hid (Blk V w.heap.size 24 #[.int .i64 0,.slice none 0 0]):=by subst hV; exact jJ ((Blk.new _ _ _).alloc _)
 have HB:Hid (Below w.heap.size w V):=by subst hV; exact jJ (bw_alloc (bw_alloc (Below.refl _ _) _) _)
 rw [← hV]
 clear hV
 obtain ⟨gr,hgr⟩:=jX w.heap.size
 obtain ⟨go,hgo⟩:=jX (w.heap.size + 1)
 have HGR:Hid (w.heap.size ≤ gr):=jJ (by omega)
 have HGO:Hid (go ≠ gr):=jJ (by omega)
 rw [← hgo] at HO ⊢
 rw [← hgr] at HR
 simp only [← hgr]
 clear hgr hgo
 go_loopw [13] (fun iv wr=>∃ k:Nat,k ≤ l.length ∧ iv=.int .i64 k ∧ Hid (allFit (l.take k)=true) ∧ Hid (OneSoup wr w.heap.size go (.int .i64 0) none 0 []) ∧ Hid (Blk wr gr 24 #[.int .i64 0,.slice none 0 0]) ∧ Hid (Below w.heap.size w wr)) (fun iv _=>l.length - (intOf iv).toNat)
 case atStart=>exact ⟨0,by omega,rfl,jJ rfl,HO,HR,HB⟩
 obtain ⟨k,hk,rfl,HF,HO1,HR1,HB1⟩:=hrel
 by_cases hlt:k < l.length
 · obtain ⟨ad,s,rfl,hs,hadb,hc2,hst⟩:=(HT.out.below HB1.out).at_ hlt
   have hTl:=HTL.out s (List.mem_of_getElem? hs)
   have HS:=jJ hs
   have HST:=jJ hst
   obtain ⟨sN,sA,sc,sT⟩:=s
   obtain ⟨e0,e1,e2,e3⟩:=hc2
   simp only at e0 e1 e2 e3 hTl HST
   have hk0:(0:Int) ≤ (k:Int):=by omega
   have hk1:(k:Int) < (l.length:Int):=by omega
   clear hs hst hadb HO HR HB
   go_wp2_with fail
   obtain ⟨w3,hw3⟩:=jX (wr.alloc (.cells #[.int .i64 sN,.slice sA sT.length sc] 24))
   have HSB:Hid (Blk w3 wr.heap.size 24 #[.int .i64 sN,.slice sA sT.length sc]):=by subst hw3; exact jJ (Blk.new _ _ _)
   have HO3:Hid (OneSoup w3 w.heap.size go (.int .i64 0) none 0 []):=by subst hw3; exact jJ (HO1.out.alloc _)
   have HR3:Hid (Blk w3 gr 24 #[.int .i64 0,.slice none 0 0]):=by subst hw3; exact jJ (HR1.out.alloc _)
   have HB3:Hid (Below w.heap.size w w3):=by subst hw3; exact jJ (bw_alloc HB1.out _)
   rw [← hw3]
   have HST3:Hid (TrisAt w3 w3.heap.size sA sT.length sT):=by subst hw3; exact jJ ((HST.out.below ((Below.refl _ _).mono HB1.out.size |>.alloc HB1.out.size _)).more (bw_size (bw_alloc HB1.out _)))
   generalize wr.heap.size=sb at *
   clear hw3 HO1 HR1 HB1 e0 e1 e2 e3 HST
   obtain ⟨s0,s1,_,_,_⟩:=soup_facts HSB.out
   go_wp2_with fail
   refine (fits_any sN sA sT.length sc sT w3 (by omega) HST3.out).mono ?_
   rintro e w4 ⟨rfl,hb⟩
   have HO4:=jJ (HO3.out.on hb)
   have HR4:=jJ (blk_call HR3.out hb)
   have HB4:=jJ (bw_call HB3.out hb)
   clear hb HO3 HR3 HB3 HSB HST3 s0 s1
   cases hf:fitL sN sT with
   | false =>
    have HQ:=jJ (joinL_bad HS.out hf)
    obtain ⟨r0,r1,r2,r3,_⟩:=soup_facts HR4.out
    go_wp2_with fail
    obtain ⟨f0,f1,_,_,_⟩:=soup_facts (soup_set HR4.out (.int .i64 0) (.slice none 0 0))
    refine bodyPost_ret (v:=.tuple #[.agg #[.int .i64 (0),.slice none 0 0],.int .i64 1]) ?_ rfl (pick_post HQ.out (LRow.nil _ _) (bw_set (bw_set HB4.out HGR.out _) HGR.out _))
    simp [results,Tryz.results54,go_sem,f0,f1]
   | true =>
    go_wp2_with fail
    exact ⟨⟨k + 1,by omega,by go_num,jJ (allFit_snoc HF.out HS.out hf),HO4,HR4,HB4⟩,by simp [intOf]; omega⟩
 obtain rfl:k=l.length:=by omega
 rw [List.take_length] at HF
 have HFN:=jJ (allFit_N HF.out)
 obtain ⟨w5,hw5⟩:=jX (wr:World)
 rw [← hw5] at HO1 HR1 HB1 ⊢
 clear hw5 HO HR HB hlt
 go_wp2_with fail
 go_loopw [24] (fun iv wr=>∃ (k:Nat) (A':Option Addr) (c':Nat),k ≤ l.length ∧ iv=.int .i64 k ∧ Hid ((joinS (l.take k)).1 ≤ 4096) ∧ Hid (OneSoup wr w.heap.size go (.int .i64 (joinS (l.take k)).1) A' c' (joinS (l.take k)).2) ∧ Hid (Blk wr gr 24 #[.int .i64 0,.slice none 0 0]) ∧ Hid (Below w.heap.size w wr)) (fun iv _=>l.length - (intOf iv).toNat)
 case atStart=>exact ⟨0,none,0,by omega,rfl,jJ (by simp [joinS]),HO1,HR1,HB1⟩
 obtain ⟨k,A',c',hk,rfl,HN,HOK,HRK,HBK⟩:=hrel
 obtain ⟨w6,hw6⟩:=jX (wr:World)
 rw [← hw6] at HOK HRK HBK ⊢
 clear hw6 HO1 HR1 HB1
 by_cases hlt:k < l.length
 · obtain ⟨ad,s,rfl,hs,hadb,hc2,hst⟩:=(HT.out.below HBK.out).at_ hlt
   have hTl:=HTL.out s (List.mem_of_getElem? hs)
   have hsN:=HFN.out s (List.mem_of_getElem? hs)
   have HFS:=jJ (allFit_take HF.out hs)
   have hjb:=joinS_bound l HFN.out k hk
   have hjl:=HJL.out k hk
   have HJ:=jJ (joinS_succ l k hs)
   have HJF:Hid (4096 < (joinS (l.take k)).1 + s.N → joinL l=(0,[],7)):=jJ fun h=>joinL_full HF.out (by
    have h1:=joinS_take l (fun s hs=>(HFN.out s hs).1) (k + 1)
    rw [joinS_succ l k hs] at h1
    exact Int.lt_of_lt_of_le h h1)
   have HJS:=jJ hs
   obtain ⟨sN,sA,sc,sT⟩:=s
   obtain ⟨e0,e1,e2,e3⟩:=hc2
   simp only at e0 e1 e2 e3 hTl HFS hsN HJ HJF
   unfold joinStep at HJ
   simp only at HJ
   generalize joinS (l.take k)=r at *
   obtain ⟨rN,rT⟩:=r
   simp only at HN HOK hjb hjl HJ HJF
   have hk0:(0:Int) ≤ (k:Int):=by omega
   have hk1:(k:Int) < (l.length:Int):=by omega
   have hN1:=HN.out
   clear hs hst hadb HN
   obtain ⟨w7,hw7⟩:=jX (w6.alloc (.cells #[.int .i64 sN,.slice sA sT.length sc] 24))
   have HSB:Hid (Blk w7 w6.heap.size 24 #[.int .i64 sN,.slice sA sT.length sc]):=by subst hw7; exact jJ (Blk.new _ _ _)
   have HO7:Hid (OneSoup w7 w.heap.size go (.int .i64 rN) A' c' rT):=by subst hw7; exact jJ (HOK.out.alloc _)
   have HR7:Hid (Blk w7 gr 24 #[.int .i64 0,.slice none 0 0]):=by subst hw7; exact jJ (HRK.out.alloc _)
   have HB7:Hid (Below w.heap.size w w7):=by subst hw7; exact jJ (bw_alloc HBK.out _)
   have HSN:Hid (w6.heap.size ≠ go ∧ w6.heap.size ≠ gr ∧ w.heap.size ≤ w6.heap.size):=jJ ⟨by have:=HOK.out.t.lt; omega,by have:=HRK.out.lt; omega,HBK.out.size⟩
   have HST6:Hid (TrisAt w w.heap.size sA sT.length sT):=jJ (HT.out.tris _ (List.mem_of_getElem? HJS.out))
   have F7:=And.intro (And.intro HO7.out.cells (soup_facts HSB.out)) (soup_facts HR7.out)
   rw [hw7] at F7
   obtain ⟨⟨⟨o0,o1,_,_,_⟩,s0,s1,_,_,_⟩,r0,r1,r2,r3,_⟩:=F7
   have u1:IntKind.i64.wrap (rN + sN)=rN + sN:=by rw [IntKind.wrap_i64]; omega
   by_cases hbig:4096 < rN + sN
   · have HQ:=jJ (HJF.out hbig)
     go_wp2_with fail
     rw [← hw7]
     obtain ⟨f0,f1,_,_,_⟩:=soup_facts (soup_set HR7.out (.int .i64 0) (.slice none 0 0))
     refine bodyPost_ret (v:=.tuple #[.agg #[.int .i64 (0),.slice none 0 0],.int .i64 7]) ?_ rfl (pick_post HQ.out (LRow.nil _ _) (bw_set (bw_set HB7.out HGR.out _) HGR.out _))
     simp [results,Tryz.results54,go_sem,f0,f1]
   have hlen8:¬ (8192:Int) < (rT.length:Int) + (sT.length:Int):=by omega
   go_wp2_with fail
   rw [← hw7]
   generalize w6.heap.size=sb at *
   clear hw7 HOK HRK HBK e0 e1 e2 e3 o0 o1 r0 r1 r2 r3 s0 s1
   go_loopw [48] (fun qv wr=>∃ (q:Nat) (A2:Option Addr) (c2:Nat),q ≤ sT.length ∧ qv=.int .i64 q ∧ Hid (OneSoup wr w.heap.size go (.int .i64 rN) A2 c2 (rT ++ (sT.take q).map (shT rN))) ∧ Hid (Blk wr sb 24 #[.int .i64 sN,.slice sA sT.length sc]) ∧ Hid (Blk wr gr 24 #[.int .i64 0,.slice none 0 0]) ∧ Hid (Below w.heap.size w wr)) (fun qv _=>sT.length - (intOf qv).toNat)
   case atStart=>exact ⟨0,A',c',by omega,rfl,by simpa using HO7,HSB,HR7,HB7⟩
   obtain ⟨q,A2,c2,hq,rfl,HOM,HSM,HRM,HBM⟩:=hrel
   obtain ⟨wm,hwm⟩:=jX (wr:World)
   rw [← hwm] at HOM HSM HRM HBM ⊢
   clear hwm HO7 HSB HR7 HB7
   obtain ⟨s0,s1,_,_,_⟩:=soup_facts HSM.out
   by_cases hltq:q < sT.length
   · obtain ⟨ad3,t,e3,htq,_,hadb3,hc4⟩:=(HST6.out.below HBM.out).at_ hltq
     obtain ⟨d0,d1,d2,d3,d4,d5⟩:=hc4
     subst e3
     have hft:=(fitT_iff.1 (fit_tri HFS.out hltq)).1
     rw [tri_of htq] at hft
     have HLS:Hid (rT ++ (sT.take q).map (shT rN) ++ [shT rN t]=rT ++ (sT.take (q + 1)).map (shT rN)):=jJ (by rw [take_snoc_T sT q htq]; simp)
     have hLl:(rT ++ (sT.take q).map (shT rN)).length ≤ 7000:=by
      rw [List.length_append,List.length_map,List.length_take]
      have:=Nat.min_le_left q sT.length
      omega
     generalize rT ++ (sT.take q).map (shT rN)=L at *
     have hq0:(0:Int) ≤ (q:Int):=by omega
     have hq1:(q:Int) < (sT.length:Int):=by omega
     have a1:IntKind.i64.wrap (t.a + rN)=t.a + rN:=by rw [IntKind.wrap_i64]; omega
     have a2:IntKind.i64.wrap (t.b + rN)=t.b + rN:=by rw [IntKind.wrap_i64]; omega
     have a3:IntKind.i64.wrap (t.c + rN)=t.c + rN:=by rw [IntKind.wrap_i64]; omega
     clear htq hadb3 hft
     go_upto_region 16 with (fail)
     obtain ⟨w8,hw8⟩:=jX (wm.alloc (.cells #[.int .i64 t.a,.int .i64 t.b,.int .i64 t.c] 65))
     have HTB:Hid (Blk w8 wm.heap.size 65 #[.int .i64 t.a,.int .i64 t.b,.int .i64 t.c]):=by subst hw8; exact jJ (Blk.new _ _ _)
     have HO8:Hid (OneSoup w8 w.heap.size go (.int .i64 rN) A2 c2 L):=by subst hw8; exact jJ (HOM.out.alloc _)
     have HS8:Hid (Blk w8 sb 24 #[.int .i64 sN,.slice (some ad3) sT.length sc]):=by subst hw8; exact jJ (HSM.out.alloc _)
     have HR8:Hid (Blk w8 gr 24 #[.int .i64 0,.slice none 0 0]):=by subst hw8; exact jJ (HRM.out.alloc _)
     have HB8:Hid (Below w.heap.size w w8):=by subst hw8; exact jJ (bw_alloc HBM.out _)
     rw [← hw8]
     generalize wm.heap.size=tb at *
     clear hw8 HOM HSM HRM HBM d0 d1 d2 d3 d4 d5
     obtain ⟨x0,x1,x2⟩:=tri_cells HTB.out
     obtain ⟨o0,o1,_,_,ol⟩:=HO8.out.cells
     obtain ⟨y0,y1,_,_⟩:=(HO8.out.alloc (.cells #[.int .i64 (t.a + rN),.int .i64 (t.b + rN),.int .i64 (t.c + rN)] 65)).cells
     go_wp2_with (at_builtin; go_must (refine wpList_append_sl _ rfl (.tmp 53) (.tmp 70) _ rfl w.heap.size 65 i0 _ 3 24 Tryz.underlying22 hi0 hz0 hz1 hz2 rfl (by omega) (.slice A2 L.length c2) L.length (L.flatMap Tri.cells) rfl (HO8.out.alloc _).r.owns (w8.heap.size + 1) (some ⟨w8.heap.size,0,none⟩) 1 1 [.int .i64 (t.a + rN),.int .i64 (t.b + rN),.int .i64 (t.c + rN)] rfl (reads_newN _ _ _ 1 3 rfl rfl) (by simp [Value.oneCell']) (by simp only [maxLen]; omega) (by omega) (bw_size (bw_alloc HB8.out _)) ?_); intro A5 c5 w5 hown5 hg5 hat5; obtain ⟨z0,z1,z2⟩:=OneSoup.facts (HO8.out.alloc _) hg5)
     have hB5:Below w.heap.size w w5:=bw_grow (bw_alloc HB8.out _) hg5 (fun x hx=>(HO8.out.r.owns.lt x hx).1)
     refine ⟨⟨q + 1,A5,c5,by omega,by go_num,jJ ?_,jJ ?_,jJ ?_,jJ (bw_set hB5 HO8.out.g _)⟩,by simp [intOf]; omega⟩
     · rw [← HLS.out]
       exact OneSoup.push (HO8.out.alloc _) hown5 (by simp) (by simp [Tri.cells,shT]) hg5
     · exact (Blk.grown (HS8.out.alloc _) hg5 (fun e=>soup_tri_ne HO8.out.r HS8.out sb e.symm rfl)).far HSN.out.1 _
     exact (Blk.grown (HR8.out.alloc _) hg5 (fun e=>soup_tri_ne HO8.out.r HR8.out gr e.symm rfl)).far HGO.out.symm _
   obtain rfl:q=sT.length:=by omega
   rw [List.take_length] at HOM
   obtain ⟨o0,o1,o2,o3,ol⟩:=HOM.out.cells
   obtain ⟨s0,s1,_,_,_⟩:=soup_facts HSM.out
   go_wp2_with fail
   exact ⟨⟨k + 1,A2,c2,by omega,by go_num,jJ (by rw [HJ.out]; simp only; omega),jJ (by rw [HJ.out]; exact HOM.out.setN _),jJ (HRM.out.far HGO.out.symm _),jJ (bw_set HBM.out HOM.out.g _)⟩,by simp [intOf]; omega⟩
 obtain rfl:k=l.length:=by omega
 rw [List.take_length] at HN HOK
 have HQ:=jJ (joinL_ok HF.out (by have:=HN.out; omega))
 generalize joinS l=r at *
 obtain ⟨rN,rT⟩:=r
 simp only at HN HOK HQ
 obtain ⟨o0,o1,_,_,_⟩:=HOK.out.cells
 obtain ⟨r0,r1,r2,r3,_⟩:=soup_facts HRK.out
 go_wp2_with fail
 obtain ⟨f0,f1,_,_,_⟩:=soup_facts (soup_set HRK.out (.int .i64 rN) (.slice A' rT.length c'))
 refine bodyPost_ret (v:=.tuple #[.agg #[.int .i64 (rN),.slice A' rT.length c'],.int .i64 0]) ?_ rfl (pick_post HQ.out (HOK.out.r.soup_set HRK.out _ _) (bw_set (bw_set HBK.out HGR.out _) HGR.out _))
 simp [results,Tryz.results54,go_sem,f0,f1]
end
section
theorem rooted_info:(Tryz.prog.info? 113).map (fun i=>(i.zero,i.size,i.bytes))=some (some (.agg #[.slice none 0 0,.int .i64 0,.slice none 0 0,.slice none 0 0,.slice none 0 0,.slice none 0 0]),6,128):=by kernel_rfl
theorem soup_info47:(Tryz.prog.info? 24).map (fun i=>(i.zero,i.size,i.bytes))=some (some (.agg #[.int .i64 0,.slice none 0 0]),2,32):=by kernel_rfl
theorem ap_nilP (w:World):(Builtin.append_ #[72, 72] 72 #[.slice none 0 0,.slice none 0 0]).run Tryz.prog w=.ok (.slice none 0 0) w:=by kernel_rfl
theorem ap_nilI (w:World):(Builtin.append_ #[30, 30] 30 #[.slice none 0 0,.slice none 0 0]).run Tryz.prog w=.ok (.slice none 0 0) w:=by kernel_rfl
theorem surf_chk47 {m:Nat} {T:List Tri} (h:checkR (m:Int) T=(0,0,0)):SurfE m T:=by
 obtain ⟨k,hk⟩:=surf_of (checkR_zero (by rw [h])).1
 obtain ⟨h1,h2⟩:=surf_e.1 hk
 obtain rfl:m=k:=by omega
 exact h2
theorem tab_only {w w5 W:World} {g m gb:Nat} {T:List Tri} (h:TabN w g m T) (hb:Below w.heap.size w w5) (ho:Only (fun i=>i=gb) w5 W) (hg:w.heap.size ≤ gb):TabN W g m T:=h.below (hb.trans (ho.below hb.size fun k hk e=>by omega))
def FormPost (w:World) (T:List Tri) (e:Ending) (w':World):Prop :=
 ∃ (p:List Nat) (At Ao:Option Addr) (ct co:Nat),Put T p ∧ e=.returned (.tuple #[.agg #[.int .i64 ((oldsC T (putL T p)).length:Int),.slice At (joinC T (putL T p) 0).length ct,.slice none 0 0,.slice none 0 0],.slice Ao (oldsC T (putL T p)).length co]) ∧
  LRow w' w.heap.size At ct (joinC T (putL T p) 0) ∧ IR w' w.heap.size Ao co (oldsC T (putL T p)) ∧ Below w.heap.size w w'
attribute [local irreducible] Blk World.alloc World.setCell World.cell? World.frozen? MapV MapI
theorem form_any (m:Nat) (A:Option Addr) (c:Nat) (T:List Tri) (w:World) (hs:checkR (m:Int) T=(0,0,0)) (hn:T.length ≤ 1000) (hk:kN T < 20) (hb:T.length * kN T ≤ 1000) (ht:TrisAt w w.heap.size A T.length T) :
  Calls Tryz.prog 28 #[.agg #[.int .i64 (m:Int),.slice A T.length c,.slice none 0 0,.slice none 0 0]] w (FormPost w T):=by
 obtain ⟨K,hKe⟩:=jX (kN T)
 rw [← hKe] at hk hb
 have hKT:K ≤ T.length:=hKe ▸ kN_le T
 have HKE:=jJ hKe
 have HLB:=jJ hb
 clear hKe hb
 obtain ⟨i0,hi0,hz0,hz1,hz2⟩:=info_parts rooted_info
 obtain ⟨i1,hi1,iz0,iz1,iz2⟩:=info_parts soup_info47
 obtain ⟨i2,hi2,jz0,jz1,jz2⟩:=info_parts int_infoC
 have HT:=jJ ht
 have HS:=jJ hs
 clear ht hs
 go_enter Tryz.func28,Tryz.ntmps28
 go_upto_region 1 with (fail)
 obtain ⟨wA,hwA⟩:=jX ((w.alloc (.cells #[.int .i64 (m:Int),.slice A T.length c,.slice none 0 0,.slice none 0 0] 74)).alloc (.cells #[.int .i64 0,.slice none 0 0,.slice none 0 0,.slice none 0 0] 74))
 have K1A:Hid (Blk wA w.heap.size 74 #[.int .i64 (m:Int),.slice A T.length c,.slice none 0 0,.slice none 0 0]):=by subst hwA; exact jJ ((Blk.new _ _ _).alloc _)
 have K2A:Hid (Blk wA (w.heap.size + 1) 74 #[.int .i64 0,.slice none 0 0,.slice none 0 0,.slice none 0 0]):=by subst hwA; exact jJ (Blk.new_ (by rw [World.size_alloc]) _ _)
 have HBA:Hid (Below w.heap.size w wA):=by subst hwA; exact jJ (bw_alloc (bw_alloc (Below.refl _ _) _) _)
 rw [← hwA]
 obtain ⟨b2,hb2⟩:=jX (w.heap.size + 1)
 obtain ⟨b1,hb1⟩:=jX w.heap.size
 have HG:Hid (w.heap.size ≤ b1 ∧ w.heap.size ≤ b2 ∧ b1 ≠ b2):=jJ (by omega)
 rw [← hb2] at K2A
 rw [← hb1] at K1A
 simp only [← hb2]
 simp only [← hb1]
 have HNE:=jJ (new_any (m:Int) A T.length c T wA hn (tris_on HBA.out HT.out))
 have p0:wA.cell? ⟨b1,0,none⟩=some (.int .i64 (m:Int)):=K1A.out.cell 0
 have p1:wA.cell? ⟨b1,1,none⟩=some (.slice A T.length c):=K1A.out.cell 1
 clear hwA hb1 hb2
 go_wp2_with fail
 refine HNE.out.mono ?_
 rintro e w1 hpost
 rcases hpost with ⟨_,g,rfl,htab,hb⟩ | ⟨hne,_⟩
 case inr=>exact absurd HS.out hne
 rw [show wv (0,0,0)=.agg #[.int .i64 0,.int .i64 0,.int .i64 0] from rfl]
 have HTN:Hid (TabN w1 g m T):=jJ ⟨htab.base (Nat.zero_le _),surf_chk47 HS.out,hn⟩
 have K11:=jJ (K1A.out.below hb K1A.out.lt)
 have K21:=jJ (K2A.out.below hb K2A.out.lt)
 have HB1:=jJ (bw_call HBA.out hb)
 clear htab hb HNE K1A K2A HBA p0 p1
 go_upto_region 2 with (fail)
 obtain ⟨w2,hw2⟩:=jX (w1.alloc (.cells #[.int .i64 0,.int .i64 0,.int .i64 0] 39))
 have HT2:Hid (TabN w2 g m T):=by subst hw2; exact jJ (HTN.out.alloc _)
 have K12:Hid (Blk w2 b1 74 #[.int .i64 (m:Int),.slice A T.length c,.slice none 0 0,.slice none 0 0]):=by subst hw2; exact jJ (K11.out.alloc _)
 have K22:Hid (Blk w2 b2 74 #[.int .i64 0,.slice none 0 0,.slice none 0 0,.slice none 0 0]):=by subst hw2; exact jJ (K21.out.alloc _)
 have HB2:Hid (Below w.heap.size w w2):=by subst hw2; exact jJ (bw_alloc HB1.out _)
 rw [← hw2]
 have HCN:Hid (Calls Tryz.prog 48 #[.pointer (some ⟨g,0,none⟩)] w2 (IntPost w2 (K:Int))):=jJ (by have h:=count_any g m T w2 HT2.out; rw [kN_eq T,← HKE.out] at h; exact h)
 have hmk:∀ wx:World,(Instr.makeSlice 109 (.int .i64 (K:Int)) (.int .i64 (K:Int))).run Tryz.prog wx=.ok (.slice (some ⟨wx.heap.size,0,none⟩) K K) (wx.alloc (.cells (madeCells #[.slice none 0 0,.int .i64 0,.slice none 0 0,.slice none 0 0,.slice none 0 0,.slice none 0 0] (K * 6)) 113)):=fun wx=>by
  have:=run_make_rowN (P:=Tryz.prog) 109 113 i0 _ Tryz.underlying109 hi0 hz0 .i64 .i64 K K (Nat.le_refl _) (by rw [hz2]; omega) (by omega) wx
  rw [hz1] at this
  exact this
 clear hw2 HTN K11 K21 HB1
 go_wp2_with fail
 refine HCN.out.mono ?_
 rintro e w3 ⟨rfl,hb⟩
 have HT3:=jJ (HT2.out.below hb)
 have K13:=jJ (K12.out.below hb K12.out.lt)
 have K23:=jJ (K22.out.below hb K22.out.lt)
 have HB3:=jJ (bw_call HB2.out hb)
 clear hb HCN HT2 K12 K22 HB2
 go_upto_region 3 with (fail)
 obtain ⟨w4,hw4⟩:=jX (w3.alloc (.cells (madeCells #[.slice none 0 0,.int .i64 0,.slice none 0 0,.slice none 0 0,.slice none 0 0,.slice none 0 0] (K * 6)) 113))
 have HT4:Hid (TabN w4 g m T):=by subst hw4; exact jJ (HT3.out.alloc _)
 have K14:Hid (Blk w4 b1 74 #[.int .i64 (m:Int),.slice A T.length c,.slice none 0 0,.slice none 0 0]):=by subst hw4; exact jJ (K13.out.alloc _)
 have K24:Hid (Blk w4 b2 74 #[.int .i64 0,.slice none 0 0,.slice none 0 0,.slice none 0 0]):=by subst hw4; exact jJ (K23.out.alloc _)
 have G4:Hid (Blk w4 w3.heap.size 113 (madeCells #[.slice none 0 0,.int .i64 0,.slice none 0 0,.slice none 0 0,.slice none 0 0,.slice none 0 0] (K * 6))):=by subst hw4; exact jJ (Blk.new _ _ _)
 have HB4:Hid (Below w.heap.size w w4):=by subst hw4; exact jJ (bw_alloc HB3.out _)
 have HGB:Hid (w.heap.size ≤ w3.heap.size):=jJ HB3.out.size
 rw [← hw4]
 obtain ⟨gb,hgb⟩:=jX w3.heap.size
 have HG3:Hid (w3.heap.size ≤ gb):=jJ (by omega)
 have HB34:Hid (Below w3.heap.size w3 w4):=by subst hw4; exact jJ (bw_alloc (Below.refl _ _) _)
 rw [← hgb] at G4 HGB
 simp only [← hgb]
 have HOF:=jJ (of_any g m T w4 HT4.out)
 clear hw4 hgb K13 K23 HB3 hmk
 go_wp2_with fail
 refine HOF.out.mono ?_
 rintro e w5 ⟨AO,cO,rfl,hr,hb⟩
 have HT5:=jJ (HT4.out.below hb)
 have HB35:=jJ (bw_call HB34.out hb)
 have K15:=jJ (K14.out.below hb K14.out.lt)
 have K25:=jJ (K24.out.below hb K24.out.lt)
 have G5:=jJ (G4.out.below hb G4.out.lt)
 have HB5:=jJ (bw_call HB4.out hb)
 have HR5:Hid (IR w5 w4.heap.size AO cO (natL ((List.range T.length).map (ofN T)))):=jJ (by rw [← ofL_nat]; exact hr)
 have HGB2:Hid (w.heap.size ≤ gb):=HGB
 have HN1:Hid (b1 ≠ gb):=jJ (K15.out.ne_ G5.out (by decide))
 have HN2:Hid (b2 ≠ gb):=jJ (K25.out.ne_ G5.out (by decide))
 have HNR:Hid ((Value.slice AO (natL ((List.range T.length).map (ofN T))).length cO).ownBlock ≠ some gb):=jJ (own_blk_ne HR5.out G5.out (by decide))
 have HBA:Hid (BAt w5 T gb K (bestF T 0) w5):=jJ (BAt.start G5.out)
 have HSZ:Hid (w.heap.size ≤ w5.heap.size):=jJ HB5.out.size
 clear hr hb HB34 HOF HT4 K14 K24 G4 HB4
 go_wp2_with fail
 go_loopw [7,8,9,10,28] (fun _ _ _ _ kv wr=>∃ i:Nat,i ≤ T.length ∧ kv=.int .i64 (i:Int) ∧ Hid (BAt w5 T gb K (bestF T (3 * i)) wr)) (fun _ _ _ _ kv _=>T.length - (intOf kv).toNat)
 case atStart=>exact ⟨0,by omega,rfl,HBA⟩
 obtain ⟨i,hi,rfl,GE⟩:=hrel
 obtain ⟨wE,hwE⟩:=jX (wr:World)
 rw [← hwE] at GE ⊢
 clear hwE HBA
 by_cases hil:i < T.length
 · have hR:IR wE w4.heap.size AO cO (natL ((List.range T.length).map (ofN T))):=own_only HR5.out GE.out.b HNR.out
   obtain ⟨gO,hgO,y⟩:=ir_at hR (show i < ((List.range T.length).map (ofN T)).length by simpa using hil)
   rw [ofN_getD T hil] at y
   obtain ⟨k,hk2⟩:=jX (ofN T i)
   have hkK:k < K:=by rw [hk2,HKE.out]; exact ofN_lt hil
   rw [← hk2] at y
   have HQ:=jJ hk2
   have hii:(i:Int) < (T.length:Int):=by omega
   have hki:(k:Int) < (K:Int):=by omega
   clear hR hk2
   subst hgO
   go_wp2_with fail
   go_loopw [9,10] (fun cv _ wr=>∃ q:Nat,q ≤ 3 ∧ cv=.int .i64 ((3 * i + q:Nat):Int) ∧ Hid (BAt w5 T gb K (bestF T (3 * i + q)) wr)) (fun cv _ _=>3 * i + 3 - (intOf cv).toNat)
   case atStart=>exact ⟨0,by omega,by go_num,GE⟩
   obtain ⟨q,hq,rfl,GF⟩:=hrel
   obtain ⟨wF,hwF⟩:=jX (wr:World)
   rw [← hwF] at GF ⊢
   clear hwF GE
   obtain ⟨d,hd⟩:=jX (3 * i + q)
   rw [← hd] at GF ⊢
   have u1:IntKind.i64.wrap (3 * (i:Int))=3 * (i:Int):=by rw [IntKind.wrap_i64]; omega
   have u2:IntKind.i64.wrap (3 * (i:Int) + 3)=3 * (i:Int) + 3:=by rw [IntKind.wrap_i64]; omega
   have u3:IntKind.i64.wrap ((d:Int) + 1)=(d:Int) + 1:=by rw [IntKind.wrap_i64]; omega
   have HD:=jJ hd
   by_cases hq3:q < 3
   · have hdi:(d:Int) < 3 * (i:Int) + 3:=by omega
     have K1F:=jJ (K15.out.only GF.out.b HN1.out)
     have c0:=K1F.out.cell 0
     have c1:=K1F.out.cell 1
     have c2:=K1F.out.cell 2
     have c3:=K1F.out.cell 3
     have hd3:d < 3 * T.length:=by omega
     clear hd
     have HFR:=jJ (from_any g m T d (.int .i64 (m:Int)) (.slice A T.length c) wF hd3 (tab_only HT3.out HB35.out GF.out.b HG3.out))
     simp at c0 c1 c2 c3
     go_wp2_with fail
     refine HFR.out.mono ?_
     rintro e wG ⟨Ar,At,Ao,cr,ct,co,rfl,hr,hl,ho,hb⟩
     have GG:=jJ (GF.out.below hb)
     have HRr:=jJ (own_low (B:=w5.heap.size) hr GF.out.b.size)
     have HRl:=jJ (LRow.base hl GF.out.b.size)
     have HRo:=jJ (own_low (B:=w5.heap.size) ho GF.out.b.size)
     clear hr hl ho hb HFR GF K1F c0 c1 c2 c3
     obtain ⟨nr,hnr⟩:=jX ((rowC T d).length)
     obtain ⟨nl,hnl⟩:=jX ((rootT T d).length)
     obtain ⟨no,hno⟩:=jX ((rootO T d).length)
     rw [← hnr,← hnl,← hno]
     have HNr:=jJ hnr
     have HNl:=jJ hnl
     have HNo:=jJ hno
     clear hnr hnl hno
     go_upto_region 10 with (fail)
     obtain ⟨wH,hwH⟩:=jX (wG.alloc (.cells #[.slice Ar nr cr,.int .i64 (no:Int),.slice At nl ct,.slice none 0 0,.slice none 0 0,.slice Ao no co] 113))
     have KXwH:Hid (Blk wH wG.heap.size 113 #[.slice Ar nr cr,.int .i64 (no:Int),.slice At nl ct,.slice none 0 0,.slice none 0 0,.slice Ao no co]):=by subst hwH; exact jJ (Blk.new _ _ _)
     have GAwH:Hid (BAt w5 T gb K (bestF T d) wH):=by subst hwH; exact jJ (GG.out.alloc _)
     have RrwH:Hid (IR wH w5.heap.size Ar cr (rowC T d)):=by subst hwH; exact jJ (IR.alloc HRr.out _)
     have RlwH:Hid (LRow wH w5.heap.size At ct (rootT T d)):=by subst hwH; exact jJ (LRow.alloc HRl.out _)
     have RowH:Hid (IR wH w5.heap.size Ao co (rootO T d)):=by subst hwH; exact jJ (IR.alloc HRo.out _)
     rw [← hwH]
     obtain ⟨bx,hbx⟩:=jX wG.heap.size
     rw [← hbx] at KXwH
     simp only [← hbx]
     have HBwH:Hid (Below wH.heap.size wH wH):=jJ (Below.refl _ _)
     clear hwH hbx GG HRr HRl HRo
     cases hf:bestF T d k with
     | none =>
      have CBwH:Hid (CellQ wH ⟨gb,k * 6,none⟩ (.slice none 0 0)):=jJ ⟨GAwH.out.at_none hkK hf,GAwH.out.lt⟩
      have HPK:Hid (updF (bestF T d) k (pickB T d (bestF T d k))=updF (bestF T d) k (some d)):=jJ (by rw [hf]; rfl)
      clear hf
      refine wp_region_held_drew (S:=fun w'=>w'.cell? ⟨gb,k * 6,none⟩=some (.slice none 0 0)) (by kernel_rfl) (CBwH.out.drew.c) (fun hHeld=>?_)
      refine hKk 0 ?_; (try simp only [zQ])
      refine hKk 1 ?_; (try simp only [zQ])
      refine hKk 2 ?_; (try simp only [zQ])
      refine hKk 3 ?_; (try simp only [zQ])
      refine hKk 4 ?_; (try simp only [zQ])
      refine hKk 5 ?_; (try simp only [zQ])
      refine hKk 6 ?_; (try simp only [zQ])
      refine hKk 7 ?_; (try simp only [zQ])
      refine hRk 8 ?_; (try simp only [zQ])
      refine hRk 9 ?_; (try simp only [zQ])
      refine hRk 10 ?_; (try simp only [zQ])
      refine hRk 11 ?_; (try simp only [zQ])
      refine hRk 12 ?_; (try simp only [zQ])
      refine hRk 13 ?_; (try simp only [zQ])
      refine hRk 14 ?_; (try simp only [zQ])
      refine hRk 15 ?_; (try simp only [zQ])
      refine hRk 16 ?_; (try simp only [zQ])
      refine hKk 17 ?_; (try simp only [zQ])
      refine wpAnyH_done (by kernel_rfl) ?_ _
      have q0:wH.cell? ⟨bx,0,none⟩=some (.slice Ar nr cr):=KXwH.out.cell 0
      have q1:wH.cell? ⟨bx,1,none⟩=some (.int .i64 (no:Int)):=KXwH.out.cell 1
      have q2:wH.cell? ⟨bx,2,none⟩=some (.slice At nl ct):=KXwH.out.cell 2
      have q3:wH.cell? ⟨bx,3,none⟩=some (.slice none 0 0):=KXwH.out.cell 3
      have q4:wH.cell? ⟨bx,4,none⟩=some (.slice none 0 0):=KXwH.out.cell 4
      have q5:wH.cell? ⟨bx,5,none⟩=some (.slice Ao no co):=KXwH.out.cell 5
      obtain ⟨vv,hs,_⟩:=GAwH.out.ex
      have y0:wH.cell? ⟨gb,k * 6,none⟩=some (vv k 0):=hs.cell hkK (j:=0) (by decide)
      have y1:=hs.cell hkK (j:=1) (by decide)
      have y2:=hs.cell hkK (j:=2) (by decide)
      have y3:=hs.cell hkK (j:=3) (by decide)
      have y4:=hs.cell hkK (j:=4) (by decide)
      have y5:=hs.cell hkK (j:=5) (by decide)
      have f0:=hs.frozen (k * 6)
      have f1:=hs.frozen (k * 6 + 1)
      have f2:=hs.frozen (k * 6 + 2)
      have f3:=hs.frozen (k * 6 + 3)
      have f4:=hs.frozen (k * 6 + 4)
      have f5:=hs.frozen (k * 6 + 5)
      have GP:=jJ (GAwH.out.put hkK (i:=d) RrwH.out RlwH.out RowH.out)
      rw [← HNr.out,← HNl.out,← HNo.out] at GP
      go_wp2_with fail
      go_roundw
      case rel=>exact ⟨q + 1,by omega,by rw [show ((3 * i + (q + 1):Nat):Int)=(d:Int) + 1 by have:=HD.out; omega],jJ (by rw [show 3 * i + (q + 1)=d + 1 by have:=HD.out; omega,bestF,show d / 3=i by rw [HD.out]; omega,← HQ.out,HPK.out]; exact GP.out.drew)⟩
      case measure=>simp [intOf]; omega
     | some b =>
      obtain ⟨A2,c2,hcb,hrb⟩:=GAwH.out.at_some hkK hf
      obtain ⟨nb,hnb⟩:=jX ((rowC T b).length)
      have hnb0:((nb:Int) == 0)=false:=by
       have:2 ≤ nb:=by rw [hnb]; unfold rowC rowL; simp
       simp; omega
      obtain ⟨z,hz⟩:=jX (cmpL (rowC T d) (rowC T b))
      have HCM:Hid (∀ W,Below wH.heap.size wH W → Calls Tryz.prog 51 #[.slice Ar nr cr,.slice A2 nb c2] W (IntPost W z)):=jJ fun W hW=>by
       rw [HNr.out,hnb,hz]
       exact (cmpL_any W _ _ Ar A2 cr c2 _ _ (IR.below RrwH.out hW) (IR.below hrb hW)).mono fun e w' h=>⟨h.1,by rw [h.2]; exact Below.refl _ _⟩
      rw [← hnb] at hcb
      have CBwH:Hid (CellQ wH ⟨gb,k * 6,none⟩ (.slice A2 nb c2)):=jJ ⟨hcb,GAwH.out.lt⟩
      have HPB:Hid (bestF T d k=some b):=jJ hf
      clear hcb hrb hnb hf
      by_cases hzl:z < 0
      · have HPK:Hid (updF (bestF T d) k (pickB T d (bestF T d k))=updF (bestF T d) k (some d)):=jJ (by rw [HPB.out]; unfold pickB; dsimp only; rw [if_pos (hz ▸ hzl)])
        clear hz
        refine wp_region_held_drew (S:=fun w'=>w'.cell? ⟨gb,k * 6,none⟩=some (.slice A2 nb c2) ∧ w'.cell? ⟨bx,0,none⟩=some (.slice Ar nr cr)) (by kernel_rfl) ⟨(CBwH.out.drew.c),(KXwH.out.drew.cell 0)⟩ (fun hHeld=>?_)
        refine hKk 0 ?_; (try simp only [zQ])
        refine hKk 1 ?_; (try simp only [zQ])
        refine hKk 2 ?_; (try simp only [zQ])
        refine hKk 3 ?_; (try simp only [zQ])
        refine hKk 4 ?_; (try simp only [zQ])
        refine hKk 5 ?_; (try simp only [zQ])
        refine hKk 6 ?_; (try simp only [zQ])
        refine hKk 7 ?_; (try simp only [zQ])
        refine hKk 8 ?_; (try simp only [zQ])
        refine hKk 9 ?_; (try simp only [zQ])
        refine hKk 10 ?_; (try simp only [zQ])
        refine hKk 11 ?_; (try simp only [zQ])
        refine hKk 12 ?_; (try simp only [zQ])
        refine hKk 13 ?_; (try simp only [zQ])
        refine hKk 14 ?_; (try simp only [zQ])
        refine wpAnyH_ready (rs:=[15]) (by kernel_rfl) (by simp) ?_
        refine held_cons rfl (fun K hK=>?_) ?_
        · go_simp
          go_wp2_with (go_at_call 51; refine (HCM.out wH.drew (bw_drew HBwH.out)).mono ?_; rintro e v3 ⟨rfl,hb⟩)
          have CBv3:=jJ (CBwH.out.drew.below hb)
          have KXv3:=jJ (blk_call KXwH.out.drew hb)
          have GAv3:=jJ (GAwH.out.drew.below hb)
          have Rrv3:=jJ (RrwH.out.drew.below hb)
          have Rlv3:=jJ (RlwH.out.drew.below hb)
          have Rov3:=jJ (RowH.out.drew.below hb)
          have HBv3:=jJ (bw_call (bw_drew HBwH.out) hb)
          clear hb
          refine hK.out _ _ ?_ (fun hHeld=>?_)
          · exact ⟨(CBv3.out.c),(KXv3.out.cell 0)⟩
          clear hK K
          (try simp only [zQ])
          refine hKk 16 ?_; (try simp only [zQ])
          refine hKk 17 ?_; (try simp only [zQ])
          refine wpAnyH_done (by kernel_rfl) ?_ _
          have q0:v3.cell? ⟨bx,0,none⟩=some (.slice Ar nr cr):=KXv3.out.cell 0
          have q1:v3.cell? ⟨bx,1,none⟩=some (.int .i64 (no:Int)):=KXv3.out.cell 1
          have q2:v3.cell? ⟨bx,2,none⟩=some (.slice At nl ct):=KXv3.out.cell 2
          have q3:v3.cell? ⟨bx,3,none⟩=some (.slice none 0 0):=KXv3.out.cell 3
          have q4:v3.cell? ⟨bx,4,none⟩=some (.slice none 0 0):=KXv3.out.cell 4
          have q5:v3.cell? ⟨bx,5,none⟩=some (.slice Ao no co):=KXv3.out.cell 5
          obtain ⟨vv,hs,_⟩:=GAv3.out.ex
          have y0:v3.cell? ⟨gb,k * 6,none⟩=some (vv k 0):=hs.cell hkK (j:=0) (by decide)
          have y1:=hs.cell hkK (j:=1) (by decide)
          have y2:=hs.cell hkK (j:=2) (by decide)
          have y3:=hs.cell hkK (j:=3) (by decide)
          have y4:=hs.cell hkK (j:=4) (by decide)
          have y5:=hs.cell hkK (j:=5) (by decide)
          have f0:=hs.frozen (k * 6)
          have f1:=hs.frozen (k * 6 + 1)
          have f2:=hs.frozen (k * 6 + 2)
          have f3:=hs.frozen (k * 6 + 3)
          have f4:=hs.frozen (k * 6 + 4)
          have f5:=hs.frozen (k * 6 + 5)
          have GP:=jJ (GAv3.out.put hkK (i:=d) Rrv3.out Rlv3.out Rov3.out)
          rw [← HNr.out,← HNl.out,← HNo.out] at GP
          go_wp2_with fail
          go_roundw
          case rel=>exact ⟨q + 1,by omega,by rw [show ((3 * i + (q + 1):Nat):Int)=(d:Int) + 1 by have:=HD.out; omega],jJ (by rw [show 3 * i + (q + 1)=d + 1 by have:=HD.out; omega,bestF,show d / 3=i by rw [HD.out]; omega,← HQ.out,HPK.out]; exact GP.out)⟩
          case measure=>simp [intOf]; omega
        exact AllReadyH.nil
      have HPK:Hid (updF (bestF T d) k (pickB T d (bestF T d k))=bestF T d):=jJ (by rw [HPB.out]; unfold pickB; dsimp only; rw [if_neg (hz ▸ hzl),← HPB.out,updF_self])
      clear hz
      refine wp_region_held_drew (S:=fun w'=>w'.cell? ⟨gb,k * 6,none⟩=some (.slice A2 nb c2) ∧ w'.cell? ⟨bx,0,none⟩=some (.slice Ar nr cr)) (by kernel_rfl) ⟨(CBwH.out.drew.c),(KXwH.out.drew.cell 0)⟩ (fun hHeld=>?_)
      refine hKk 0 ?_; (try simp only [zQ])
      refine hKk 1 ?_; (try simp only [zQ])
      refine hKk 2 ?_; (try simp only [zQ])
      refine hKk 3 ?_; (try simp only [zQ])
      refine hKk 4 ?_; (try simp only [zQ])
      refine hKk 5 ?_; (try simp only [zQ])
      refine hKk 6 ?_; (try simp only [zQ])
      refine hKk 7 ?_; (try simp only [zQ])
      refine hKk 8 ?_; (try simp only [zQ])
      refine hKk 9 ?_; (try simp only [zQ])
      refine hKk 10 ?_; (try simp only [zQ])
      refine hKk 11 ?_; (try simp only [zQ])
      refine hKk 12 ?_; (try simp only [zQ])
      refine hKk 13 ?_; (try simp only [zQ])
      refine hKk 14 ?_; (try simp only [zQ])
      refine wpAnyH_ready (rs:=[15]) (by kernel_rfl) (by simp) ?_
      refine held_cons rfl (fun K hK=>?_) ?_
      · go_simp
        go_wp2_with (go_at_call 51; refine (HCM.out wH.drew (bw_drew HBwH.out)).mono ?_; rintro e v3 ⟨rfl,hb⟩)
        have CBv3:=jJ (CBwH.out.drew.below hb)
        have KXv3:=jJ (blk_call KXwH.out.drew hb)
        have GAv3:=jJ (GAwH.out.drew.below hb)
        have Rrv3:=jJ (RrwH.out.drew.below hb)
        have Rlv3:=jJ (RlwH.out.drew.below hb)
        have Rov3:=jJ (RowH.out.drew.below hb)
        have HBv3:=jJ (bw_call (bw_drew HBwH.out) hb)
        clear hb
        refine hK.out _ _ ?_ (fun hHeld=>?_)
        · exact ⟨(CBv3.out.c),(KXv3.out.cell 0)⟩
        clear hK K
        (try simp only [zQ])
        refine hKk 16 ?_; (try simp only [zQ])
        refine hKk 17 ?_; (try simp only [zQ])
        refine wpAnyH_done (by kernel_rfl) ?_ _
        go_wp2_with fail
        go_roundw
        case rel=>exact ⟨q + 1,by omega,by rw [show ((3 * i + (q + 1):Nat):Int)=(d:Int) + 1 by have:=HD.out; omega],jJ (by rw [show 3 * i + (q + 1)=d + 1 by have:=HD.out; omega,bestF,show d / 3=i by rw [HD.out]; omega,← HQ.out,HPK.out]; exact GAv3.out)⟩
        case measure=>simp [intOf]; omega
      exact AllReadyH.nil
   obtain rfl:q=3:=by omega
   have hdi:¬ (d:Int) < 3 * (i:Int) + 3:=by omega
   have HG2:Hid (BAt w5 T gb K (bestF T (3 * (i + 1))) wF):=jJ (by rw [show 3 * (i + 1)=d by have:=HD.out; omega]; exact GF.out)
   clear hd GF
   go_wp2_with fail
   go_roundw
   case rel=>exact ⟨i + 1,by omega,by go_num,HG2⟩
   case measure=>simp [intOf]; omega
 obtain rfl:i=T.length:=by omega
 have hrows:=BAt.rows (w:=w5) (W:=wE) (T:=T) (gb:=gb) (by rw [← HKE.out]; exact GE.out)
 rw [← HKE.out] at hrows
 obtain ⟨v,hs,hR,hv⟩:=hrows
 have HSO:=jJ (sortStable_any w5.heap.size gb K v _ wE hk hs hR)
 have HSV:=jJ hv
 have HSA:=jJ hs
 clear hs hR hv
 go_wp2_with fail
 refine HSO.out.mono ?_
 rintro e wS ⟨rfl,p,hp,hsS,hup,hoS⟩
 have hPT:Put T p:=put_of (by rw [← HKE.out]; exact hp) (by rw [← HKE.out]; exact hup)
 have hpl:p.length=K:=by rw [hp.length_eq,List.length_range]
 obtain ⟨sp,qq,uu,hO⟩:=outs_of (b:=fun j=>bestN T (p.getD j 0)) hsS fun j hj=>by
  refine (HSV.out _ ?_).only HSA.out hoS
  have h1:p.getD j 0 ∈ p:=by
   rw [List.getD,List.getElem?_eq_getElem (by omega)]
   exact List.getElem_mem _
  exact List.mem_range.1 (hp.mem_iff.1 h1)
 have HLT:Hid (∀ j,j < K → bestN T (p.getD j 0) < 3 * T.length):=jJ fun j hj=>put_lt hPT (by rw [← HKE.out]; exact hj)
 have HPL:Hid (putL T p=(List.range K).map fun j=>bestN T (p.getD j 0)):=jJ (by rw [HKE.out]; exact put_list hPT)
 obtain ⟨bf,hbf⟩:∃ bf:Nat → Nat,bf=fun j=>bestN T (p.getD j 0):=⟨_,rfl⟩
 rw [← hbf] at hO HPL
 have HLB2:Hid (∀ j,j < K → bf j < 3 * T.length):=jJ fun j hj=>by rw [hbf]; exact HLT.out j hj
 have HPT:=jJ hPT
 have K2S:Hid (Blk wS b2 74 #[.int .i64 0,.slice none 0 0,.slice none 0 0,.slice none 0 0]):=jJ (K25.out.only (GE.out.b.trans hoS) HN2.out)
 have HBS:Hid (Below w.heap.size w wS):=jJ (HB5.out.trans ((GE.out.b.trans hoS).below HSZ.out fun k hk e=>by have:=HGB2.out; omega))
 have HOS:=jJ hO
 clear hp hsS hup hoS hPT hpl hO hbf HLT HSO HSV HSA GE
 go_upto_region 17 with (fail)
 obtain ⟨wT,hwT⟩:=jX (wS.alloc (.cells #[.int .i64 0,.slice none 0 0,.slice none 0 0,.slice none 0 0] 74))
 have K3T:Hid (Blk wT wS.heap.size 74 #[.int .i64 0,.slice none 0 0,.slice none 0 0,.slice none 0 0]):=by subst hwT; exact jJ (Blk.new _ _ _)
 have HBT:Hid (Below wS.heap.size wS wT):=by subst hwT; exact jJ (bw_alloc (Below.refl _ _) _)
 rw [← hwT]
 obtain ⟨b11,hb11⟩:=jX wS.heap.size
 have HN11:Hid (wS.heap.size ≤ b11):=jJ (by omega)
 rw [← hb11] at K3T
 simp only [← hb11]
 clear hwT hb11
 go_wp2_with fail
 go_loopw [12,13,15,73] (fun v12 v13 _ kv wr=>∃ (j no:Nat) (Aa Ao:Option Addr) (ca co:Nat),j ≤ K ∧ v12=.slice Ao no co ∧ v13=.slice Aa j ca ∧ kv=.int .i64 (j:Int) ∧ Hid (no=(oldsC T ((List.range j).map bf)).length) ∧
  Hid (wr.ownsRow wS.heap.size 24 2 (.slice Aa j ca) j (((List.range j).map sp).flatMap Sp.cells)) ∧ Hid (IR wr wS.heap.size Ao co (oldsC T ((List.range j).map bf))) ∧ Hid (Blk wr b11 74 #[.int .i64 0,.slice none 0 0,.slice none 0 0,.slice none 0 0]) ∧ Hid (Below wS.heap.size wS wr)) (fun _ _ _ kv _=>K - (intOf kv).toNat)
 case atStart=>exact ⟨0,0,none,none,0,0,by omega,rfl,rfl,rfl,jJ rfl,jJ (World.ownsRow_nil _ _ _ _),jJ (IR.nil _ _),K3T,HBT⟩
 clear K3T HBT
 obtain ⟨j,no,Aa,Ao,ca,co,hj,rfl,rfl,rfl,HNO,HAA,HAO,K3r,HBr⟩:=hrel
 obtain ⟨wU,hwU⟩:=jX (wr:World)
 rw [← hwU] at HAA HAO K3r HBr ⊢
 clear hwU
 by_cases hjK:j < K
 · have hji:(j:Int) < (K:Int):=by omega
   have HOU:=HOS.out.below HBr.out
   have y0:wU.cell? ⟨gb,j * 6,none⟩=some (.slice (uu j).1 (uu j).2.1 (uu j).2.2):=HOU.s.cell hjK (j:=0) (by decide)
   have y1:wU.cell? ⟨gb,j * 6 + 1,none⟩=some (.int .i64 (sp j).N):=HOU.s.cell hjK (j:=1) (by decide)
   have y2:wU.cell? ⟨gb,j * 6 + 2,none⟩=some (.slice (sp j).A (sp j).T.length (sp j).c):=HOU.s.cell hjK (j:=2) (by decide)
   have y3:wU.cell? ⟨gb,j * 6 + 3,none⟩=some (.slice none 0 0):=HOU.s.cell hjK (j:=3) (by decide)
   have y4:wU.cell? ⟨gb,j * 6 + 4,none⟩=some (.slice none 0 0):=HOU.s.cell hjK (j:=4) (by decide)
   have y5:wU.cell? ⟨gb,j * 6 + 5,none⟩=some (.slice (qq j).1 (rootO T (bf j)).length (qq j).2):=HOU.s.cell hjK (j:=5) (by decide)
   have HRO:=jJ (HOU.o j hjK)
   clear HOU
   obtain ⟨s1,hs1⟩:=jX (sp j)
   obtain ⟨q1,hq1⟩:=jX (qq j)
   obtain ⟨l1,hl1⟩:=jX ((rootO T (bf j)).length)
   obtain ⟨nt,hnt⟩:=jX s1.T.length
   rw [← hs1] at y1 y2
   rw [← hnt] at y2
   rw [← hq1,← hl1] at y5
   rw [← hq1] at HRO
   obtain ⟨Aq,cq⟩:=q1
   obtain ⟨u1,hu1⟩:=jX (uu j)
   rw [← hu1] at y0
   obtain ⟨Au,nu,cu⟩:=u1
   dsimp only at y0
   clear hu1
   have HS1:=jJ hs1
   have HL1:=jJ hl1
   have HNT:=jJ hnt
   dsimp only at y5 HRO
   clear hs1 hq1 hl1 hnt
   go_upto_region 20 with (fail)
   obtain ⟨wV,hwV⟩:=jX (wU.alloc (.cells #[.slice Au nu cu,.int .i64 s1.N,.slice s1.A nt s1.c,.slice none 0 0,.slice none 0 0,.slice Aq l1 cq] 113))
   have KXV:Hid (Blk wV wU.heap.size 113 #[.slice Au nu cu,.int .i64 s1.N,.slice s1.A nt s1.c,.slice none 0 0,.slice none 0 0,.slice Aq l1 cq]):=by subst hwV; exact jJ (Blk.new _ _ _)
   have K3V:Hid (Blk wV b11 74 #[.int .i64 0,.slice none 0 0,.slice none 0 0,.slice none 0 0]):=by subst hwV; exact jJ (K3r.out.alloc _)
   have HAV:Hid (wV.ownsRow wS.heap.size 24 2 (.slice Aa j ca) j (((List.range j).map sp).flatMap Sp.cells)):=by subst hwV; exact jJ (own_same HAA.out fun k hk=>Below.heap_alloc _ _ _ (World.ownsRow.lt HAA.out k hk).2)
   have HOV:Hid (IR wV wS.heap.size Ao co (oldsC T ((List.range j).map bf))):=by subst hwV; exact jJ (IR.alloc HAO.out _)
   have HRV:Hid (IR wV w5.heap.size Aq cq (rootO T (bf j))):=by subst hwV; exact jJ (IR.alloc HRO.out _)
   have HBV:Hid (Below wS.heap.size wS wV):=by subst hwV; exact jJ (bw_alloc HBr.out _)
   have HXG:Hid (wS.heap.size ≤ wU.heap.size):=jJ HBr.out.size
   rw [← hwV]
   obtain ⟨bx,hbx⟩:=jX wU.heap.size
   rw [← hbx] at KXV HXG
   simp only [← hbx]
   clear hwV hbx HAA HAO K3r HBr HRO y0 y1 y2 y3 y4 y5
   have z0:=KXV.out.cell 0
   have z1:=KXV.out.cell 1
   have z2:=KXV.out.cell 2
   have z3:=KXV.out.cell 3
   have z4:=KXV.out.cell 4
   have z5:=KXV.out.cell 5
   simp at z0 z1 z2 z3 z4 z5
   go_upto_region 21 with (at_builtin; go_must (refine wpList_append_sl _ rfl (.tmp 77) (.tmp 81) _ rfl wS.heap.size 24 i1 _ 2 32 Tryz.underlying118 hi1 iz0 iz1 iz2 rfl (by omega) (.slice Aa j ca) j (((List.range j).map sp).flatMap Sp.cells) rfl (own_same HAV.out fun k hk=>Below.heap_alloc _ _ _ (World.ownsRow.lt HAV.out k hk).2) (wV.heap.size + 1) (some ⟨wV.heap.size,0,none⟩) 1 1 [.int .i64 s1.N,.slice s1.A nt s1.c] rfl (reads_newN _ _ _ 1 2 rfl rfl) (by simp [Value.oneCell']) (by simp only [maxLen]; omega) (by omega) (bw_size (bw_alloc HBV.out _)) ?_); intro A5 c5 wW hown5 hg5 hat5)
   have KXW:Hid (Blk wW bx 113 #[.slice Au nu cu,.int .i64 s1.N,.slice s1.A nt s1.c,.slice none 0 0,.slice none 0 0,.slice Aq l1 cq]):=jJ (Blk.grown (KXV.out.alloc _) hg5 fun e=>own_blk_ne HAV.out KXV.out (by decide) e.symm)
   have K3W:Hid (Blk wW b11 74 #[.int .i64 0,.slice none 0 0,.slice none 0 0,.slice none 0 0]):=jJ (Blk.grown (K3V.out.alloc _) hg5 fun e=>own_blk_ne HAV.out K3V.out (by decide) e.symm)
   have HAW:Hid (wW.ownsRow wS.heap.size 24 2 (.slice A5 (j + 1) c5) (j + 1) (((List.range (j + 1)).map sp).flatMap Sp.cells)):=jJ (by
    rw [List.range_succ,List.map_append,List.flatMap_append,List.map_singleton,List.flatMap_singleton,← HS1.out,Sp.cells,← HNT.out]
    exact hown5)
   have HOW:Hid (IR wW wS.heap.size Ao co (oldsC T ((List.range j).map bf))):=jJ (own_grow2 (own_up HOV.out _) hg5 (own_up HAV.out _) (by decide))
   have HRW:Hid (IR wW w5.heap.size Aq cq (rootO T (bf j))):=jJ (own_grow2 (own_up HRV.out _) hg5 (own_up HAV.out _) (by decide))
   have HBW:Hid (Below wS.heap.size wS wW):=jJ (bw_grow (bw_alloc HBV.out _) hg5 fun x hx=>(World.ownsRow.lt HAV.out x hx).1)
   clear hown5 hg5 hat5 KXV K3V HAV HOV HRV HBV z0 z1 z2 z3 z4 z5
   have z0:=KXW.out.cell 0
   have z1:=KXW.out.cell 1
   have z2:=KXW.out.cell 2
   have z3:=KXW.out.cell 3
   have z4:=KXW.out.cell 4
   have z5:=KXW.out.cell 5
   have x0:=K3W.out.cell 0
   have x1:=K3W.out.cell 1
   have x2:=K3W.out.cell 2
   have x3:=K3W.out.cell 3
   have f2:=K3W.out.frozen 2
   have f3:=K3W.out.frozen 3
   have hbn:bx ≠ b11:=KXW.out.ne_ K3W.out (by decide)
   have ap1:=ap_nilP
   have ap2:=ap_nilI
   simp at z0 z1 z2 z3 z4 z5 x0 x1 x2 x3
   go_upto_region 23 with (fail)
   obtain ⟨wX,hwX⟩:=jX ((wW.setCell ⟨b11,2,none⟩ (.slice none 0 0)).setCell ⟨b11,3,none⟩ (.slice none 0 0))
   have hkb:Blk (wW.setCell ⟨b11,2,none⟩ (.slice none 0 0)) b11 74 #[.int .i64 0,.slice none 0 0,.slice none 0 0,.slice none 0 0]:=by simpa using K3W.out.set_ 2 (.slice none 0 0)
   have K3X:Hid (Blk wX b11 74 #[.int .i64 0,.slice none 0 0,.slice none 0 0,.slice none 0 0]):=by subst hwX; exact jJ (by simpa using hkb.set_ 3 (.slice none 0 0))
   have KXX:Hid (Blk wX bx 113 #[.slice Au nu cu,.int .i64 s1.N,.slice s1.A nt s1.c,.slice none 0 0,.slice none 0 0,.slice Aq l1 cq]):=by subst hwX; exact jJ ((KXW.out.far (p:=⟨b11,2,none⟩) hbn _).far (p:=⟨b11,3,none⟩) hbn _)
   have HAX:Hid (wX.ownsRow wS.heap.size 24 2 (.slice A5 (j + 1) c5) (j + 1) (((List.range (j + 1)).map sp).flatMap Sp.cells)):=by subst hwX; exact jJ (own_off (own_off HAW.out K3W.out (by decide) 2 _) hkb (by decide) 3 _)
   have HOX:Hid (wX.ownsRow wS.heap.size 3 1 (.slice Ao no co) no (ZL (oldsC T ((List.range j).map bf)))):=by
    subst hwX
    refine jJ (own_off (own_off ?_ K3W.out (by decide) 2 _) hkb (by decide) 3 _)
    have h:=HOW.out
    unfold IR at h
    rw [← HNO.out] at h
    exact h
   have HRX:Hid (IR wX w5.heap.size Aq cq (rootO T (bf j))):=by subst hwX; exact jJ (own_off (own_off HRW.out K3W.out (by decide) 2 _) hkb (by decide) 3 _)
   have HBX:Hid (Below wS.heap.size wS wX):=by subst hwX; exact jJ (bw_set (bw_set HBW.out (p:=⟨b11,2,none⟩) HN11.out _) (p:=⟨b11,3,none⟩) HN11.out _)
   have HRR:Hid (Reads wX wX.heap.size 1 Aq l1 (ZL (rootO T (bf j)))):=jJ (by rw [HL1.out]; exact IR.reads HRX.out)
   have hl1:l1 ≤ 3000:=by have:=rootO_len (bf j) (HLB2.out j hjK); rw [HL1.out]; omega
   have hno:no ≤ 3000:=by
    have h1:=oldsC_len (T:=T) (l:=(List.range j).map bf) fun x hx=>by
     obtain ⟨y,hy,rfl⟩:=List.mem_map.1 hx
     exact HLB2.out y (by have:=List.mem_range.1 hy; omega)
    rw [List.length_map,List.length_range,Nat.mul_assoc] at h1
    have h2:T.length * j ≤ T.length * K:=Nat.mul_le_mul_left _ (by omega)
    have h3:=HLB.out
    rw [HNO.out]; omega
   rw [← hwX]
   clear hwX hkb KXW K3W HAW HOW HRW HBW z0 z1 z2 z3 z4 z5 x0 x1 x2 x3 f2 f3 ap1 ap2
   have z5:=KXX.out.cell 5
   simp at z5
   go_wp2_with (at_builtin; go_must (refine wpList_append_sl _ rfl (.tmp 97) (.tmp 99) _ rfl wS.heap.size 3 i2 _ 1 8 Tryz.underlying30 hi2 jz0 jz1 jz2 rfl (by omega) (.slice Ao no co) no (ZL (oldsC T ((List.range j).map bf))) rfl HOX.out wX.heap.size Aq l1 cq (ZL (rootO T (bf j))) rfl HRR.out (fun u hu=>by obtain ⟨y,_,rfl⟩:=List.mem_map.1 hu; rfl) (by simp only [maxLen]; omega) (by omega) HBX.out.size ?_); intro A6 c6 wY hown6 hg6 hat6)
   have K3Y:Hid (Blk wY b11 74 #[.int .i64 0,.slice none 0 0,.slice none 0 0,.slice none 0 0]):=jJ (Blk.grown K3X.out hg6 fun e=>own_blk_ne HOX.out K3X.out (by decide) e.symm)
   have HAY:Hid (wY.ownsRow wS.heap.size 24 2 (.slice A5 (j + 1) c5) (j + 1) (((List.range (j + 1)).map sp).flatMap Sp.cells)):=jJ (own_grow2 HAX.out hg6 HOX.out (by decide))
   have HNY:Hid (no + l1=(oldsC T ((List.range (j + 1)).map bf)).length):=jJ (by rw [List.range_succ,List.map_append,List.map_singleton,oldsC_snoc,List.length_append,← HNO.out,← HL1.out])
   have HOY:Hid (IR wY wS.heap.size A6 c6 (oldsC T ((List.range (j + 1)).map bf))):=jJ (by
    unfold IR
    rw [← HNY.out,List.range_succ,List.map_append,List.map_singleton,oldsC_snoc]
    unfold ZL at hown6 ⊢
    rw [List.map_append]
    exact hown6)
   have HBY:Hid (Below wS.heap.size wS wY):=jJ (bw_grow HBX.out hg6 fun x hx=>(World.ownsRow.lt HOX.out x hx).1)
   clear hown6 hg6 hat6 HAX HOX HRX HBX HRR K3X KXX z5
   go_roundw
   case rel=>exact ⟨j + 1,no + l1,A5,A6,c5,c6,by omega,rfl,rfl,by go_num,HNY,HAY,HOY,K3Y,HBY⟩
   case measure=>simp [intOf]; omega
 obtain rfl:j=K:=by omega
 have HJ:Hid (joinL ((List.range j).map sp)=(((oldsC T (putL T p)).length:Int),joinC T (putL T p) 0,0)):=jJ (by rw [HPL.out]; exact joinL_root (surf_chk47 HS.out) hn HLB2.out HLB.out HOS.out.sps)
 have HJC:Hid (Calls Tryz.prog 54 #[.slice Aa j ca] wU (PickPost wU (joinL ((List.range j).map sp)))):=jJ (by
  refine join_any Aa j ca _ wU (by omega) (fun s hs=>?_) (joinS_short HLB2.out HLB.out HOS.out.sps) ⟨Reads.of_own HAA.out,fun s hs=>?_⟩
  · obtain ⟨y,hy,rfl⟩:=List.mem_map.1 hs
    rw [(HOS.out.sps y (List.mem_range.1 hy)).2,rootT_len]
    exact Nat.le_trans (rootC_fi (HLB2.out y (List.mem_range.1 hy))).short hn
  obtain ⟨y,hy,rfl⟩:=List.mem_map.1 hs
  exact LRow.tris ((HOS.out.l y (List.mem_range.1 hy)).below HBr.out))
 rw [HJ.out] at HJC
 have K2r:Hid (Blk wU b2 74 #[.int .i64 0,.slice none 0 0,.slice none 0 0,.slice none 0 0]):=jJ (K2S.out.below HBr.out K2S.out.lt)
 have HK2L:Hid (b2 < wS.heap.size):=jJ K2S.out.lt
 clear HAA K2S
 go_wp2_with fail
 refine HJC.out.mono ?_
 rintro e wZ ⟨AJ,cJ,rfl,hlJ,hbJ⟩
 have hnp:no=(oldsC T (putL T p)).length:=by rw [HNO.out,HPL.out]
 obtain ⟨nN,hnN⟩:=jX ((oldsC T (putL T p)).length)
 obtain ⟨nJ,hnJ⟩:=jX ((joinC T (putL T p) 0).length)
 dsimp only
 rw [← hnN,← hnJ]
 have HNN:=jJ hnN
 have HNJ:=jJ hnJ
 have HNP:=jJ hnp
 have K3Z:Hid (Blk wZ b11 74 #[.int .i64 0,.slice none 0 0,.slice none 0 0,.slice none 0 0]):=jJ (K3r.out.below hbJ K3r.out.lt)
 have K2Z:Hid (Blk wZ b2 74 #[.int .i64 0,.slice none 0 0,.slice none 0 0,.slice none 0 0]):=jJ (K2r.out.below hbJ K2r.out.lt)
 have HLZ:Hid (LRow wZ w.heap.size AJ cJ (joinC T (putL T p) 0)):=jJ (LRow.base hlJ (Nat.le_trans HBS.out.size HBr.out.size))
 have HOZ:Hid (IR wZ w.heap.size Ao co (oldsC T (putL T p))):=jJ (own_low (B:=w.heap.size) (by rw [HPL.out]; exact HAO.out.below hbJ) HBS.out.size)
 have HBZ:Hid (Below w.heap.size w wZ):=jJ (HBS.out.trans ((HBr.out.trans (hbJ.mono HBr.out.size)).mono HBS.out.size))
 have hb2:b2 ≠ b11:=by
  have h1:=HN11.out
  have h2:=HK2L.out
  omega
 clear hlJ hbJ hnN hnJ hnp HNO HAO K3r K2r HBr HJC
 have x0:=K3Z.out.cell 0
 have x1:=K3Z.out.cell 1
 have x2:=K3Z.out.cell 2
 have x3:=K3Z.out.cell 3
 have f0:=K3Z.out.frozen 0
 have f1:=K3Z.out.frozen 1
 have v0:=K2Z.out.cell 0
 have v1:=K2Z.out.cell 1
 have v2:=K2Z.out.cell 2
 have v3:=K2Z.out.cell 3
 have g0:=K2Z.out.frozen 0
 have g1:=K2Z.out.frozen 1
 have g2:=K2Z.out.frozen 2
 have g3:=K2Z.out.frozen 3
 simp at x0 x1 x2 x3 v0 v1 v2 v3
 go_wp2_with fail
 obtain ⟨wf,hwf⟩:=jX (((((((wZ.setCell ⟨b11,0,none⟩ (.int .i64 (nN:Int))).setCell ⟨b11,1,none⟩ (.slice AJ nJ cJ)).setCell ⟨b2,0,none⟩ (.int .i64 (nN:Int))).setCell ⟨b2,1,none⟩ (.slice AJ nJ cJ)).setCell ⟨b2,2,none⟩ (.slice none 0 0)).setCell ⟨b2,3,none⟩ (.slice none 0 0)))
 have K2a:Blk ((wZ.setCell ⟨b11,0,none⟩ (.int .i64 (nN:Int))).setCell ⟨b11,1,none⟩ (.slice AJ nJ cJ)) b2 74 #[.int .i64 0,.slice none 0 0,.slice none 0 0,.slice none 0 0]:=(K2Z.out.far (p:=⟨b11,0,none⟩) hb2 _).far (p:=⟨b11,1,none⟩) hb2 _
 have K2f:Hid (Blk wf b2 74 #[.int .i64 (nN:Int),.slice AJ nJ cJ,.slice none 0 0,.slice none 0 0]):=by subst hwf; exact jJ (by simpa using (((K2a.set_ 0 (.int .i64 (nN:Int))).set_ 1 (.slice AJ nJ cJ)).set_ 2 (.slice none 0 0)).set_ 3 (.slice none 0 0))
 have keep:∀ (el:TypeId) (s n:Nat) (z:Value) (xs:List Value),el ≠ 74 → wZ.ownsRow w.heap.size el s z n xs → wf.ownsRow w.heap.size el s z n xs:=fun el s n z xs hne ho=>by
  subst hwf
  refine own_same ho fun q hq=>?_
  have h1:q ≠ b11:=fun e=>own_blk_ne ho K3Z.out hne (e ▸ hq)
  have h2:q ≠ b2:=fun e=>own_blk_ne ho K2Z.out hne (e ▸ hq)
  rw [Below.heap_setCell _ ⟨b2,3,none⟩ _ q h2,Below.heap_setCell _ ⟨b2,2,none⟩ _ q h2,Below.heap_setCell _ ⟨b2,1,none⟩ _ q h2,Below.heap_setCell _ ⟨b2,0,none⟩ _ q h2,Below.heap_setCell _ ⟨b11,1,none⟩ _ q h1,Below.heap_setCell _ ⟨b11,0,none⟩ _ q h1]
 have hg2:w.heap.size ≤ b2:=HG.out.2.1
 have hg11:w.heap.size ≤ b11:=Nat.le_trans HBS.out.size HN11.out
 have HBf:Below w.heap.size w wf:=by
  subst hwf
  exact bw_set (bw_set (bw_set (bw_set (bw_set (bw_set HBZ.out (p:=⟨b11,0,none⟩) hg11 _) (p:=⟨b11,1,none⟩) hg11 _) (p:=⟨b2,0,none⟩) hg2 _) (p:=⟨b2,1,none⟩) hg2 _) (p:=⟨b2,2,none⟩) hg2 _) (p:=⟨b2,3,none⟩) hg2 _
 have HLf:LRow wf w.heap.size AJ cJ (joinC T (putL T p) 0):=keep _ _ _ _ _ (by decide) HLZ.out
 have HOf:IR wf w.heap.size Ao co (oldsC T (putL T p)):=keep _ _ _ _ _ (by decide) HOZ.out
 have w0:=K2f.out.cell 0
 have w1':=K2f.out.cell 1
 have w2':=K2f.out.cell 2
 have w3':=K2f.out.cell 3
 simp at w0 w1' w2' w3'
 rw [← hwf]
 refine bodyPost_ret (v:=.tuple #[.agg #[.int .i64 (nN:Int),.slice AJ nJ cJ,.slice none 0 0,.slice none 0 0],.slice Ao no co]) ?_ rfl ⟨p,AJ,Ao,cJ,co,HPT.out,by rw [HNN.out,HNJ.out,HNP.out],HLf,HOf,HBf⟩
 simp [results,Tryz.results28,go_sem,w0,w1',w2',w3']
end
section
def FormYes (w:World) (T:List Tri) (e:Ending) (w':World):Prop :=
 ∃ (p:List Nat) (At Ao:Option Addr) (ct co:Nat),Put T p ∧ e=.returned (.tuple #[.agg #[.int .i64 ((oldsC T (putL T p)).length:Int),.slice At (joinC T (putL T p) 0).length ct],.slice Ao (oldsC T (putL T p)).length co,.int .i64 0]) ∧
  LRow w' w.heap.size At ct (joinC T (putL T p) 0) ∧ IR w' w.heap.size Ao co (oldsC T (putL T p)) ∧ Below w.heap.size w w'
def FormNo (w:World) (e:Ending) (w':World):Prop:=e=.returned (.tuple #[.agg #[.int .i64 0,.slice none 0 0],.slice none 0 0,.int .i64 11]) ∧ Below w.heap.size w w'
attribute [local irreducible] Blk World.alloc World.setCell World.cell? World.frozen? MapV MapI
theorem formYes_any (m:Nat) (A:Option Addr) (c:Nat) (T:List Tri) (w:World) (hs:checkR (m:Int) T=(0,0,0)) (hn:T.length ≤ 1000) (hk:kN T < 20) (hb:T.length * kN T ≤ 1000) (ht:TrisAt w w.heap.size A T.length T) :
  Calls Tryz.prog 13 #[.agg #[.int .i64 (m:Int),.slice A T.length c]] w (FormYes w T):=by
 have HT:=jJ ht
 have HS:=jJ hs
 have HK:=jJ hk
 have HLB:=jJ hb
 clear ht hs hk hb
 go_enter Tryz.func13,Tryz.ntmps13
 go_upto_region 1 with (fail)
 obtain ⟨wA,hwA⟩:=jX ((w.alloc (.cells #[.int .i64 (m:Int),.slice A T.length c] 24)).alloc (.cells #[.int .i64 0,.slice none 0 0] 24))
 have K1A:Hid (Blk wA w.heap.size 24 #[.int .i64 (m:Int),.slice A T.length c]):=by subst hwA; exact jJ ((Blk.new _ _ _).alloc _)
 have K2A:Hid (Blk wA (w.heap.size + 1) 24 #[.int .i64 0,.slice none 0 0]):=by subst hwA; exact jJ (Blk.new_ (by rw [World.size_alloc]) _ _)
 have HBA:Hid (Below w.heap.size w wA):=by subst hwA; exact jJ (bw_alloc (bw_alloc (Below.refl _ _) _) _)
 rw [← hwA]
 obtain ⟨b2,hb2⟩:=jX (w.heap.size + 1)
 obtain ⟨b1,hb1⟩:=jX w.heap.size
 have HG:Hid (w.heap.size ≤ b1 ∧ w.heap.size ≤ b2 ∧ b1 ≠ b2):=jJ (by omega)
 rw [← hb2] at K2A
 rw [← hb1] at K1A
 simp only [← hb2]
 simp only [← hb1]
 have HIS:=jJ (is_any (m:Int) A T.length c T wA hn (tris_on HBA.out HT.out))
 have p0:wA.cell? ⟨b1,0,none⟩=some (.int .i64 (m:Int)):=K1A.out.cell 0
 have p1:wA.cell? ⟨b1,1,none⟩=some (.slice A T.length c):=K1A.out.cell 1
 clear hwA hb1 hb2
 go_wp2_with fail
 refine HIS.out.mono ?_
 rintro e w1 ⟨rfl,hb⟩
 have K11:=jJ (K1A.out.below hb K1A.out.lt)
 have K21:=jJ (K2A.out.below hb K2A.out.lt)
 have HB1:=jJ (bw_call HBA.out hb)
 clear hb HIS K1A K2A p0 p1
 rw [decide_eq_true HS.out]
 have p0:w1.cell? ⟨b1,0,none⟩=some (.int .i64 (m:Int)):=K11.out.cell 0
 have p1:w1.cell? ⟨b1,1,none⟩=some (.slice A T.length c):=K11.out.cell 1
 have HFO:=jJ (form_any m A c T w1 HS.out hn HK.out HLB.out (tris_on HB1.out HT.out))
 go_wp2_with fail
 refine HFO.out.mono ?_
 rintro e w2 ⟨p,At,Ao,ct,co,hp,rfl,hl,ho,hb⟩
 have K22:=jJ (K21.out.below hb K21.out.lt)
 have HL2:=jJ (LRow.base hl HB1.out.size)
 have HO2:=jJ (own_low (B:=w.heap.size) ho HB1.out.size)
 have HB2:=jJ (bw_call HB1.out hb)
 have HP:=jJ hp
 obtain ⟨nN,hnN⟩:=jX ((oldsC T (putL T p)).length)
 obtain ⟨nJ,hnJ⟩:=jX ((joinC T (putL T p) 0).length)
 rw [← hnN,← hnJ]
 have HNN:=jJ hnN
 have HNJ:=jJ hnJ
 clear hl ho hb hp HFO K11 K21 HB1 HBA p0 p1 hnN hnJ
 go_upto_region 4 with (fail)
 obtain ⟨w3,hw3⟩:=jX (w2.alloc (.cells #[.int .i64 (nN:Int),.slice At nJ ct,.slice none 0 0,.slice none 0 0] 74))
 have K53:Hid (Blk w3 w2.heap.size 74 #[.int .i64 (nN:Int),.slice At nJ ct,.slice none 0 0,.slice none 0 0]):=by subst hw3; exact jJ (Blk.new _ _ _)
 have K23:Hid (Blk w3 b2 24 #[.int .i64 0,.slice none 0 0]):=by subst hw3; exact jJ (K22.out.alloc _)
 have HL3:Hid (LRow w3 w.heap.size At ct (joinC T (putL T p) 0)):=by subst hw3; exact jJ (LRow.alloc HL2.out _)
 have HO3:Hid (IR w3 w.heap.size Ao co (oldsC T (putL T p))):=by subst hw3; exact jJ (IR.alloc HO2.out _)
 have HB3:Hid (Below w.heap.size w w3):=by subst hw3; exact jJ (bw_alloc HB2.out _)
 rw [← hw3]
 obtain ⟨b5,hb5⟩:=jX w2.heap.size
 rw [← hb5] at K53
 simp only [← hb5]
 clear hw3 hb5 K22 HL2 HO2 HB2
 have x0:w3.cell? ⟨b5,0,none⟩=some (.int .i64 (nN:Int)):=K53.out.cell 0
 have x1:w3.cell? ⟨b5,1,none⟩=some (.slice At nJ ct):=K53.out.cell 1
 have y0:w3.cell? ⟨b2,0,none⟩=some (.int .i64 0):=K23.out.cell 0
 have y1:w3.cell? ⟨b2,1,none⟩=some (.slice none 0 0):=K23.out.cell 1
 have f0:=K23.out.frozen 0
 have f1:=K23.out.frozen 1
 go_wp2_with fail
 obtain ⟨r0,r1,_,_,_⟩:=soup_facts (soup_set K23.out (.int .i64 (nN:Int)) (.slice At nJ ct))
 refine bodyPost_ret (v:=.tuple #[.agg #[.int .i64 (nN:Int),.slice At nJ ct],.slice Ao nN co,.int .i64 0]) ?_ rfl ⟨p,At,Ao,ct,co,HP.out,by rw [HNN.out,HNJ.out],own_off (own_off HL3.out K23.out (by decide) 0 _) (by simpa using K23.out.set_ 0 (.int .i64 (nN:Int))) (by decide) 1 _,own_off (own_off HO3.out K23.out (by decide) 0 _) (by simpa using K23.out.set_ 0 (.int .i64 (nN:Int))) (by decide) 1 _,bw_set (bw_set HB3.out (p:=⟨b2,0,none⟩) HG.out.2.1 _) (p:=⟨b2,1,none⟩) HG.out.2.1 _⟩
 simp [results,Tryz.results13,go_sem,r0,r1]
theorem formNo_any (N:Int) (A:Option Addr) (c:Nat) (T:List Tri) (w:World) (hs:checkR N T ≠ (0,0,0)) (hn:T.length ≤ 1000) (ht:TrisAt w w.heap.size A T.length T) :
  Calls Tryz.prog 13 #[.agg #[.int .i64 N,.slice A T.length c]] w (FormNo w):=by
 have HT:=jJ ht
 have HS:=jJ hs
 clear ht hs
 go_enter Tryz.func13,Tryz.ntmps13
 go_upto_region 1 with (fail)
 obtain ⟨wA,hwA⟩:=jX ((w.alloc (.cells #[.int .i64 N,.slice A T.length c] 24)).alloc (.cells #[.int .i64 0,.slice none 0 0] 24))
 have K1A:Hid (Blk wA w.heap.size 24 #[.int .i64 N,.slice A T.length c]):=by subst hwA; exact jJ ((Blk.new _ _ _).alloc _)
 have K2A:Hid (Blk wA (w.heap.size + 1) 24 #[.int .i64 0,.slice none 0 0]):=by subst hwA; exact jJ (Blk.new_ (by rw [World.size_alloc]) _ _)
 have HBA:Hid (Below w.heap.size w wA):=by subst hwA; exact jJ (bw_alloc (bw_alloc (Below.refl _ _) _) _)
 rw [← hwA]
 obtain ⟨b2,hb2⟩:=jX (w.heap.size + 1)
 obtain ⟨b1,hb1⟩:=jX w.heap.size
 have HG:Hid (w.heap.size ≤ b1 ∧ w.heap.size ≤ b2 ∧ b1 ≠ b2):=jJ (by omega)
 rw [← hb2] at K2A
 rw [← hb1] at K1A
 simp only [← hb2]
 simp only [← hb1]
 have HIS:=jJ (is_any N A T.length c T wA hn (tris_on HBA.out HT.out))
 have p0:wA.cell? ⟨b1,0,none⟩=some (.int .i64 N):=K1A.out.cell 0
 have p1:wA.cell? ⟨b1,1,none⟩=some (.slice A T.length c):=K1A.out.cell 1
 clear hwA hb1 hb2
 go_wp2_with fail
 refine HIS.out.mono ?_
 rintro e w1 ⟨rfl,hb⟩
 have K11:=jJ (K1A.out.below hb K1A.out.lt)
 have K21:=jJ (K2A.out.below hb K2A.out.lt)
 have HB1:=jJ (bw_call HBA.out hb)
 clear hb HIS K1A K2A p0 p1
 rw [decide_eq_false HS.out]
 have y0:w1.cell? ⟨b2,0,none⟩=some (.int .i64 0):=K21.out.cell 0
 have y1:w1.cell? ⟨b2,1,none⟩=some (.slice none 0 0):=K21.out.cell 1
 have f0:=K21.out.frozen 0
 have f1:=K21.out.frozen 1
 go_wp2_with fail
 obtain ⟨r0,r1,_,_,_⟩:=soup_facts (soup_set K21.out (.int .i64 0) (.slice none 0 0))
 refine bodyPost_ret (v:=.tuple #[.agg #[.int .i64 0,.slice none 0 0],.slice none 0 0,.int .i64 11]) ?_ rfl ⟨rfl,bw_set (bw_set HB1.out (p:=⟨b2,0,none⟩) HG.out.2.1 _) (p:=⟨b2,1,none⟩) HG.out.2.1 _⟩
 simp [results,Tryz.results13,go_sem,r0,r1]
end
section
theorem joinC_len {T:List Tri}:∀ (l:List Nat) (n:Int),(∀ c ∈ l,c < 3 * T.length) → (joinC T l n).length ≤ T.length * l.length
 | [],_,_=>by simp [joinC]
 | c :: l,n,h=>by
  have h1:=joinC_len l (n + (rootO T c).length) fun x hx=>h x (List.mem_cons_of_mem _ hx)
  have h2:=(rootC_fi (h c List.mem_cons_self)).short
  rw [joinC,List.length_append,List.length_map,rootT_len,List.length_cons,Nat.mul_succ]
  omega
theorem put_mem {T:List Tri} {p:List Nat} (h:Put T p):(putL T p).length=kN T ∧ ∀ c ∈ putL T p,c < 3 * T.length:=by
 rw [put_list h]
 refine ⟨by simp,fun c hc=>?_⟩
 obtain ⟨j,hj,rfl⟩:=List.mem_map.1 hc
 exact put_lt h (List.mem_range.1 hj)
structure FormI (N:Int) (T:List Tri) (M:Int) (L:List Tri) (er:Int):Prop where
 yes:checkR N T=(0,0,0) → er=0 ∧ ∃ p,Put T p ∧ M=((oldsC T (putL T p)).length:Int) ∧ L=joinC T (putL T p) 0
 no:checkR N T ≠ (0,0,0) → er=11 ∧ M=0 ∧ L=[]
def FormAny (w:World) (N:Int) (T:List Tri) (e:Ending) (w':World):Prop :=
 ∃ (M:Int) (L:List Tri) (At Ao:Option Addr) (ct no co:Nat) (er:Int),e=.returned (.tuple #[.agg #[.int .i64 M,.slice At L.length ct],.slice Ao no co,.int .i64 er]) ∧ LRow w' w.heap.size At ct L ∧ L.length ≤ 1000 ∧ Below w.heap.size w w' ∧ FormI N T M L er
theorem formAny_any (N:Int) (A:Option Addr) (c:Nat) (T:List Tri) (w:World) (hn:T.length ≤ 1000) (hk:kN T < 20) (hb:T.length * kN T ≤ 1000) (ht:TrisAt w w.heap.size A T.length T) :
  Calls Tryz.prog 13 #[.agg #[.int .i64 N,.slice A T.length c]] w (FormAny w N T):=by
 by_cases h:checkR N T=(0,0,0)
 · obtain ⟨m,hm⟩:=surf_of (checkR_zero (by rw [h])).1
   obtain rfl:=hm.1
   refine (formYes_any m A c T w h hn hk hb ht).mono ?_
   rintro e w' ⟨p,At,Ao,ct,co,hp,rfl,hl,ho,hb'⟩
   refine ⟨_,_,At,Ao,ct,_,co,0,rfl,hl,?_,hb',⟨fun _=>⟨rfl,p,hp,rfl,rfl⟩,fun hne=>absurd h hne⟩⟩
   have h1:=put_mem hp
   have h2:=joinC_len (T:=T) (putL T p) 0 h1.2
   rw [h1.1] at h2
   omega
 refine (formNo_any N A c T w h hn ht).mono ?_
 rintro e w' ⟨rfl,hb'⟩
 exact ⟨0,[],none,none,0,0,0,11,rfl,LRow.nil _ _,by simp,hb',⟨fun h'=>absurd h' h,fun _=>⟨rfl,rfl,rfl⟩⟩⟩
end
section
theorem ints_info47:(Tryz.prog.info? 30).map (fun i=>(i.zero,i.size,i.bytes))=some (some (.slice none 0 0),1,24):=by kernel_rfl
def KindPost (w:World) (T:List Tri) (V:List Int) (e:Ending) (w':World):Prop :=
 ∃ (p:List Nat) (At Aw:Option Addr) (ct cw:Nat),Put T p ∧ e=.returned (.agg #[.int .i64 ((oldsC T (putL T p)).length:Int),.slice At (joinC T (putL T p) 0).length ct,.slice Aw (waysTo T V (oldsC T (putL T p)).length (joinC T (putL T p) 0) (3 * T.length)).length cw]) ∧
  LRow w' w.heap.size At ct (joinC T (putL T p) 0) ∧ WaysAt w' w.heap.size Aw cw (waysTo T V (oldsC T (putL T p)).length (joinC T (putL T p) 0) (3 * T.length)) ∧ Below w.heap.size w w'
attribute [local irreducible] Blk World.alloc World.setCell World.cell? World.frozen? MapV MapI
theorem kindOf_any (m:Nat) (A Av Al:Option Addr) (c cv nl cl:Nat) (T:List Tri) (V:List Int) (w:World) (hs:checkR (m:Int) T=(0,0,0)) (hn:T.length ≤ 1000) (hk:kN T < 20) (hb:T.length * kN T ≤ 1000) (ht:TrisAt w w.heap.size A T.length T)
  (hm:V.length=m) (hv:Reads w w.heap.size 1 Av V.length (ZL V)) :
  Calls Tryz.prog 39 #[.agg #[.int .i64 (m:Int),.slice A T.length c,.slice Av V.length cv,.slice Al nl cl]] w (KindPost w T V):=by
 have HT:=jJ ht
 have HS:=jJ hs
 have HK:=jJ hk
 have HLB:=jJ hb
 have HV:=jJ hv
 have HVM:=jJ hm
 obtain ⟨nv,hnv⟩:=jX V.length
 rw [← hnv]
 have HNV:=jJ hnv
 clear ht hs hk hb hv hm hnv
 obtain ⟨i0,hi0,hz0,hz1,hz2⟩:=info_parts int_infoC
 obtain ⟨i3,hi3,jz0,jz1,jz2⟩:=info_parts ints_info47
 go_enter Tryz.func39,Tryz.ntmps39
 go_upto_region 1 with (fail)
 obtain ⟨wA,hwA⟩:=jX ((w.alloc (.cells #[.int .i64 (m:Int),.slice A T.length c,.slice Av nv cv,.slice Al nl cl] 94)).alloc (.cells #[.int .i64 0,.slice none 0 0,.slice none 0 0] 97))
 have K1A:Hid (Blk wA w.heap.size 94 #[.int .i64 (m:Int),.slice A T.length c,.slice Av nv cv,.slice Al nl cl]):=by subst hwA; exact jJ ((Blk.new _ _ _).alloc _)
 have K2A:Hid (Blk wA (w.heap.size + 1) 97 #[.int .i64 0,.slice none 0 0,.slice none 0 0]):=by subst hwA; exact jJ (Blk.new_ (by rw [World.size_alloc]) _ _)
 have HBA:Hid (Below w.heap.size w wA):=by subst hwA; exact jJ (bw_alloc (bw_alloc (Below.refl _ _) _) _)
 rw [← hwA]
 obtain ⟨b2,hb2⟩:=jX (w.heap.size + 1)
 obtain ⟨b1,hb1⟩:=jX w.heap.size
 have HG:Hid (w.heap.size ≤ b1 ∧ w.heap.size ≤ b2 ∧ b1 ≠ b2):=jJ (by omega)
 rw [← hb2] at K2A
 rw [← hb1] at K1A
 simp only [← hb2]
 simp only [← hb1]
 have HNE:=jJ (new_any (m:Int) A T.length c T wA hn (tris_on HBA.out HT.out))
 have p0:wA.cell? ⟨b1,0,none⟩=some (.int .i64 (m:Int)):=K1A.out.cell 0
 have p1:wA.cell? ⟨b1,1,none⟩=some (.slice A T.length c):=K1A.out.cell 1
 clear hwA hb1 hb2
 go_wp2_with fail
 refine HNE.out.mono ?_
 rintro e w1 hpost
 rcases hpost with ⟨_,g,rfl,htab,hb⟩ | ⟨hne,_⟩
 case inr=>exact absurd HS.out hne
 rw [show wv (0,0,0)=.agg #[.int .i64 0,.int .i64 0,.int .i64 0] from rfl]
 have HTN:Hid (TabN w1 g m T):=jJ ⟨htab.base (Nat.zero_le _),surf_chk47 HS.out,hn⟩
 have K11:=jJ (K1A.out.below hb K1A.out.lt)
 have K21:=jJ (K2A.out.below hb K2A.out.lt)
 have HB1:=jJ (bw_call HBA.out hb)
 clear htab hb HNE K1A K2A HBA p0 p1
 go_upto_region 2 with (fail)
 obtain ⟨w2,hw2⟩:=jX (w1.alloc (.cells #[.int .i64 0,.int .i64 0,.int .i64 0] 39))
 have HT2:Hid (TabN w2 g m T):=by subst hw2; exact jJ (HTN.out.alloc _)
 have K12:Hid (Blk w2 b1 94 #[.int .i64 (m:Int),.slice A T.length c,.slice Av nv cv,.slice Al nl cl]):=by subst hw2; exact jJ (K11.out.alloc _)
 have K22:Hid (Blk w2 b2 97 #[.int .i64 0,.slice none 0 0,.slice none 0 0]):=by subst hw2; exact jJ (K21.out.alloc _)
 have HB2:Hid (Below w.heap.size w w2):=by subst hw2; exact jJ (bw_alloc HB1.out _)
 rw [← hw2]
 have HFO:=jJ (formYes_any m A c T w2 HS.out hn HK.out HLB.out (tris_on HB2.out HT.out))
 have p0:w2.cell? ⟨b1,0,none⟩=some (.int .i64 (m:Int)):=K12.out.cell 0
 have p1:w2.cell? ⟨b1,1,none⟩=some (.slice A T.length c):=K12.out.cell 1
 clear hw2 HTN K11 K21 HB1
 go_wp2_with fail
 refine HFO.out.mono ?_
 rintro e w3 ⟨p,At,Ao,ct,co,hp,rfl,hl,_,hb⟩
 have HT3:=jJ (HT2.out.below hb)
 have K13:=jJ (K12.out.below hb K12.out.lt)
 have K23:=jJ (K22.out.below hb K22.out.lt)
 have HL3:=jJ (LRow.base hl HB2.out.size)
 have HB3:=jJ (bw_call HB2.out hb)
 have HP:=jJ hp
 obtain ⟨nN,hnN⟩:=jX ((oldsC T (putL T p)).length)
 obtain ⟨LJ,hLJ⟩:=jX (joinC T (putL T p) 0)
 obtain ⟨nJ,hnJ⟩:=jX LJ.length
 rw [← hLJ] at HL3
 rw [← hnN,← hLJ,← hnJ]
 have hnJ2:nJ ≤ 1000:=by
  have h1:=put_mem hp
  have h2:=joinC_len (T:=T) (putL T p) 0 h1.2
  rw [h1.1] at h2
  have:=HLB.out
  rw [hnJ,hLJ]; omega
 have HNN:=jJ hnN
 have HLJ:=jJ hLJ
 have HNJ:=jJ hnJ
 clear hl hb hp HFO HT2 K12 K22 HB2 p0 p1 hnN hLJ hnJ
 go_upto_region 4 with (fail)
 obtain ⟨w4,hw4⟩:=jX ((w3.alloc (.cells #[.int .i64 (nN:Int),.slice At nJ ct] 24)).alloc (.cells #[.int .i64 (nN:Int),.slice At nJ ct,.slice none 0 0] 97))
 have HT4:Hid (TabN w4 g m T):=by subst hw4; exact jJ ((HT3.out.alloc _).alloc _)
 have K14:Hid (Blk w4 b1 94 #[.int .i64 (m:Int),.slice A T.length c,.slice Av nv cv,.slice Al nl cl]):=by subst hw4; exact jJ ((K13.out.alloc _).alloc _)
 have K24:Hid (Blk w4 b2 97 #[.int .i64 0,.slice none 0 0,.slice none 0 0]):=by subst hw4; exact jJ ((K23.out.alloc _).alloc _)
 have K54:Hid (Blk w4 w3.heap.size 24 #[.int .i64 (nN:Int),.slice At nJ ct]):=by subst hw4; exact jJ ((Blk.new _ _ _).alloc _)
 have K84:Hid (Blk w4 (w3.heap.size + 1) 97 #[.int .i64 (nN:Int),.slice At nJ ct,.slice none 0 0]):=by subst hw4; exact jJ (Blk.new_ (by rw [World.size_alloc]) _ _)
 have HL4:Hid (LRow w4 w.heap.size At ct LJ):=by subst hw4; exact jJ (LRow.alloc (LRow.alloc HL3.out _) _)
 have HB4:Hid (Below w.heap.size w w4):=by subst hw4; exact jJ (bw_alloc (bw_alloc HB3.out _) _)
 have HG8:Hid (w.heap.size ≤ w3.heap.size):=jJ HB3.out.size
 have HT38:Hid (Below w3.heap.size w3 w4):=by subst hw4; exact jJ (bw_alloc (bw_alloc (Below.refl _ _) _) _)
 rw [← hw4]
 obtain ⟨b8,hb8⟩:=jX (w3.heap.size + 1)
 obtain ⟨b5,hb5⟩:=jX w3.heap.size
 have HGB8:Hid (w.heap.size ≤ b8):=jJ (by have:=HG8.out; omega)
 have HG38:Hid (w3.heap.size ≤ b8):=jJ (by omega)
 rw [← hb8] at K84
 rw [← hb5] at K54
 simp only [← hb8]
 simp only [← hb5]
 have HBL2:Hid (b2 < w3.heap.size):=jJ K23.out.lt
 clear hw4 hb8 hb5 K13 K23 HL3 HB3
 have HTR:Hid (Calls Tryz.prog 31 #[.pointer (some ⟨g,0,none⟩)] w4 (IsPost w4 (.int .i64 T.length))):=jJ (tris_any g 0 m T w4 HT4.out.t.s)
 have u3:IntKind.i64.wrap (3 * (T.length:Int))=3 * (T.length:Int):=by rw [IntKind.wrap_i64]; omega
 have HWS:Hid (WaysAt w4 w4.heap.size none 0 (waysTo T V nN LJ 0)):=jJ (WaysAt.nil _ _)
 have HK84:=K84
 have HN28:Hid (b2 ≠ b8):=jJ (by have:=HBL2.out; have:=HG38.out; omega)
 have HN1:Hid (b1 ≠ b8):=jJ (K14.out.ne_ K84.out (by decide))
 have HN5:Hid (b5 ≠ b8):=jJ (K54.out.ne_ K84.out (by decide))
 have HW4:Hid (w.heap.size ≤ w4.heap.size):=jJ HB4.out.size
 have HSV:Hid (Reads w4 w4.heap.size 1 Av nv (ZL V)):=jJ (by rw [HNV.out]; exact (HV.out.below HB4.out).more HB4.out.size)
 have HW0:Hid (V.length=m):=HVM
 go_wp2_with fail
 refine HTR.out.mono ?_
 rintro e w4' ⟨rfl,hw⟩
 replace hw:=hw.symm
 subst hw
 clear HTR
 go_wp2_with fail
 go_loopw [9,10,11,13,14,15,34] (fun _ _ _ _ _ _ kv wr=>∃ (q nw cw:Nat) (Aw:Option Addr),q ≤ 3 * T.length ∧ kv=.int .i64 (q:Int) ∧ Hid (nw=(waysTo T V nN LJ q).length) ∧ Hid (Blk wr b8 97 #[.int .i64 (nN:Int),.slice At nJ ct,.slice Aw nw cw]) ∧ Hid (WaysAt wr w4.heap.size Aw cw (waysTo T V nN LJ q)) ∧ Hid (Only (fun i=>i=b8) w4 wr)) (fun _ _ _ _ _ _ kv _=>3 * T.length - (intOf kv).toNat)
 case atStart=>exact ⟨0,0,0,none,by omega,rfl,jJ rfl,K84,HWS,jJ (Only.refl _ _)⟩
 clear HWS K84
 obtain ⟨q,nw,cw,Aw,hq,rfl,HNW,K8r,HWr,HOr⟩:=hrel
 obtain ⟨wE,hwE⟩:=jX (wr:World)
 rw [← hwE] at K8r HWr HOr ⊢
 clear hwE
 by_cases hql:q < 3 * T.length
 · have hqi:(q:Int) < 3 * (T.length:Int):=by omega
   have HRO:=jJ (rooted_any g m T q wE hql (tab_only HT3.out HT38.out HOr.out HG38.out))
   go_wp2_with fail
   refine HRO.out.mono ?_
   rintro e wF ⟨Ar,Ao2,Ac,cr,co2,cc,rfl,hl,ho,_,hb⟩
   obtain ⟨R,hR⟩:=jX (rootT T q)
   obtain ⟨O,hO⟩:=jX (rootO T q)
   obtain ⟨nR,hnR⟩:=jX R.length
   obtain ⟨nO,hnO⟩:=jX O.length
   have hnR1:nR ≤ 1000:=by rw [hnR,hR,rootT_len]; have:=(rootC_fi hql).short; omega
   have hnO1:nO ≤ 3000:=by rw [hnO,hO]; have:=rootO_len q hql; omega
   rw [← rootT_len,← hR,← hO,← hnR,← hnO]
   rw [← hR] at hl
   rw [← hO] at ho
   have HR:=jJ hR
   have HO:=jJ hO
   have HNR:=jJ hnR
   have HNO:=jJ hnO
   have HRl:=jJ (LRow.base hl HOr.out.size)
   have HRo:=jJ (own_low (B:=w4.heap.size) ho HOr.out.size)
   have HOF:Hid (Only (fun i=>i=b8) w4 wF):=jJ (HOr.out.trans (Only.of_below hb _))
   have K8F:=jJ (K8r.out.below hb K8r.out.lt)
   have HWF:=jJ (HWr.out.below hb)
   clear hl ho hb hR hO hnR hnO HRO HOr K8r HWr
   go_upto_region 8 with (fail)
   obtain ⟨wG,hwG⟩:=jX (wF.alloc (.cells #[.int .i64 (nO:Int),.slice Ar nR cr] 24))
   have KXG:Hid (Blk wG wF.heap.size 24 #[.int .i64 (nO:Int),.slice Ar nR cr]):=by subst hwG; exact jJ (Blk.new _ _ _)
   have K8G:Hid (Blk wG b8 97 #[.int .i64 (nN:Int),.slice At nJ ct,.slice Aw nw cw]):=by subst hwG; exact jJ (K8F.out.alloc _)
   have HWG:Hid (WaysAt wG w4.heap.size Aw cw (waysTo T V nN LJ q)):=by subst hwG; exact jJ (HWF.out.alloc _)
   have HOG:Hid (Only (fun i=>i=b8) w4 wG):=by subst hwG; exact jJ (HOF.out.alloc _)
   have HRlG:Hid (LRow wG w4.heap.size Ar cr R):=by subst hwG; exact jJ (LRow.alloc HRl.out _)
   have HRoG:Hid (IR wG w4.heap.size Ao2 co2 O):=by subst hwG; exact jJ (IR.alloc HRo.out _)
   rw [← hwG]
   obtain ⟨bx,hbx⟩:=jX wF.heap.size
   rw [← hbx] at KXG
   simp only [← hbx]
   clear hwG hbx K8F HWF HOF HRl HRo
   have K5G:Hid (Blk wG b5 24 #[.int .i64 (nN:Int),.slice At nJ ct]):=jJ (K54.out.only HOG.out HN5.out)
   have HLG:Hid (LRow wG w.heap.size At ct LJ):=jJ (own_same HL4.out fun k hk=>HOG.out.block k (World.ownsRow.lt HL4.out k hk).2 fun e=>own_blk_ne HL4.out HK84.out (by decide) (e ▸ hk))
   have HSM:=jJ (soupSame_dec (nO:Int) (nN:Int) R LJ Ar At nR nJ cr ct wG (by omega) (by omega) (by rw [HNR.out]; exact LRow.tris HRlG.out) (by rw [HNJ.out]; exact LRow.tris HLG.out))
   have q0:wG.cell? ⟨bx,0,none⟩=some (.int .i64 (nO:Int)):=KXG.out.cell 0
   have q1:wG.cell? ⟨bx,1,none⟩=some (.slice Ar nR cr):=KXG.out.cell 1
   have q2:wG.cell? ⟨b5,0,none⟩=some (.int .i64 (nN:Int)):=K5G.out.cell 0
   have q3:wG.cell? ⟨b5,1,none⟩=some (.slice At nJ ct):=K5G.out.cell 1
   cases hgd:goodC T nN LJ q with
   | false =>
    have hdc:decide ((nO:Int)=(nN:Int) ∧ R=LJ)=false:=by rw [HNO.out,HO.out,HR.out]; exact hgd
    rw [hdc] at HSM
    have HNX:Hid (waysTo T V nN LJ (q + 1)=waysTo T V nN LJ q):=jJ (waysTo_no hgd)
    clear hdc hgd
    go_wp2_with fail
    refine HSM.out.mono ?_
    rintro e wH ⟨rfl,hb⟩
    have K8H:=jJ (K8G.out.below hb K8G.out.lt)
    have HWH:Hid (WaysAt wH w4.heap.size Aw cw (waysTo T V nN LJ (q + 1))):=jJ (by rw [HNX.out]; exact HWG.out.below hb)
    have HOH:Hid (Only (fun i=>i=b8) w4 wH):=jJ (HOG.out.trans (Only.of_below hb _))
    have HNH:Hid (nw=(waysTo T V nN LJ (q + 1)).length):=jJ (by rw [HNX.out]; exact HNW.out)
    clear hb
    go_wp2_with fail
    go_roundw
    case rel=>exact ⟨q + 1,nw,cw,Aw,by omega,by go_num,HNH,K8H,HWH,HOH⟩
    case measure=>simp [intOf]; omega
   | true =>
    have hdc:decide ((nO:Int)=(nN:Int) ∧ R=LJ)=true:=by rw [HNO.out,HO.out,HR.out]; exact hgd
    rw [hdc] at HSM
    have HNX:Hid (waysTo T V nN LJ (q + 1)=waysTo T V nN LJ q ++ [wayOf T V q]):=jJ (waysTo_yes hgd)
    clear hdc hgd
    go_wp2_with fail
    refine HSM.out.mono ?_
    rintro e wH ⟨rfl,hb⟩
    have K8H:=jJ (K8G.out.below hb K8G.out.lt)
    have HWH:=jJ (HWG.out.below hb)
    have HOH:Hid (Only (fun i=>i=b8) w4 wH):=jJ (HOG.out.trans (Only.of_below hb _))
    have HRoH:=jJ (HRoG.out.below hb)
    clear hb HSM K8G HWG HOG HRoG HRlG KXG K5G HLG q0 q1 q2 q3
    have HOm:Hid (∀ v ∈ O,0 ≤ v ∧ v < (m:Int)):=jJ fun v hv=>by rw [HO.out] at hv; exact oldC_in (surf_chk47 HS.out) (rootC_fi hql).lt v hv
    have hmk:∀ wx:World,(Instr.makeSlice 30 (.int .i64 (nO:Int)) (.int .i64 (nO:Int))).run Tryz.prog wx=.ok (.slice (some ⟨wx.heap.size,0,none⟩) nO nO) (wx.alloc (.cells (intsA (List.replicate nO 0)) 3)):=fun wx=>by
     have:=run_make_rowN (P:=Tryz.prog) 30 3 i0 _ Tryz.underlying30 hi0 hz0 .i64 .i64 nO nO (Nat.le_refl _) (by rw [hz2]; omega) (by omega) wx
     rw [hz1,madeI1] at this
     exact this
    go_upto_region 10 with (fail)
    obtain ⟨wI,hwI⟩:=jX (wH.alloc (.cells (intsA (List.replicate nO 0)) 3))
    have KWI:Hid (Blk wI wH.heap.size 3 (intsA (wayP V O 0))):=by subst hwI; exact jJ (by rw [wayP_zero,← HNO.out]; exact Blk.new _ _ _)
    have K8I:Hid (Blk wI b8 97 #[.int .i64 (nN:Int),.slice At nJ ct,.slice Aw nw cw]):=by subst hwI; exact jJ (K8H.out.alloc _)
    have HBHI:Hid (Below wH.heap.size wH wI):=by subst hwI; exact jJ (bw_alloc (Below.refl _ _) _)
    have HOI:Hid (Only (fun i=>i=b8) w4 wI):=by subst hwI; exact jJ (HOH.out.alloc _)
    have HRoI:Hid (IR wI w4.heap.size Ao2 co2 O):=by subst hwI; exact jJ (IR.alloc HRoH.out _)
    have HLg:Hid (∀ k,(Value.slice Ao2 O.length co2).ownBlock=some k → k < wH.heap.size):=jJ fun k hk=>(World.ownsRow.lt HRoH.out k hk).2
    have HL4w:Hid (w4.heap.size ≤ wH.heap.size):=jJ HOH.out.size
    have HL8:Hid (b8 < wH.heap.size):=jJ K8H.out.lt
    rw [← hwI]
    obtain ⟨gw,hgw⟩:=jX wH.heap.size
    rw [← hgw] at KWI HLg HL4w HL8
    simp only [← hgw]
    have HGW:=jJ hgw
    clear hwI hgw K8H HOH HRoH hmk
    have HK1I:Hid (Blk wI b1 94 #[.int .i64 (m:Int),.slice A T.length c,.slice Av nv cv,.slice Al nl cl]):=jJ (K14.out.only HOI.out HN1.out)
    have HN1w:Hid (b1 ≠ gw):=jJ (by have:=K14.out.lt; have:=HL4w.out; omega)
    have HBI:Hid (Below w.heap.size w wI):=jJ (HB4.out.trans (HOI.out.below HW4.out fun k hk e=>by have:=HGB8.out; omega))
    have HGWw:Hid (w.heap.size ≤ gw):=jJ (Nat.le_trans HW4.out HL4w.out)
    go_wp2_with fail
    go_loopw [14,15,53] (fun _ _ kv wr=>∃ i:Nat,i ≤ nO ∧ kv=.int .i64 (i:Int) ∧ Hid (Blk wr gw 3 (intsA (wayP V O i))) ∧ Hid (Only (fun i=>i=gw) wI wr)) (fun _ _ kv _=>nO - (intOf kv).toNat)
    case atStart=>exact ⟨0,by omega,rfl,KWI,jJ (Only.refl _ _)⟩
    clear KWI
    obtain ⟨i,hi,rfl,KWr,HOw⟩:=hrel
    obtain ⟨wJ,hwJ⟩:=jX (wr:World)
    rw [← hwJ] at KWr HOw ⊢
    clear hwJ
    by_cases hio:i < nO
    · have hii:(i:Int) < (nO:Int):=by omega
      have hil:i < O.length:=by have:=HNO.out; omega
      have hRo:IR wJ w4.heap.size Ao2 co2 O:=own_same HRoI.out fun k hk=>HOw.out.block k (World.ownsRow.lt HRoI.out k hk).2 fun e=>by have:=HLg.out k hk; omega
      obtain ⟨ad,hA,cq⟩:=IR.cellQ hRo (List.getElem?_eq_getElem hil)
      obtain ⟨v,hv⟩:=jX (O[i])
      have hvr:=HOm.out v (by rw [hv]; exact List.getElem_mem hil)
      obtain ⟨x,rfl⟩:∃ x:Nat,v=(x:Int):=⟨v.toNat,by omega⟩
      rw [← hv] at cq
      have HVi:Hid (O[i]?=some (x:Int)):=jJ (by rw [List.getElem?_eq_getElem hil,← hv])
      have hxv:x < nv:=by have h1:=HVM.out; have h2:=HNV.out; omega
      have hVr:Reads wJ w.heap.size 1 Av nv (ZL V):=by rw [HNV.out]; exact HV.out.below (HBI.out.trans (HOw.out.below HBI.out.size fun k hk e=>by have:=HGWw.out; omega))
      obtain ⟨ae,y,hAv,_,hy,hcy⟩:=zl_read hVr hxv
      have HYV:Hid (V.getD (x:Int).toNat 0=y):=jJ (by rw [List.getD,show (x:Int).toNat=x by omega,hy]; rfl)
      have hxi:(x:Int) < (nv:Int):=by omega
      have c0:=cq.c
      have K1J:=jJ (HK1I.out.only HOw.out HN1w.out)
      have d2:wJ.cell? ⟨b1,2,none⟩=some (.slice Av nv cv):=K1J.out.cell 2
      have e0:wJ.cell? ⟨gw,i,none⟩=some (.int .i64 ((wayP V O i).getD i 0)):=by rw [KWr.out.cell]; exact intsA_at (by rw [wayP_len (by omega)]; exact hil)
      have f0:=KWr.out.frozen i
      clear hRo hvr hv cq hVr hy
      subst hA hAv
      go_wp2_with fail
      have KW2:Hid (Blk (wJ.setCell ⟨gw,i,none⟩ (.int .i64 y)) gw 3 (intsA (wayP V O (i + 1)))):=jJ (by rw [← wayP_set HVi.out,HYV.out,← intsA_set]; exact KWr.out.set_ i _)
      have HO2:Hid (Only (fun i=>i=gw) wI (wJ.setCell ⟨gw,i,none⟩ (.int .i64 y))):=jJ (only_set1 HOw.out i _)
      go_roundw
      case rel=>exact ⟨i + 1,by omega,by go_num,KW2,HO2⟩
      case measure=>simp [intOf]; omega
    obtain rfl:i=nO:=by omega
    have K8J:=jJ (K8I.out.only HOw.out (by have:=HL8.out; omega))
    have HWJ:WaysAt wJ w4.heap.size Aw cw (waysTo T V nN LJ q):=HWH.out.below (HBHI.out.trans (HOw.out.below HBHI.out.size fun k hk e=>by have:=HGW.out; omega))
    have hwy:wayP V O i=wayOf T V q:=by rw [HNO.out,wayP_all,wayOf,HO.out]
    have hwl:i=(wayOf T V q).length:=by rw [← hwy,wayP_len (by rw [← HNO.out]; exact Nat.le_refl _),HNO.out]
    have HIW:Hid (IR wJ w4.heap.size (some ⟨gw,0,none⟩) i (wayOf T V q)):=jJ (by
     have h1:=KWr.out
     rw [hwy] at h1
     have h2:=ints_own h1 HL4w.out (by rw [← hwl]; unfold maxLen; omega)
     rw [← hwl] at h2
     exact h2)
    have HWL:=jJ hwl
    obtain ⟨LW,hLW,hLo,hLi⟩:=HWJ.ex
    rw [← HNW.out] at hLo
    have HLW:=jJ hLW
    have HLo:=jJ hLo
    have HLi:=jJ hLi
    have hnw:nw ≤ 3000:=by have:=waysTo_len T V nN LJ q; have h:=HNW.out; omega
    have HOJ:Hid (Only (fun i=>i=b8) w4 wJ):=jJ (HOI.out.trans_ HOw.out fun k hk e=>by have:=HL4w.out; omega)
    clear HWJ hwy hwl hLW hLo hLi KWr HOw
    have k2:=K8J.out.cell 2
    simp at k2
    go_wp2_with (at_builtin; go_must (refine wpList_append_sl _ rfl (.tmp 68) (.tmp 70) _ rfl w4.heap.size 30 i3 _ 1 24 Tryz.underlying95 hi3 jz0 jz1 jz2 rfl (by omega) (.slice Aw nw cw) nw (LW.map wayC) rfl (own_up HLo.out _) (wJ.heap.size + 1) (some ⟨wJ.heap.size,0,none⟩) 1 1 [.slice (some ⟨gw,0,none⟩) i i] rfl (reads_newN _ _ _ 1 1 rfl rfl) (by simp [Value.oneCell']) (by simp only [maxLen]; omega) (by omega) (by rw [World.size_alloc]; have:=HOJ.out.size; omega) ?_); intro A5 c5 wK hown5 hg5 hat5; have K8K:Hid (Blk wK b8 97 #[.int .i64 (nN:Int),.slice At nJ ct,.slice Aw nw cw]):=jJ (Blk.grown (K8J.out.alloc _) hg5 fun e=>own_blk_ne HLo.out K8J.out (by decide) e.symm); have k2:wK.cell? ⟨b8,2,none⟩=some (.slice Aw nw cw):=K8K.out.cell 2; have kf:=K8K.out.frozen 2)
    have HWn:Hid (WaysAt wK w4.heap.size A5 c5 (waysTo T V nN LJ (q + 1))):=jJ (by
     rw [HNX.out]
     have hlo:=HLo.out
     have hho:=hown5
     have hg:=hg5
     rw [HNW.out] at hlo hho hg
     refine WaysAt.push ⟨⟨LW,HLW.out,own_up hlo _,fun x hx=>IR.alloc (HLi.out x hx) _⟩⟩ (Aw:=some ⟨gw,0,none⟩) (cw:=i) ?_ hg HLW.out (fun x hx=>IR.alloc (HLi.out x hx) _) (own_up hlo _) ?_
     · have:=HIW.out
       rw [HWL.out] at this ⊢
       exact IR.alloc this _
     rw [HWL.out] at hho
     rw [HWL.out]
     exact hho)
    have HOK:Hid (Only (fun i=>i=b8) w4 wK):=jJ ((HOJ.out.alloc _).grown hg5 fun x hx=>.inr (World.ownsRow.lt HLo.out x hx).1)
    have HNK:Hid (nw + 1=(waysTo T V nN LJ (q + 1)).length):=jJ (by rw [HNX.out,List.length_append,HNW.out]; rfl)
    have K8L:Hid (Blk (wK.setCell ⟨b8,2,none⟩ (.slice A5 (nw + 1) c5)) b8 97 #[.int .i64 (nN:Int),.slice At nJ ct,.slice A5 (nw + 1) c5]):=jJ (by simpa using K8K.out.set_ 2 (.slice A5 (nw + 1) c5))
    have HWL2:Hid (WaysAt (wK.setCell ⟨b8,2,none⟩ (.slice A5 (nw + 1) c5)) w4.heap.size A5 c5 (waysTo T V nN LJ (q + 1))):=jJ (HWn.out.off K8K.out (by decide) (by decide) 2 _)
    have HOL:Hid (Only (fun i=>i=b8) w4 (wK.setCell ⟨b8,2,none⟩ (.slice A5 (nw + 1) c5))):=jJ (only_set1 HOK.out 2 _)
    go_roundw
    case rel=>exact ⟨q + 1,nw + 1,c5,A5,by omega,by go_num,HNK,K8L,HWL2,HOL⟩
    case measure=>simp [intOf]; omega
 obtain rfl:q=3 * T.length:=by omega
 have K2r:=jJ (K24.out.only HOr.out (by have:=HN28.out; omega))
 have HLr:Hid (LRow wE w.heap.size At ct LJ):=jJ (own_same HL4.out fun k hk=>HOr.out.block k (World.ownsRow.lt HL4.out k hk).2 fun e=>own_blk_ne HL4.out HK84.out (by decide) (e ▸ hk))
 have HBr:Hid (Below w.heap.size w wE):=jJ (HB4.out.trans (HOr.out.below HW4.out fun k hk e=>by have:=HGB8.out; omega))
 clear HOr HT3 HT38
 have x0:=K8r.out.cell 0
 have x1:=K8r.out.cell 1
 have x2:=K8r.out.cell 2
 have y0:=K2r.out.cell 0
 have y1:=K2r.out.cell 1
 have y2:=K2r.out.cell 2
 have g0:=K2r.out.frozen 0
 have g1:=K2r.out.frozen 1
 have g2:=K2r.out.frozen 2
 simp at x0 x1 x2 y0 y1 y2
 go_wp2_with fail
 obtain ⟨wf,hwf⟩:=jX (((wE.setCell ⟨b2,0,none⟩ (.int .i64 (nN:Int))).setCell ⟨b2,1,none⟩ (.slice At nJ ct)).setCell ⟨b2,2,none⟩ (.slice Aw nw cw))
 have K2a:Blk (wE.setCell ⟨b2,0,none⟩ (.int .i64 (nN:Int))) b2 97 #[.int .i64 (nN:Int),.slice none 0 0,.slice none 0 0]:=by simpa using K2r.out.set_ 0 (.int .i64 (nN:Int))
 have K2b:Blk ((wE.setCell ⟨b2,0,none⟩ (.int .i64 (nN:Int))).setCell ⟨b2,1,none⟩ (.slice At nJ ct)) b2 97 #[.int .i64 (nN:Int),.slice At nJ ct,.slice none 0 0]:=by simpa using K2a.set_ 1 (.slice At nJ ct)
 have K2f:Hid (Blk wf b2 97 #[.int .i64 (nN:Int),.slice At nJ ct,.slice Aw nw cw]):=by subst hwf; exact jJ (by simpa using K2b.set_ 2 (.slice Aw nw cw))
 have HLf:LRow wf w.heap.size At ct LJ:=by subst hwf; exact own_off (own_off (own_off HLr.out K2r.out (by decide) 0 _) K2a (by decide) 1 _) K2b (by decide) 2 _
 have HWf:WaysAt wf w.heap.size Aw cw (waysTo T V nN LJ (3 * T.length)):=by subst hwf; exact (((HWr.out.off K2r.out (by decide) (by decide) 0 _).off K2a (by decide) (by decide) 1 _).off K2b (by decide) (by decide) 2 _).base HW4.out
 have HBf:Below w.heap.size w wf:=by subst hwf; exact bw_set (bw_set (bw_set HBr.out (p:=⟨b2,0,none⟩) HG.out.2.1 _) (p:=⟨b2,1,none⟩) HG.out.2.1 _) (p:=⟨b2,2,none⟩) HG.out.2.1 _
 have w0:=K2f.out.cell 0
 have w1':=K2f.out.cell 1
 have w2':=K2f.out.cell 2
 simp at w0 w1' w2'
 rw [← hwf]
 refine bodyPost_ret (v:=.agg #[.int .i64 (nN:Int),.slice At nJ ct,.slice Aw nw cw]) ?_ rfl ⟨p,At,Aw,ct,cw,HP.out,by rw [HNN.out,HNJ.out,HNW.out,HNN.out,HLJ.out],by rw [← HLJ.out]; exact HLf,by rw [← HNN.out,← HLJ.out]; exact HWf,HBf⟩
 simp [results,Tryz.results39,go_sem,w0,w1',w2']
end
section
structure KindV where
 M:Int
 L:List Tri
 ws:List (List Int)
def kindV (P:PartV):KindV :=
 ⟨(rootO P.t (bestN P.t 0)).length,rootT P.t (bestN P.t 0),waysTo P.t P.v (rootO P.t (bestN P.t 0)).length (rootT P.t (bestN P.t 0)) (3 * P.t.length)⟩
theorem put_one {T:List Tri} (h:kN T=1) {p:List Nat} (hp:Put T p):putL T p=[bestN T 0]:=by
 rw [put_list hp,h]
 have h1:=hp.perm
 rw [h] at h1
 have:p=[0]:=List.perm_singleton.1 h1
 rw [this]
 rfl
theorem shift_zero (t:Tri):shiftT 0 t=t:=by
 obtain ⟨a,b,c⟩:=t
 simp [shiftT]
theorem joinC_one (T:List Tri) (b:Nat):joinC T [b] 0=rootT T b:=by
 simp only [joinC,List.append_nil]
 conv=>rhs; rw [← List.map_id (rootT T b)]
 exact List.map_congr_left fun t _=>shift_zero t
theorem oldsC_one (T:List Tri) (b:Nat):oldsC T [b]=rootO T b:=by simp [oldsC]
def KindPost1 (w:World) (k:KindV) (e:Ending) (w':World):Prop :=
 ∃ (At Aw:Option Addr) (ct cw:Nat),e=.returned (.agg #[.int .i64 k.M,.slice At k.L.length ct,.slice Aw k.ws.length cw]) ∧ LRow w' w.heap.size At ct k.L ∧ WaysAt w' w.heap.size Aw cw k.ws ∧ Below w.heap.size w w'
theorem kindOf1_any (A Av Al:Option Addr) (c cv nl cl:Nat) (P:PartV) (w:World) (hN:P.n=(P.v.length:Int)) (hs:checkR P.n P.t=(0,0,0)) (hn:P.t.length ≤ 1000) (hk:kN P.t=1) (ht:TrisAt w w.heap.size A P.t.length P.t)
  (hv:Reads w w.heap.size 1 Av P.v.length (ZL P.v)) :
  Calls Tryz.prog 39 #[.agg #[.int .i64 P.n,.slice A P.t.length c,.slice Av P.v.length cv,.slice Al nl cl]] w (KindPost1 w (kindV P)):=by
 rw [hN] at hs ⊢
 refine (kindOf_any P.v.length A Av Al c cv nl cl P.t P.v w hs hn (by omega) (by rw [hk]; omega) ht rfl hv).mono ?_
 rintro e w' ⟨p,At,Aw,ct,cw,hp,rfl,hl,hw,hb⟩
 rw [put_one hk hp,joinC_one,oldsC_one] at *
 exact ⟨At,Aw,ct,cw,rfl,hl,hw,hb⟩
structure KCell where
 At:Option Addr
 ct:Nat
 Aw:Option Addr
 cw:Nat
 k:KindV
def KCell.cells (x:KCell):List Value:=[.int .i64 x.k.M,.slice x.At x.k.L.length x.ct,.slice x.Aw x.k.ws.length x.cw]
structure KindsAt (W:World) (B:Nat) (A:Option Addr) (c:Nat) (ks:List KindV):Prop where
 ex:∃ L:List KCell,L.map KCell.k=ks ∧ W.ownsRow B 97 3 (.slice A ks.length c) ks.length (L.flatMap KCell.cells) ∧ ∀ x ∈ L,LRow W B x.At x.ct x.k.L ∧ WaysAt W B x.Aw x.cw x.k.ws
section
variable {W W':World} {B c:Nat} {A:Option Addr} {ks:List KindV}
theorem KindsAt.nil (W:World) (B:Nat):KindsAt W B none 0 []:=⟨⟨[],rfl,World.ownsRow_nil _ _ _ _,fun x hx=>by cases hx⟩⟩
theorem KindsAt.same (h:KindsAt W B A c ks) (hb:∀ (el:TypeId) (s n:Nat) (z:Value) (xs:List Value),W.ownsRow B el s z n xs → W'.ownsRow B el s z n xs):KindsAt W' B A c ks:=by
 obtain ⟨L,h1,h2,h3⟩:=h.ex
 exact ⟨⟨L,h1,hb _ _ _ _ _ h2,fun x hx=>⟨hb _ _ _ _ _ (h3 x hx).1,(h3 x hx).2.same fun el s n z xs _ ho=>hb _ _ _ _ _ ho⟩⟩⟩
theorem KindsAt.below (h:KindsAt W B A c ks) (hb:Below W.heap.size W W'):KindsAt W' B A c ks:=h.same fun _ _ _ _ _ ho=>own_same ho fun q hq=>hb.block q (World.ownsRow.lt ho q hq).2
theorem KindsAt.alloc (h:KindsAt W B A c ks) (o:Obj):KindsAt (W.alloc o) B A c ks:=h.below (bw_alloc (Below.refl _ _) o)
theorem KindsAt.drew (h:KindsAt W B A c ks):KindsAt W.drew B A c ks:=h.below (bw_drew (Below.refl _ _))
theorem KindsAt.base {B':Nat} (h:KindsAt W B A c ks) (hB:B' ≤ B):KindsAt W B' A c ks:=by
 obtain ⟨L,h1,h2,h3⟩:=h.ex
 exact ⟨⟨L,h1,own_low h2 hB,fun x hx=>⟨LRow.base (h3 x hx).1 hB,(h3 x hx).2.base hB⟩⟩⟩
theorem KindsAt.at_ (h:KindsAt W B A c ks) {i:Nat} (hi:i < ks.length):∃ (g:Nat) (At Aw:Option Addr) (ct cw:Nat) (k:KindV),A=some ⟨g,0,none⟩ ∧ ks[i]?=some k ∧ W.cell? ⟨g,i * 3,none⟩=some (.int .i64 k.M) ∧ W.cell? ⟨g,i * 3 + 1,none⟩=some (.slice At k.L.length ct) ∧ W.cell? ⟨g,i * 3 + 2,none⟩=some (.slice Aw k.ws.length cw) ∧
  LRow W B At ct k.L ∧ WaysAt W B Aw cw k.ws:=by
 obtain ⟨L,h1,h2,h3⟩:=h.ex
 obtain ⟨g,c1,hv,_⟩:=World.ownsRow.form h2 (by omega)
 injection hv with hA _ hc
 have hl:i < L.length:=by rw [← h1,List.length_map] at hi; exact hi
 have hx:L[i]?=some L[i]:=List.getElem?_eq_getElem hl
 have hcell:∀ r u,r < 3 → L[i].cells[r]?=some u → W.cell? ⟨g,i * 3 + r,none⟩=some u:=fun r u hr hu=>by
  have h4:=flatMap_at 3 KCell.cells (fun _=>rfl) L i r _ hx hr
  rw [hu] at h4
  have:=World.ownsRow.cells (hA ▸ h2) (g:=g) rfl (i * 3 + r) u h4
  rw [show (⟨g,0,none⟩:Addr).add (i * 3 + r)=⟨g,i * 3 + r,none⟩ by unfold Addr.add; split <;> simp_all] at this
  exact this
 exact ⟨g,L[i].At,L[i].Aw,L[i].ct,L[i].cw,L[i].k,hA,by rw [← h1,List.getElem?_map,hx]; rfl,hcell 0 _ (by decide) rfl,hcell 1 _ (by decide) rfl,hcell 2 _ (by decide) rfl,(h3 _ (List.getElem_mem hl)).1,(h3 _ (List.getElem_mem hl)).2⟩
end
end
section
open Go.RowKit Go.Shelf
def alikeK (o k:KindV):Bool:=decide (o.M=k.M ∧ o.L=k.L)
def likeN (ks:List KindV) (k:KindV) (j:Nat):Nat:=1 + ((ks.take j).filter fun o=>alikeK o k).length
def timesN (n k:Nat):Option Nat:=if n * k ≤ 4611686018427387904 then some (n * k) else none
def orderN (ks:List KindV):Nat → Option Nat
 | 0=>some 1
 | i + 1=>(orderN ks i).bind fun n=>(ks[i]?).bind fun k=>(timesN n k.ws.length).bind fun n'=>timesN n' (likeN ks k i)
theorem likeN_zero (ks:List KindV) (k:KindV):likeN ks k 0=1:=by simp [likeN]
theorem likeN_yes {ks:List KindV} {o k:KindV} {j:Nat} (ho:ks[j]?=some o) (h:alikeK o k=true):likeN ks k (j + 1)=likeN ks k j + 1:=by
 unfold likeN
 rw [List.take_add_one,ho,List.filter_append,List.length_append]
 simp [h]
 omega
theorem likeN_no {ks:List KindV} {o k:KindV} {j:Nat} (ho:ks[j]?=some o) (h:alikeK o k=false):likeN ks k (j + 1)=likeN ks k j:=by
 unfold likeN
 rw [List.take_add_one,ho,List.filter_append,List.length_append]
 simp [h]
theorem likeN_le (ks:List KindV) (k:KindV) (j:Nat):likeN ks k j ≤ 1 + j:=by
 unfold likeN
 have h1:=List.length_filter_le (fun o=>alikeK o k) (ks.take j)
 have h2:=List.length_take_le j ks
 omega
theorem timesN_yes {n k:Nat} (h:n * k ≤ 4611686018427387904):timesN n k=some (n * k):=if_pos h
theorem timesN_no {n k:Nat} (h:¬ n * k ≤ 4611686018427387904):timesN n k=none:=if_neg h
theorem orderN_succ {ks:List KindV} {i n:Nat} {k:KindV} (h:orderN ks i=some n) (hk:ks[i]?=some k):orderN ks (i + 1)=(timesN n k.ws.length).bind fun n'=>timesN n' (likeN ks k i):=by
 rw [orderN,h,hk]
 rfl
theorem orderN_none {ks:List KindV}:∀ {i j:Nat},i ≤ j → orderN ks i=none → orderN ks j=none
 | i,0,hij,h=>by
  obtain rfl:i=0:=by omega
  exact h
 | i,j + 1,hij,h=>by
  rcases Nat.lt_or_ge j i with h1 | h1
  · obtain rfl:i=j + 1:=by omega
    exact h
  rw [orderN,orderN_none h1 h]
  rfl
attribute [local irreducible] Blk World.alloc World.setCell World.cell? World.frozen? MapV MapI
theorem times_any (n k b:Nat) (w:World) (hn:n ≤ 4611686018427387904) (hk:k ≤ 4611686018427387904) (h:Blk w b 99 #[.int .u64 (n:Int)]) :
  Calls Tryz.prog 40 #[.int .i64 (k:Int),.pointer (some ⟨b,0,none⟩)] w fun e w'=>e=.returned (.bool (decide (n * k ≤ 4611686018427387904))) ∧ w'=w.setCell ⟨b,0,none⟩ (.int .u64 ((n * k % 18446744073709551616:Nat):Int)):=by
 have HM:Hid (Calls Tryz.prog 41 #[.int .u64 (n:Int),.int .u64 (k:Int)] w fun e w'=>e=.returned (.tuple #[.int .u64 ((n * k / 18446744073709551616:Nat):Int),.int .u64 ((n * k % 18446744073709551616:Nat):Int)]) ∧ w'=w):=jJ (Any.bits_Mul64 Tryz.mulU n k (by omega) (by omega) w)
 obtain ⟨hi,hhi⟩:=jX (n * k / 18446744073709551616)
 obtain ⟨lo,hlo⟩:=jX (n * k % 18446744073709551616)
 obtain ⟨r,hr⟩:=jX (decide (n * k ≤ 4611686018427387904))
 rw [← hhi,← hlo] at HM
 rw [← hlo,← hr]
 have hlo2:lo < 18446744073709551616:=by omega
 have hhl:n * k=hi * 18446744073709551616 + lo:=by omega
 have c0:=h.cell 0
 have f0:=h.frozen 0
 have u1:IntKind.u64.wrap (k:Int)=(k:Int):=by rw [IntKind.wrap_u64]; omega
 simp at c0
 by_cases hz:hi=0
 · have hz1:((hi:Int) == 0)=true:=by simp [hz]
   have HR:Hid (r=decide (lo ≤ 4611686018427387904)):=jJ (by rw [hr,hhl,hz]; simp)
   have hle:decide ((lo:Int) ≤ 4611686018427387904)=decide (lo ≤ 4611686018427387904):=by
    by_cases hx:lo ≤ 4611686018427387904
    · rw [decide_eq_true hx,decide_eq_true (by omega)]
    rw [decide_eq_false hx,decide_eq_false (by omega)]
   have HLE:=jJ hle
   clear hhl hr hhi hlo hle
   go_enter Tryz.func40,Tryz.ntmps40
   go_wp2_with fail
   refine HM.out.mono ?_
   rintro e w1 ⟨rfl,hw⟩
   replace hw:=hw.symm
   subst hw
   go_wp2_with fail
   go_ret
   refine ⟨?_,rfl⟩
   rw [HR.out,← HLE.out]
   rfl
 have hz1:((hi:Int) == 0)=false:=by simp [hz]
 have HR:Hid (r=false):=jJ (by rw [hr]; exact decide_eq_false (by omega))
 clear hhl hr hhi hlo hz
 go_enter Tryz.func40,Tryz.ntmps40
 go_wp2_with fail
 refine HM.out.mono ?_
 rintro e w1 ⟨rfl,hw⟩
 replace hw:=hw.symm
 subst hw
 go_wp2_with fail
 go_ret
 refine ⟨?_,rfl⟩
 rw [HR.out]
 rfl
end
section
theorem KindsAt.cap {W:World} {B c:Nat} {A:Option Addr} {ks:List KindV} (h:KindsAt W B A c ks):ks.length ≤ c:=by
 obtain ⟨L,h1,h2,h3⟩:=h.ex
 obtain ⟨A',c',e,hc⟩:=own_form h2
 injection e with _ _ e
 rw [e]; exact hc
def ordV (o:Option Nat):Value :=
 match o with
 | some n=>.tuple #[.int .i64 (n:Int),.int .i64 0]
 | none=>.tuple #[.int .i64 0,.int .i64 7]
def OrderPost (w:World) (o:Option Nat) (e:Ending) (w':World):Prop:=e=.returned (ordV o) ∧ Below w.heap.size w w'
attribute [local irreducible] Blk World.alloc World.setCell World.cell? World.frozen? MapV MapI
theorem order_any (B:Nat) (A:Option Addr) (c:Nat) (ks:List KindV) (w:World) (hK:ks.length ≤ 1000) (hL:∀ k ∈ ks,k.L.length ≤ 1000) (hW:∀ k ∈ ks,k.ws.length ≤ 1000000) (h:KindsAt w B A c ks) :
  Calls Tryz.prog 22 #[.slice A ks.length c] w (OrderPost w (orderN ks ks.length)):=by
 have HK:=jJ h
 have HL:=jJ hL
 have HW:=jJ hW
 obtain ⟨K,hKe⟩:=jX ks.length
 rw [← hKe] at hK ⊢
 have HKE:=jJ hKe
 have hcap:K ≤ c:=hKe ▸ h.cap
 clear h hL hW hKe
 go_enter Tryz.func22,Tryz.ntmps22
 go_upto_region 2 with (fail)
 obtain ⟨wA,hwA⟩:=jX (w.alloc (.cells #[.int .u64 1] 99))
 have KNA:Hid (Blk wA w.heap.size 99 #[.int .u64 ((1:Nat):Int)]):=by subst hwA; exact jJ (Blk.new _ _ _)
 have HBA:Hid (Below w.heap.size w wA):=by subst hwA; exact jJ (bw_alloc (Below.refl _ _) _)
 rw [← hwA]
 obtain ⟨b4,hb4⟩:=jX w.heap.size
 have HG:Hid (w.heap.size ≤ b4):=jJ (by omega)
 rw [← hb4] at KNA
 simp only [← hb4]
 clear hwA hb4
 go_wp2_with fail
 go_loopw [6,7,8,10,14] (fun _ _ _ _ kv wr=>∃ i n:Nat,i ≤ K ∧ kv=.int .i64 (i:Int) ∧ n ≤ 4611686018427387904 ∧ Hid (orderN ks i=some n) ∧ Hid (Blk wr b4 99 #[.int .u64 (n:Int)]) ∧ Hid (Below w.heap.size w wr)) (fun _ _ _ _ kv _=>K - (intOf kv).toNat)
 case atStart=>exact ⟨0,1,by omega,rfl,by omega,jJ rfl,KNA,HBA⟩
 clear KNA HBA
 obtain ⟨i,n,hi,rfl,hn,HOI,KNr,HBr⟩:=hrel
 obtain ⟨wE,hwE⟩:=jX (wr:World)
 rw [← hwE] at KNr HBr ⊢
 clear hwE
 by_cases hiK:i < K
 · have hii:(i:Int) < (K:Int):=by omega
   have HKr:=HK.out.below HBr.out
   obtain ⟨g,At,Aw,ct,cw,k,hA,hks,y0,y1,y2,hl,hw⟩:=HKr.at_ (by rw [← HKE.out]; exact hiK)
   have hkm:=List.mem_of_getElem? hks
   obtain ⟨nl,hnl⟩:=jX k.L.length
   obtain ⟨nw,hnw⟩:=jX k.ws.length
   rw [← hnl] at y1
   rw [← hnw] at y2
   have hnl1:nl ≤ 1000:=by rw [hnl]; exact HL.out k hkm
   have hnw1:nw ≤ 1000000:=by rw [hnw]; exact HW.out k hkm
   have HKS:=jJ hks
   have HNl:=jJ hnl
   have HNw:=jJ hnw
   have HLk:=jJ hl
   clear hks hl hw hkm hnl hnw HKr
   subst hA
   go_upto_region 7 with (fail)
   obtain ⟨wF,hwF⟩:=jX (wE.alloc (.cells #[.int .i64 k.M,.slice At nl ct,.slice Aw nw cw] 97))
   have K7F:Hid (Blk wF wE.heap.size 97 #[.int .i64 k.M,.slice At nl ct,.slice Aw nw cw]):=by subst hwF; exact jJ (Blk.new _ _ _)
   have KNF:Hid (Blk wF b4 99 #[.int .u64 (n:Int)]):=by subst hwF; exact jJ (KNr.out.alloc _)
   have HBF:Hid (Below w.heap.size w wF):=by subst hwF; exact jJ (bw_alloc HBr.out _)
   have HLF:Hid (LRow wF B At ct k.L):=by subst hwF; exact jJ (LRow.alloc HLk.out _)
   rw [← hwF]
   obtain ⟨b7,hb7⟩:=jX wE.heap.size
   rw [← hb7] at K7F
   simp only [← hb7]
   have hic:(i:Int) ≤ (c:Int):=by omega
   clear hwF hb7 KNr HBr HLk y0 y1 y2
   go_wp2_with fail
   go_loopw [8,10,23] (fun lv _ jv wr=>∃ j q:Nat,j ≤ i ∧ lv=.int .i64 (q:Int) ∧ jv=.int .i64 (j:Int) ∧ q ≤ 1 + j ∧ Hid (q=likeN ks k j) ∧ Hid (Below wF.heap.size wF wr)) (fun _ _ jv _=>i - (intOf jv).toNat)
   case atStart=>exact ⟨0,1,by omega,by go_num,rfl,by omega,jJ (likeN_zero ks k).symm,jJ (Below.refl _ _)⟩
   obtain ⟨j,q,hj,rfl,rfl,hq,HLI,HBi⟩:=hrel
   obtain ⟨wG,hwG⟩:=jX (wr:World)
   rw [← hwG] at HBi ⊢
   clear hwG
   by_cases hji:j < i
   · have hjii:(j:Int) < (i:Int):=by omega
     have HKr:=(HK.out.below HBF.out).below HBi.out
     obtain ⟨g2,At2,Aw2,ct2,cw2,o,hA2,hos,z0,z1,z2,hl2,_⟩:=HKr.at_ (i:=j) (by rw [← HKE.out]; omega)
     injection hA2 with hA2
     injection hA2 with hA2
     subst hA2
     obtain ⟨nl2,hnl2⟩:=jX o.L.length
     obtain ⟨nw2,hnw2⟩:=jX o.ws.length
     rw [← hnl2] at z1
     rw [← hnw2] at z2
     have hnl3:nl2 ≤ 1000:=by rw [hnl2]; exact HL.out o (List.mem_of_getElem? hos)
     have HOS:=jJ hos
     have HNl2:=jJ hnl2
     have HLo:=jJ hl2
     clear hos hl2 hnl2 hnw2 HKr
     go_upto_region 10 with (fail)
     obtain ⟨wH,hwH⟩:=jX (wG.alloc (.cells #[.int .i64 o.M,.slice At2 nl2 ct2,.slice Aw2 nw2 cw2] 97))
     have KXH:Hid (Blk wH wG.heap.size 97 #[.int .i64 o.M,.slice At2 nl2 ct2,.slice Aw2 nw2 cw2]):=by subst hwH; exact jJ (Blk.new _ _ _)
     have HBH:Hid (Below wF.heap.size wF wH):=by subst hwH; exact jJ (bw_alloc HBi.out _)
     have HLoH:Hid (LRow wH B At2 ct2 o.L):=by subst hwH; exact jJ (LRow.alloc HLo.out _)
     rw [← hwH]
     obtain ⟨bx,hbx⟩:=jX wG.heap.size
     rw [← hbx] at KXH
     simp only [← hbx]
     clear hwH hbx HBi HLo z0 z1 z2
     have K7H:=jJ (K7F.out.below HBH.out K7F.out.lt)
     have HLFH:=jJ (LRow.below HLF.out HBH.out)
     have HSM:=jJ (soupSame_dec o.M k.M o.L k.L At2 At nl2 nl ct2 ct wH (by omega) (by omega) (by rw [HNl2.out]; exact LRow.tris HLoH.out) (by rw [HNl.out]; exact LRow.tris HLFH.out))
     have x0:wH.cell? ⟨bx,0,none⟩=some (.int .i64 o.M):=KXH.out.cell 0
     have x1:wH.cell? ⟨bx,1,none⟩=some (.slice At2 nl2 ct2):=KXH.out.cell 1
     have y0:wH.cell? ⟨b7,0,none⟩=some (.int .i64 k.M):=K7H.out.cell 0
     have y1:wH.cell? ⟨b7,1,none⟩=some (.slice At nl ct):=K7H.out.cell 1
     cases hal:alikeK o k with
     | true =>
      have hd:decide (o.M=k.M ∧ o.L=k.L)=true:=hal
      rw [hd] at HSM
      have HLN:Hid (q + 1=likeN ks k (j + 1)):=jJ (by rw [likeN_yes HOS.out hal,HLI.out])
      clear hal hd
      go_wp2_with fail
      refine HSM.out.mono ?_
      rintro e wI ⟨rfl,hb⟩
      have HBI:=jJ (bw_call HBH.out hb)
      clear hb
      go_wp2_with fail
      go_roundw
      case rel=>exact ⟨j + 1,q + 1,by omega,by go_num,by go_num,by omega,HLN,HBI⟩
      case measure=>simp [intOf]; omega
     | false =>
      have hd:decide (o.M=k.M ∧ o.L=k.L)=false:=hal
      rw [hd] at HSM
      have HLN:Hid (q=likeN ks k (j + 1)):=jJ (by rw [likeN_no HOS.out hal,HLI.out])
      clear hal hd
      go_wp2_with fail
      refine HSM.out.mono ?_
      rintro e wI ⟨rfl,hb⟩
      have HBI:=jJ (bw_call HBH.out hb)
      clear hb
      go_wp2_with fail
      go_roundw
      case rel=>exact ⟨j + 1,q,by omega,rfl,by go_num,by omega,HLN,HBI⟩
      case measure=>simp [intOf]; omega
   obtain rfl:j=i:=by omega
   have K7G:=jJ (K7F.out.below HBi.out K7F.out.lt)
   have KNG:=jJ (KNF.out.below HBi.out KNF.out.lt)
   have HBG:=jJ (HBF.out.trans (HBi.out.mono HBF.out.size))
   have HT1:=jJ (times_any n nw b4 wG hn (by omega) KNG.out)
   have y2:=K7G.out.cell 2
   simp at y2
   clear HBi
   by_cases h1:n * nw ≤ 4611686018427387904
   · rw [decide_eq_true h1] at HT1
     have KN2:Hid (Blk (wG.setCell ⟨b4,0,none⟩ (.int .u64 ((n * nw % 18446744073709551616:Nat):Int))) b4 99 #[.int .u64 ((n * nw:Nat):Int)]):=jJ (by
      have h2:n * nw % 18446744073709551616=n * nw:=Nat.mod_eq_of_lt (by omega)
      rw [h2]
      exact KNG.out.set_ 0 _)
     have HT2:=jJ (times_any (n * nw) q b4 _ h1 (by omega) KN2.out)
     have HB2:Hid (Below w.heap.size w (wG.setCell ⟨b4,0,none⟩ (.int .u64 ((n * nw % 18446744073709551616:Nat):Int)))):=jJ (bw_set HBG.out (p:=⟨b4,0,none⟩) HG.out _)
     have HON:Hid (orderN ks (j + 1)=timesN (n * nw) q):=jJ (by rw [orderN_succ HOI.out HKS.out,← HNw.out,timesN_yes h1,HLI.out]; rfl)
     obtain ⟨w2,hw2⟩:=jX (wG.setCell ⟨b4,0,none⟩ (.int .u64 ((n * nw % 18446744073709551616:Nat):Int)))
     rw [← hw2] at KN2 HT2 HB2 HT1
     obtain ⟨n2,hn2⟩:=jX (n * nw)
     rw [← hn2] at KN2 HT2 HON h1
     clear hw2 hn2
     go_wp2_with fail
     refine HT1.out.mono ?_
     rintro e w2' ⟨rfl,hw⟩
     subst hw
     by_cases h2:n2 * q ≤ 4611686018427387904
     · rw [decide_eq_true h2] at HT2
       have HON2:Hid (orderN ks (j + 1)=some (n2 * q)):=jJ (by rw [HON.out,timesN_yes h2])
       have KN3:Hid (Blk (w2'.setCell ⟨b4,0,none⟩ (.int .u64 ((n2 * q % 18446744073709551616:Nat):Int))) b4 99 #[.int .u64 ((n2 * q:Nat):Int)]):=jJ (by
        have h2:n2 * q % 18446744073709551616=n2 * q:=Nat.mod_eq_of_lt (by omega)
        rw [h2]
        exact KN2.out.set_ 0 _)
       have HB3:Hid (Below w.heap.size w (w2'.setCell ⟨b4,0,none⟩ (.int .u64 ((n2 * q % 18446744073709551616:Nat):Int)))):=jJ (bw_set HB2.out (p:=⟨b4,0,none⟩) HG.out _)
       obtain ⟨w3,hw3⟩:=jX (w2'.setCell ⟨b4,0,none⟩ (.int .u64 ((n2 * q % 18446744073709551616:Nat):Int)))
       rw [← hw3] at KN3 HB3 HT2
       obtain ⟨n3,hn3⟩:=jX (n2 * q)
       rw [← hn3] at KN3 HON2 h2
       clear hw3 hn3
       go_wp2_with fail
       refine HT2.out.mono ?_
       rintro e w3' ⟨rfl,hw⟩
       subst hw
       go_wp2_with fail
       go_roundw
       case rel=>exact ⟨j + 1,n3,by omega,by go_num,h2,HON2,KN3,HB3⟩
       case measure=>simp [intOf]; omega
     rw [decide_eq_false h2] at HT2
     have HFI:Hid (orderN ks K=none):=jJ (orderN_none (i:=j + 1) (by omega) (by rw [HON.out,timesN_no h2]))
     have HB3:Hid (Below w.heap.size w (w2'.setCell ⟨b4,0,none⟩ (.int .u64 ((n2 * q % 18446744073709551616:Nat):Int)))):=jJ (bw_set HB2.out (p:=⟨b4,0,none⟩) HG.out _)
     obtain ⟨w3,hw3⟩:=jX (w2'.setCell ⟨b4,0,none⟩ (.int .u64 ((n2 * q % 18446744073709551616:Nat):Int)))
     rw [← hw3] at HB3 HT2
     clear hw3 h2
     go_wp2_with fail
     refine HT2.out.mono ?_
     rintro e w3' ⟨rfl,hw⟩
     subst hw
     go_wp2_with fail
     refine bodyPost_ret (v:=.tuple #[.int .i64 0,.int .i64 7]) ?_ rfl ⟨by rw [HFI.out]; rfl,HB3.out⟩
     simp [results,Tryz.results22,go_sem]
   rw [decide_eq_false h1] at HT1
   have HFI:Hid (orderN ks K=none):=jJ (orderN_none (i:=j + 1) (by omega) (by rw [orderN_succ HOI.out HKS.out,← HNw.out,timesN_no h1]; rfl))
   have HB2:Hid (Below w.heap.size w (wG.setCell ⟨b4,0,none⟩ (.int .u64 ((n * nw % 18446744073709551616:Nat):Int)))):=jJ (bw_set HBG.out (p:=⟨b4,0,none⟩) HG.out _)
   obtain ⟨w2,hw2⟩:=jX (wG.setCell ⟨b4,0,none⟩ (.int .u64 ((n * nw % 18446744073709551616:Nat):Int)))
   rw [← hw2] at HB2 HT1
   clear hw2 h1
   go_wp2_with fail
   refine HT1.out.mono ?_
   rintro e w2' ⟨rfl,hw⟩
   subst hw
   go_wp2_with fail
   refine bodyPost_ret (v:=.tuple #[.int .i64 0,.int .i64 7]) ?_ rfl ⟨by rw [HFI.out]; rfl,HB2.out⟩
   simp [results,Tryz.results22,go_sem]
 obtain rfl:i=K:=by omega
 have c0:=KNr.out.cell 0
 have u1:IntKind.i64.wrap (n:Int)=(n:Int):=by rw [IntKind.wrap_i64]; omega
 simp at c0
 go_wp2_with fail
 refine bodyPost_ret (v:=.tuple #[.int .i64 (n:Int),.int .i64 0]) ?_ rfl ⟨by rw [HOI.out]; rfl,HBr.out⟩
 simp [results,Tryz.results22,go_sem]
end
end Go.Proofs.YtffmfhkiienmaaaGreat
