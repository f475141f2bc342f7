/- walk.Steps' value goes through the steps of a walk over a sphere. No condition but sizes. -/
import Derived.Test.YtffmfhkiienmaaaGreatWq4
import Derived.Test.YtffmfhkiienmaaaGreatWyS
import Derived.Test.YtffmfhkiienmaaaGreatWq5
set_option maxRecDepth 100000
set_option maxHeartbeats 16000000
set_option linter.all false
namespace Go.Proofs.YtffmfhkiienmaaaGreat
open Go.RowKit Go.Shelf
structure WStep (F:Nat) where
 k:Nat
 c:Nat
 a:Nat
 b:Nat
 hc:c < 3 * F
def wstE {F:Nat} (x:WStep F):Array Value:=#[.agg #[.int .u8 (x.k:Int),.int .i64 (x.c:Int),.int .i64 (x.a:Int),.int .i64 (x.b:Int)]]
def StS (w0:World) (g gw gc m b1 b2 root l:Nat) (T:List Tri) (J:List (WStep T.length) → (Nat → Prop) → World → Prop) (k:Nat) (a:Act) (W:World):Prop :=
 ∃ (x3 x5 x6 x7 x8 x9 x10 x11 x12 x13 x14 x15 x16 x17 x18 x19 x20 x21 x22 x23 x24 x25 x26:Value) (vis:List Nat) (seen:List Int) (Ls:List (List Nat)) (come:List Bool) (M:List Way) (Aw:Option Addr) (cw:Nat) (xs:List (WStep T.length)),
  a={ tmps:=#[.func (.yield l) #[] #[],.pointer (some ⟨b1,0,none⟩),.pointer (some ⟨b2,0,none⟩),x3,.pointer (some ⟨gw,0,none⟩),x5,x6,x7,x8,x9,x10,x11,x12,x13,x14,x15,x16,x17,x18,x19,x20,x21,x22,x23,x24,x25,x26],defers:=[] } ∧
  SimS m T vis seen Ls come M ∧ WyAt W w0.heap.size g gw gc m come M Aw cw ∧ Below w0.heap.size w0 W ∧ J xs (OWy gw gc M Aw) W ∧ xs.map (·.k) ++ (runX (oppC T) (cv T) k seen Ls).1.map Prod.fst=wordX T.length (oppC T) (cv T) root ∧ T.length ≤ vis.length + k ∧ xs.length + 1=vis.length
attribute [local irreducible] Blk World.alloc World.setCell World.cell? World.frozen? MapV MapI
attribute [local go_sem] Oper.semAt_some
theorem steps_own (n:Nat) (hn:1 ≤ n) (g m:Nat) (T:List Tri) (root b1 b2:Nat) (w0 w:World) (hT:TabN w0 g m T) (hS:SphT m T) (hr:root < 3 * T.length) (hF:T.length ≤ 300) (hb:Below w0.heap.size w0 w)
  (h1:w.cell? ⟨b1,0,none⟩=some (.pointer (some ⟨g,0,none⟩))) (h2:w.cell? ⟨b2,0,none⟩=some (.int .i64 (root:Int))) (l1:b1 < w.heap.size) (l2:b2 < w.heap.size) :
  SeqOwn Fence.wide n Tryz.prog 35 #[.pointer (some ⟨b1,0,none⟩),.pointer (some ⟨b2,0,none⟩)] (wstE (F:=T.length)) (fun xs=>xs.map (·.k)=wordX T.length (oppC T) (cv T) root) T.length w0.heap.size w:=fun l J W hW hJ hY h0=>by
 have hSph:=hS.sph hT.s
 have HT:=jJ hT
 have HS:=jJ hS
 have HBW:Hid (Below w0.heap.size w0 W):=jJ (hb.trans (hW.mono hb.size))
 have c1:=(hW.cell l1).trans h1
 have c2:=(hW.cell l2).trans h2
 have HC:Hid (∀ W',Below W.heap.size W W' → W'.cell? ⟨b1,0,none⟩=some (.pointer (some ⟨g,0,none⟩)) ∧ W'.cell? ⟨b2,0,none⟩=some (.int .i64 (root:Int))):=jJ fun W' hW'=>⟨(hW'.cell (Nat.lt_of_lt_of_le l1 hW.size)).trans c1,(hW'.cell (Nat.lt_of_lt_of_le l2 hW.size)).trans c2⟩
 have HCK:Hid (Calls Tryz.prog 16 #[.pointer (some ⟨g,0,none⟩),.int .i64 (root:Int)] W (IntPost W 0)):=jJ (wcheck_any g m T root W (hT.below HBW.out) hS hr)
 have HBE:Hid (∀ V,Below w0.heap.size w0 V → Calls Tryz.prog 36 #[.pointer (some ⟨g,0,none⟩),.int .i64 (root:Int)] V (BegPost V w0.heap.size g m T root)):=jJ fun V hV=>begin_any V w0.heap.size g m T root (hT.below hV) hV.size hr
 have H0:=jJ h0
 clear h1 h2 hT hS h0
 refine callsIn_of_wp Tryz.func35 rfl trivial ?_ rfl
 simp only [Tryz.ntmps35,List.size_toArray,List.length_cons,List.length_nil,Nat.reduceAdd,Nat.reduceSub,Array.replicate_succ,Array.replicate_zero,List.push_toArray,List.append_toArray,List.nil_append,List.cons_append]
 gi_wp2_with (first
  | (refine ⟨trivial,?_⟩; gi_at_call 16; refine (callsIn_wide.2 HCK.out).mono ?_; rintro e w1 ⟨rfl,hb1⟩; have HB1:=jJ hb1; have c1:=(HC.out w1 hb1).1; have c2:=(HC.out w1 hb1).2; have HJ1:=jJ (hJ [] (fun _=>False) (fun _=>False) W w1 H0.out (Only.of_below hb1 _) (fun k h=>h.elim) (fun k h=>h.elim)); clear hb1)
  | (refine ⟨trivial,?_⟩; gi_at_call 36; refine (callsIn_wide.2 (HBE.out _ (HBW.out.trans (HB1.out.mono HBW.out.size)))).mono ?_; rintro e w2 ⟨gw,gc,come,x,rfl,hM,hx,hcm,hb2,hgw,hgc,hk⟩))
 have HM2:=jJ hM
 have HB2:Hid (Below w0.heap.size w0 w2):=jJ (HBW.out.trans ((HB1.out.trans (hb2.mono HB1.out.size)).mono HBW.out.size))
 have HJ2:Hid (J [] (OWy gw gc [x] none) w2):=jJ (hJ [] (fun _=>False) _ w1 w2 HJ1.out (Only.of_below hb2 _) (fun k hk'=>by
  rcases hk' with rfl | rfl | e | ⟨z,hz,e⟩
  · exact .inr hgw
  · exact .inr hgc
  · cases e
  rw [List.mem_singleton.1 hz] at e
  obtain ⟨k',e',hk''⟩:=hk
  rw [e] at e'
  injection e' with e'
  exact .inr (by omega)) fun k hk'=>(hM.ow_ge hk').2)
 have HSI:Hid (SimS m T [root / 3] (seen0 (cv T) root) [startX (oppC T) root] come [x]):=jJ (SimS.start hSph hr (by rw [List.map_cons,List.map_nil,hx]) hcm)
 clear hM hb2 hgw hgc hk hx hcm HJ1 HB1 HBE HCK HC c1 c2 H0
 refine wpIn_loop_by (StS w0 g gw gc m b1 b2 root l T J) T.length ⟨_,_,_,_,_,_,_,_,_,_,_,_,_,_,_,_,_,_,_,_,_,_,_,[root / 3],seen0 (cv T) root,[startX (oppC T) root],come,[x],none,0,[],rfl,HSI.out,HM2.out,HB2.out,HJ2.out,rfl,by simp,rfl⟩ ?_
 clear HSI HM2 HB2 HJ2
 rintro k a V ⟨x3,x5,x6,x7,x8,x9,x10,x11,x12,x13,x14,x15,x16,x17,x18,x19,x20,x21,x22,x23,x24,x25,x26,vis,seen,Ls,come,M,Aw,cw,xs,rfl,hsi,hM,hB,hJx,hwd,hvk,hxv⟩
 have HM:=jJ hM
 have HB:=jJ hB
 have HJx:=jJ hJx
 have HSI:=jJ hsi
 have HWD:=jJ hwd
 have HXV:=jJ hxv
 have HVK:=jJ hvk
 clear hM hB hJx hwd hxv hvk
 match Ls,M,hsi,HM,HSI,HWD,HJx with
 | [],x :: r,hsi,_,_,_,_=>exact absurd hsi.lp (by simp)
 | L :: Ls,[],hsi,_,_,_,_=>exact absurd hsi.lp (by simp)
 | [] :: Ls,x :: r,hsi,_,_,_,_=>exact absurd (hsi.inv.len [] (.head _)) (by simp)
 | [],[],hsi,HM,HSI,HWD,HJx =>
  have HST:Hid (Calls Tryz.prog 37 #[.pointer (some ⟨gw,0,none⟩)] V (fun e W'=>e=.returned (.tuple #[.agg #[.int .u8 0,.int .i64 0,.int .i64 0,.int .i64 0],.bool false]) ∧ Below V.heap.size V W')):=jJ (wstep_no V w0.heap.size g gw gc m cw come Aw HM.out)
  clear hsi
  gi_wp2_with (refine ⟨trivial,?_⟩; gi_at_call 37; refine (callsIn_wide.2 HST.out).mono ?_; rintro e w3 ⟨rfl,hb3⟩; have HJ3:=jJ (hJ xs (OWy gw gc [] Aw) (OWy gw gc [] Aw) V w3 HJx.out (Only.of_below hb3 _) (fun k h=>.inl h) (fun k h=>Nat.lt_of_lt_of_le (HM.out.ow_ge h).2 hb3.size)); have HL3:=jJ (fun k (h:OWy gw gc [] Aw k)=>Nat.lt_of_lt_of_le (HM.out.ow_ge h).2 hb3.size); clear hb3)
  have hS0:xs.map (·.k)=wordX T.length (oppC T) (cv T) root:=by
   have:=HWD.out
   have e:(runX (oppC T) (cv T) k seen []).1=[]:=by cases k <;> rfl
   rw [e] at this
   simpa using this
  refine ⟨(fun f hf=>by cases hf),?_⟩
  gi_wp2
  refine bodyPost_ret (results_none rfl _ _ _) rfl ?_
  exact ⟨⟨_,rfl⟩,xs,OWy gw gc [] Aw,hS0,hJ xs _ _ w3 _ HJ3.out ((Only.refl _ _).alloc _) (fun k h=>.inl h) (fun k h=>by have:=HL3.out k h; rw [World.size_alloc]; omega)⟩
 | (x0 :: l0) :: more,x :: r,hsi,HM,HSI,HWD,HJx =>
  obtain ⟨v,hv,hvm,hx0,hce,hx1,hr1,hi⟩:=hsi.finds hSph HT.out.s HM.out.ln
  have HST:Hid (Calls Tryz.prog 37 #[.pointer (some ⟨gw,0,none⟩)] V (StepPost V w0.heap.size g gw gc m cw come x r Aw x0 v)):=jJ (wstep_yes w0 V g gw gc m cw T come x r Aw x0 v HT.out HB.out HM.out hx0 hv hvm hce (by omega) (by omega) hi)
  have HVX:=jJ hv
  have hk1:∃ j,k=j + 1:=by
   obtain ⟨q0,q1,q2,q3⟩:=hsi.inv.cur
   have hle:(x0 / 3 :: vis).length ≤ T.length:=nodup_leN _ (List.nodup_cons.2 ⟨q2,hsi.inv.vnd⟩) fun z hz=>by
    rcases List.mem_cons.1 hz with rfl | hz
    · omega
    exact hsi.inv.vlt z hz
   rw [List.length_cons] at hle
   have:=HVK.out
   exact ⟨k - 1,by omega⟩
  obtain ⟨j,rfl⟩:=hk1
  have hxl:xs.length < T.length:=by
   obtain ⟨q0,q1,q2,q3⟩:=hsi.inv.cur
   have hle:(x0 / 3 :: vis).length ≤ T.length:=nodup_leN _ (List.nodup_cons.2 ⟨q2,hsi.inv.vnd⟩) fun z hz=>by
    rcases List.mem_cons.1 hz with rfl | hz
    · omega
    exact hsi.inv.vlt z hz
   rw [List.length_cons] at hle
   have:=HXV.out
   omega
  clear hsi hce hx1 hr1 hi hv
  obtain ⟨lr,hlr⟩:=jX r.length
  obtain ⟨lx,hlx⟩:=jX x.2.length
  have HLR:=jJ hlr
  have HLX:=jJ hlx
  have HSP:Hid (Calls Tryz.prog 37 #[.pointer (some ⟨gw,0,none⟩)] V (fun e W'=>∃ (kk:Nat) (come':List Bool) (M':List Way) (Aw':Option Addr) (cw':Nat),e=.returned (.tuple #[.agg #[.int .u8 (kk:Int),.int .i64 (x0:Int),.int .i64 (lr:Int),.int .i64 (lx:Int)],.bool true]) ∧
    stepL come x.2 (r.map (·.2)) v=(kk,come',M'.map (·.2)) ∧ WyAt W' w0.heap.size g gw gc m come' M' Aw' cw' ∧ Only (OWy gw gc (x :: r) Aw) V W' ∧ ∀ b,OWy gw gc M' Aw' b → OWy gw gc (x :: r) Aw b ∨ V.heap.size ≤ b)):=by rw [hlr,hlx]; exact HST
  clear hlr hlx HST
  have HY4:Hid (∀ (w3:World) (kk:Nat) (M':List Way) (Aw':Option Addr),Only (OWy gw gc (x :: r) Aw) V w3 → (∀ b,OWy gw gc M' Aw' b → OWy gw gc (x :: r) Aw b ∨ V.heap.size ≤ b) → (∀ b,OWy gw gc M' Aw' b → b < w3.heap.size) →
    ∃ fn tm asg bod,(Instr.yield l #[.agg #[.int .u8 (kk:Int),.int .i64 (x0:Int),.int .i64 (lr:Int),.int .i64 (lx:Int)]]).run Tryz.prog (w3.alloc (.cells #[.int .u8 (kk:Int),.int .i64 (x0:Int),.int .i64 (lr:Int),.int .i64 (lx:Int)] 55))=.ok (.round l fn tm asg bod) (w3.alloc (.cells #[.int .u8 (kk:Int),.int .i64 (x0:Int),.int .i64 (lr:Int),.int .i64 (lx:Int)] 55)) ∧
     RoundIn Fence.wide (n - 1) Tryz.prog l fn tm asg bod (w3.alloc (.cells #[.int .u8 (kk:Int),.int .i64 (x0:Int),.int .i64 (lr:Int),.int .i64 (lx:Int)] 55)) (fun e W2=>e=.returned (.bool true) ∧ J (xs ++ [⟨kk,x0,lr,lx,hx0⟩]) (OWy gw gc M' Aw') W2 ∧ Only (fun k=>¬ OWy gw gc M' Aw' k ∧ w0.heap.size ≤ k) (w3.alloc (.cells #[.int .u8 (kk:Int),.int .i64 (x0:Int),.int .i64 (lr:Int),.int .i64 (lx:Int)] 55)) W2)):=jJ fun w3 kk M' Aw' ho how hlt=>by
   have h3:=hJ xs _ (OWy gw gc M' Aw') V w3 HJx.out ho how hlt
   have h4:=hJ xs _ (OWy gw gc M' Aw') w3 (w3.alloc (.cells #[.int .u8 (kk:Int),.int .i64 (x0:Int),.int .i64 (lr:Int),.int .i64 (lx:Int)] 55)) h3 ((Only.refl _ _).alloc _) (fun k h=>.inl h) (fun k h=>by have:=hlt k h; rw [World.size_alloc]; omega)
   exact hY xs ⟨kk,x0,lr,lx,hx0⟩ (OWy gw gc M' Aw') _ h4 hxl
  gi_wp2_with (first
   | (refine ⟨trivial,?_⟩; gi_at_call 37; refine (callsIn_wide.2 HSP.out).mono ?_; rintro e w3 ⟨kk,come',M',Aw',cw',rfl,hst,hM3,ho3,how⟩; obtain ⟨fn,tm,asg,bod,hy,hR⟩:=HY4.out w3 kk M' Aw' ho3 how (fun b h=>(hM3.ow_ge h).2); have HR:=jJ hR; have HM3:=jJ hM3; have HO3:=jJ ho3; have HSTP:=jJ hst; clear hR hM3 ho3 how hst))
  refine HR.out.mono ?_
  rintro e w5 ⟨rfl,hJ5,hO5⟩
  have HJ5:=jJ hJ5
  have HO5:=jJ hO5
  clear hJ5 hO5 hy
  gi_wp2
  obtain ⟨hsim,hkk⟩:=HSI.out.step hSph HT.out.s HM.out.cl HVX.out HSTP.out
  have hM5:=(HM3.out.alloc (.cells #[.int .u8 (kk:Int),.int .i64 (x0:Int),.int .i64 (lr:Int),.int .i64 (lx:Int)] 55)).only HO5.out (fun k hk h=>h.1 hk)
  have hB5:Below w0.heap.size w0 w5:=(HB.out.trans (HO3.out.below HB.out.size fun k hk h=>by have:=(HM.out.ow_ge h).1; omega)).trans ((bw_alloc (Below.refl _ _) _).mono (Nat.le_trans HB.out.size HO3.out.size) |>.trans (HO5.out.below (by rw [World.size_alloc]; have:=HB.out.size; have:=HO3.out.size; omega) fun k hk h=>by have:=h.2; omega))
  refine ⟨j,rfl,_,_,_,_,_,_,_,_,_,_,_,_,_,_,_,_,_,_,_,_,_,_,_,x0 / 3 :: vis,_,_,come',M',Aw',cw',xs ++ [⟨kk,x0,lr,lx,hx0⟩],rfl,hsim,hM5,hB5,HJ5.out,?_,?_,?_⟩
  · have:=HWD.out
    rw [← this,← hkk]
    show _=xs.map (·.k) ++ (stepX (oppC T) (cv T) seen x0 l0 more).1 :: ((runX (oppC T) (cv T) j _ _).1.map Prod.fst)
    rw [List.map_append,List.append_assoc]
    rfl
  · have:=HVK.out
    rw [List.length_cons]
    omega
  have:=HXV.out
  simp only [List.length_append,List.length_cons,List.length_nil]
  omega
end Go.Proofs.YtffmfhkiienmaaaGreat
