/- walk.Walk of a sphere, walked. No condition but sizes. -/
import Derived.Test.YtffmfhkiienmaaaGreatWySeq
import Derived.Test.YtffmfhkiienmaaaGreatWq5
import Derived.Test.YtffmfhkiienmaaaGreatCollI
import Derived.Maps.OwnIn
set_option maxRecDepth 100000
set_option maxHeartbeats 16000000
set_option linter.all false
namespace Go.Proofs.YtffmfhkiienmaaaGreat
open Go.RowKit Go.Shelf Go.Maps
theorem shareW0 {G:World → Prop} {R:Prop} (F:World → Prop) (use:(∀ W,F W → G W) → R) (pf:∀ W,F W → G W):R:=use pf
theorem shareW1 {G:World → Nat → Prop} {R:Prop} (F:World → Nat → Prop) (use:(∀ W a,F W a → G W a) → R) (pf:∀ W a,F W a → G W a):R:=use pf
theorem shareW2 {G:World → Nat → Nat → Prop} {R:Prop} (F:World → Nat → Nat → Prop) (use:(∀ W a b,F W a b → G W a b) → R) (pf:∀ W a b,F W a b → G W a b):R:=use pf
theorem shareW3 {G:World → Nat → Nat → Nat → Prop} {R:Prop} (F:World → Nat → Nat → Nat → Prop) (use:(∀ W a b c,F W a b c → G W a b c) → R) (pf:∀ W a b c,F W a b c → G W a b c):R:=use pf
theorem wp_quiet {c:Code} {P:Program} {K:Act → World → Prop} {R:Exit → Act → World → Prop} {a:Act} {w:World} (h:c.wp P (Exit.then K (fun _ _ _=>False)) a w):c.wp P (Exit.then K R) a w :=
 wp_mono h fun e a w hx=>by
  cases e with
  | normal=>exact hx
  | _=>exact hx.elim
structure TrW (w:World) (bt b4 g:Nat) (W:World):Prop where
 xb:Below w.heap.size w W
 xt:Blk W bt 25 #[.pointer (some ⟨g,0,none⟩)]
 xr:Blk W b4 32 #[.string ⟨#[]⟩,.slice none 0 0,.slice none 0 0]
theorem TrW.below {w W W2:World} {bt b4 g:Nat} (h:TrW w bt b4 g W) (hb:Below W.heap.size W W2):TrW w bt b4 g W2:=⟨bw_call h.xb hb,blk_call h.xt hb,blk_call h.xr hb⟩
theorem TrW.drew {w W:World} {bt b4 g:Nat} (h:TrW w bt b4 g W):TrW w bt b4 g W.drew:=⟨bw_drew h.xb,h.xt.drew,h.xr.drew⟩
theorem TrW.alloc {w W:World} {bt b4 g:Nat} (h:TrW w bt b4 g W) (o:Obj):TrW w bt b4 g (W.alloc o):=⟨bw_alloc h.xb o,h.xt.alloc o,h.xr.alloc o⟩
structure TraceAt (w:World) (g bt b4 gD gV gC:Nat) (root:Int) (a b d:Nat) (W:World):Prop where
 xb:Below w.heap.size w W
 xt:Blk W bt 25 #[.pointer (some ⟨g,0,none⟩)]
 xr:Blk W b4 32 #[.string ⟨#[]⟩,.slice none 0 0,.slice none 0 0]
 xd:Blk W gD 32 #[.string ⟨#[]⟩,.slice (some ⟨gV,0,none⟩) 3 3,.slice (some ⟨gC,0,none⟩) 1 1]
 xv:Blk W gV 3 #[.int .i64 (a:Int),.int .i64 (b:Int),.int .i64 (d:Int)]
 xc:Blk W gC 3 #[.int .i64 root]
 vc:gV ≠ gC
 lv:w.heap.size ≤ gV
 lc:w.heap.size ≤ gC
 ld:w.heap.size ≤ gD
 l4:b4 < gD
theorem TraceAt.mk_ {w W:World} {g bt b4 gD gV gC a b d:Nat} {root:Int} (h:TrW w bt b4 g W) (hv:Blk W gV 3 #[.int .i64 (a:Int),.int .i64 (b:Int),.int .i64 (d:Int)]) (hc:Blk W gC 3 #[.int .i64 root])
  (hd:Blk W gD 32 #[.string ⟨#[]⟩,.slice none 0 0,.slice none 0 0]) (lv:w.heap.size ≤ gV) (lc:w.heap.size ≤ gC) (ld:w.heap.size ≤ gD) (l4:b4 < gD) (hn:gV ≠ gC) :
  TraceAt w g bt b4 gD gV gC root a b d (((W.setCell ⟨gD,0,none⟩ (.string ⟨#[]⟩)).setCell ⟨gD,1,none⟩ (.slice (some ⟨gV,0,none⟩) 3 3)).setCell ⟨gD,2,none⟩ (.slice (some ⟨gC,0,none⟩) 1 1)):=by
 have n1:=h.xt.ne_ hd (by decide)
 have n2:=hv.ne_ hd (by decide)
 have n3:=hc.ne_ hd (by decide)
 have F:∀ {x:Nat} {t:TypeId} {cs:Array Value},Blk W x t cs → x ≠ gD → Blk (((W.setCell ⟨gD,0,none⟩ (.string ⟨#[]⟩)).setCell ⟨gD,1,none⟩ (.slice (some ⟨gV,0,none⟩) 3 3)).setCell ⟨gD,2,none⟩ (.slice (some ⟨gC,0,none⟩) 1 1)) x t cs:=fun h hx=>((h.far (p:=⟨gD,0,none⟩) hx _).far (p:=⟨gD,1,none⟩) hx _).far (p:=⟨gD,2,none⟩) hx _
 exact ⟨bw_set (bw_set (bw_set h.xb (p:=⟨gD,0,none⟩) ld _) (p:=⟨gD,1,none⟩) ld _) (p:=⟨gD,2,none⟩) ld _,F h.xt n1,F h.xr (by omega),by simpa using ((hd.set_ 0 _).set_ 1 _).set_ 2 _,F hv n2,F hc n3,hn,lv,lc,ld,l4⟩
def WkI (w:World) (F bt b4 bb gD g:Nat) (xs:List (WStep F)) (O:Nat → Prop) (W:World):Prop :=
 ∃ (nv nc:Nat) (Vs Cs:List Value) (Aw Av Ac:Option Addr) (cw cv cc:Nat),TrI W w.heap.size bt b4 bb gD g xs.length nv nc (xs.map fun x=>.int .u8 (x.k:Int)) Vs Cs Aw Av Ac cw cv cc O ∧ Below w.heap.size w W ∧ nv ≤ 3 + xs.length ∧ nc ≤ 1 + xs.length ∧ ∀ k,O k → w.heap.size ≤ k
theorem WkI.start {w W:World} {g bt b4 gD gV gC a b d:Nat} {root:Int} (F:Nat) (h:TraceAt w g bt b4 gD gV gC root a b d W) (hb:w.heap.size ≤ bt ∧ w.heap.size ≤ b4) {W3:World} (hb3:Below (W.alloc (.cells #[.slice none 0 0] 50)).heap.size (W.alloc (.cells #[.slice none 0 0] 50)) W3) :
  WkI w F bt b4 W.heap.size gD g [] (fun _=>False) W3:=by
 have hv:W.ownsRow w.heap.size 3 1 (.slice (some ⟨gV,0,none⟩) 3 3) 3 [.int .i64 (a:Int),.int .i64 (b:Int),.int .i64 (d:Int)]:=own_of_cells h.xv h.lv rfl (by simp) (by simp [maxLen]) fun j u hj=>by
  rw [h.xv.cell]
  match j,hj with
  | 0,hj=>simpa using hj
  | 1,hj=>simpa using hj
  | 2,hj=>simpa using hj
 have hc:W.ownsRow w.heap.size 3 1 (.slice (some ⟨gC,0,none⟩) 1 1) 1 [.int .i64 root]:=own_of_cells h.xc h.lc rfl (by simp) (by simp [maxLen]) fun j u hj=>by
  rw [h.xc.cell]
  match j,hj with
  | 0,hj=>simpa using hj
 have ho:Only (fun _=>False) W W3:=((Only.refl _ _).alloc _).trans (Only.of_below hb3 _)
 refine ⟨3,1,[.int .i64 (a:Int),.int .i64 (b:Int),.int .i64 (d:Int)],[.int .i64 root],none,some ⟨gV,0,none⟩,some ⟨gC,0,none⟩,0,3,1,?_,((h.xb.trans (((Only.refl (fun _=>False) W).alloc (.cells #[.slice none 0 0] 50)).below h.xb.size fun _ _ h=>h)).trans (hb3.mono (by rw [World.size_alloc]; have:=h.xb.size; omega))),by simp,by simp⟩
 exact ⟨h.xt.only ho fun h=>h,h.xr.only ho fun h=>h,Nat.ne_of_lt h.l4,blk_call (Blk.new W _ _) hb3,h.xd.only ho fun h=>h,World.ownsRow_nil _ _ _ _,own_same hv fun k hk=>ho.block k (hv.lt k hk).2 fun h=>h,own_same hc fun k hk=>ho.block k (hc.lt k hk).2 fun h=>h,fun k e e'=>by
  simp [Value.ownBlock] at e e'
  exact h.vc (e.trans e'.symm),⟨hb,h.xb.size,h.ld⟩,fun k hk=>hk.elim⟩
theorem blk_put {W:World} {g r:Nat} {t:TypeId} {cs:Array Value} {o o':Obj} (h:Blk W g t cs) (hr:W.heap[r]?=some o) (hc:o.isCells=false):Blk (W.putObj r o') g t cs:=by
 have hne:g ≠ r:=fun e=>by
  subst e
  unfold Blk at h
  rw [h] at hr
  injection hr with hr
  rw [← hr] at hc
  cases hc
 unfold Blk at h ⊢
 exact (World.putObj_heap_other hne).trans h
theorem only_put1 (W:World) (r:Nat) (o':Obj):Only (fun k=>k=r) W (W.putObj r o'):=⟨rfl,rfl,rfl,by simp,fun k hk hn=>World.putObj_heap_other hn⟩
section
variable {w A B W:World} {F bt b4 bb gD g:Nat} {xs:List (WStep F)} {O O':Nat → Prop}
theorem WkI.comes (h:WkI w F bt b4 bb gD g xs O A) (ho:Only O A B) (h1:∀ k,O' k → O k ∨ A.heap.size ≤ k) (h2:∀ k,O' k → k < B.heap.size):WkI w F bt b4 bb gD g xs O' B:=by
 obtain ⟨nv,nc,Vs,Cs,Aw,Av,Ac,cw,cv,cc,hT,hb,h3,h4,h5⟩:=h
 refine ⟨nv,nc,Vs,Cs,Aw,Av,Ac,cw,cv,cc,hT.comes ho h1 h2,hb.trans (ho.below hb.size fun k hk hO=>by have:=h5 k hO; omega),h3,h4,fun k hk=>?_⟩
 rcases h1 k hk with h' | h'
 · exact h5 k h'
 exact Nat.le_trans hb.size h'
theorem WkI.put {r:Nat} {o o':Obj} (h:WkI w F bt b4 bb gD g xs O W) (hr:W.heap[r]?=some o) (hc:o.isCells=false) (hle:w.heap.size ≤ r):WkI w F bt b4 bb gD g xs O (W.putObj r o'):=by
 obtain ⟨nv,nc,Vs,Cs,Aw,Av,Ac,cw,cv,cc,hT,hb,h3,h4,h5⟩:=h
 exact ⟨nv,nc,Vs,Cs,Aw,Av,Ac,cw,cv,cc,hT.put hr hc,hb.trans ((only_put1 W r o').below hb.size fun k hk e=>by omega),h3,h4,h5⟩
theorem WkI.quiet (h:WkI w F bt b4 bb gD g xs O A) (ho:Only (fun _=>False) A B):WkI w F bt b4 bb gD g xs O B:=by
 obtain ⟨nv,nc,Vs,Cs,Aw,Av,Ac,cw,cv,cc,hT,hb,h3,h4,h5⟩:=h
 exact ⟨nv,nc,Vs,Cs,Aw,Av,Ac,cw,cv,cc,hT.quiet ho,hb.trans (ho.below hb.size fun _ _ h=>h),h3,h4,h5⟩
theorem WkI.of {nv nc:Nat} {Vs Cs:List Value} {Aw Av Ac:Option Addr} {cw cv cc:Nat} {x:WStep F} {W':World} (h:TrI W' w.heap.size bt b4 bb gD g (xs.length + 1) nv nc ((xs.map fun x=>.int .u8 (x.k:Int)) ++ [.int .u8 (x.k:Int)]) Vs Cs Aw Av Ac cw cv cc O) (hb:Below w.heap.size w W) (ht:Told w.heap.size O W W')
  (h3:nv ≤ 3 + (xs.length + 1)) (h4:nc ≤ 1 + (xs.length + 1)) (h5:∀ k,O k → w.heap.size ≤ k):roundO w.heap.size (fun xs O W=>WkI w F bt b4 bb gD g xs O W) (xs ++ [x]) O W .normal { tmps:=#[],defers:=[] } W':=by
 refine ⟨ht.1,ht.2,nv,nc,Vs,Cs,Aw,Av,Ac,cw,cv,cc,?_,hb.trans (ht.2.below hb.size fun k hk h=>by have:=h.2; omega),by rw [List.length_append]; exact h3,by rw [List.length_append]; exact h4,h5⟩
 rw [List.map_append,List.length_append]
 exact h
end
def wordB (l:List Nat):Value:=.string ⟨(l.map fun k=>UInt8.ofNat k).toArray⟩
theorem fold_push8:∀ (l:List Nat) (s:List UInt8),(l.map fun b:Nat=>(b:Int)).foldl (fun (r:ByteArray) (n:Int)=>r.push (UInt8.ofNat n.toNat)) ⟨s.toArray⟩=⟨(s ++ l.map fun k=>UInt8.ofNat k).toArray⟩
 | [],s=>by simp
 | b :: l,s=>by
  rw [List.map_cons,List.foldl_cons]
  have e:(⟨s.toArray⟩:ByteArray).push (UInt8.ofNat ((b:Int)).toNat)=⟨(s ++ [UInt8.ofNat b]).toArray⟩:=by
   rw [Int.toNat_natCast]
   simp [ByteArray.push]
  rw [e,fold_push8 l (s ++ [UInt8.ofNat b])]
  simp
theorem conv_word {w:World} {B n c:Nat} {A:Option Addr} {l:List Nat} {vs:List Value} (h:w.ownsRow B 5 1 (.slice A n c) n vs) (hv:vs=l.map fun k:Nat=>.int .u8 (k:Int)):Sem.run Tryz.prog (convert 50 9 (.slice A n c)) w=.ok (wordB l) w:=by
 subst hv
 replace h:=Reads.of_own h
 have hl:l.length=n:=by have:=h.1; rw [List.length_map] at this; omega
 rw [run_convert_bytes_string w 50 9 5 A n c Tryz.underlying50 Tryz.underlying5 Tryz.underlying9]
 cases A with
 | none =>
  have h0:n=0:=by
   rcases Nat.eq_zero_or_pos n with h0 | h0
   · exact h0
   obtain ⟨_,h',_⟩:=h.2 h0; cases h'
  have:l=[]:=List.length_eq_zero_iff.1 (by omega)
  subst this
  rfl
 | some a =>
  have hB:(l.map fun b:Nat=>(b:Int)).map (Value.int .u8)=l.map fun k:Nat=>Value.int .u8 (k:Int):=by rw [List.map_map]; rfl
  have hld:Sem.run Tryz.prog (loadCells a n) w=.ok ((l.map fun b:Nat=>(b:Int)).map (Value.int .u8)).toArray w:=by
   rw [hB,← hl,← List.length_map (f:=fun k:Nat=>Value.int .u8 (k:Int))]
   refine run_loadCells_list w a _ fun j v hj=>?_
   have h0:0 < n:=by have:=(List.getElem?_eq_some_iff.1 hj).1; rw [List.length_map] at this; omega
   obtain ⟨ad,e,_,hc⟩:=h.2 h0
   injection e with e
   subst e
   exact hc j v hj
  rw [run_bytesToString (P:=Tryz.prog) w a n c _ hld]
  have:=fold_push8 l []
  unfold wordB
  rw [List.nil_append] at this
  rw [← this]
  rfl
def WalkPost (w:World) (T:List Tri) (root:Nat) (e:Ending) (w':World):Prop :=
 ∃ (Av Ac:Option Addr) (nv cv' nc cc:Nat),e=.returned (.tuple #[.agg #[wordB (wordX T.length (oppC T) (cv T) root),.slice Av nv cv',.slice Ac nc cc],.int .i64 0]) ∧ Below w.heap.size w w'
attribute [local go_sem] Oper.semAt_some
attribute [local irreducible] Blk World.alloc World.setCell World.cell? World.frozen? MapV MapI
theorem walk_any (g m:Nat) (T:List Tri) (root:Nat) (w:World) (hT:TabN w g m T) (hS:SphT m T) (hr:root < 3 * T.length) (hF:T.length ≤ 300) :
  Calls Tryz.prog 7 #[.pointer (some ⟨g,0,none⟩),.int .i64 (root:Int)] w (WalkPost w T root):=by
 have HT:=jJ hT
 have HS:=jJ hS
 obtain ⟨a0,a1⟩:=cv_bd hT.s hr
 obtain ⟨b0,b1⟩:=cv_bd hT.s (nxc_lt hr)
 obtain ⟨d0,d1⟩:=cv_bd hT.s (pvc_lt hr)
 obtain ⟨a,ha⟩:=Int.eq_ofNat_of_zero_le a0
 obtain ⟨b,hb⟩:=Int.eq_ofNat_of_zero_le b0
 obtain ⟨d,hd⟩:=Int.eq_ofNat_of_zero_le d0
 have HV:Hid (∀ V:World,Below w.heap.size w V → Calls Tryz.prog 17 #[.pointer (some ⟨g,0,none⟩),.int .i64 (root:Int)] V (IntPost V (a:Int))):=jJ fun V hV=>by
  have:=(hT.below hV).vertex hr
  rw [ha] at this
  exact this
 have HVN:Hid (∀ V:World,Below w.heap.size w V → Calls Tryz.prog 17 #[.pointer (some ⟨g,0,none⟩),.int .i64 (nxc root:Int)] V (IntPost V (b:Int))):=jJ fun V hV=>by
  have:=(hT.below hV).vertex (nxc_lt hr)
  rw [hb] at this
  exact this
 have HVP:Hid (∀ V:World,Below w.heap.size w V → Calls Tryz.prog 17 #[.pointer (some ⟨g,0,none⟩),.int .i64 (pvc root:Int)] V (IntPost V (d:Int))):=jJ fun V hV=>by
  have:=(hT.below hV).vertex (pvc_lt hr)
  rw [hd] at this
  exact this
 have HN:Hid (∀ V:World,Below w.heap.size w V → Calls Tryz.prog 18 #[.pointer (some ⟨g,0,none⟩),.int .i64 (root:Int)] V (IntPost V (nxc root:Int))):=jJ fun V hV=>(hT.below hV).next hr
 have HP:Hid (∀ V:World,Below w.heap.size w V → Calls Tryz.prog 19 #[.pointer (some ⟨g,0,none⟩),.int .i64 (root:Int)] V (IntPost V (pvc root:Int))):=jJ fun V hV=>(hT.below hV).prev hr
 have HCK:Hid (∀ V:World,Below w.heap.size w V → Calls Tryz.prog 16 #[.pointer (some ⟨g,0,none⟩),.int .i64 (root:Int)] V (IntPost V 0)):=jJ fun V hV=>wcheck_any g m T root V (hT.below hV) hS hr
 clear hT hS ha hb hd a0 a1 b0 b1 d0 d1
 refine callsIn_wide.1 (callsIn_of_wp_marks (F:=Fence.wide) (n:=8) Tryz.func7 rfl trivial ?_ rfl)
 simp only [Tryz.ntmps7,List.size_toArray,List.length_cons,List.length_nil,Nat.reduceAdd,Nat.reduceSub,Array.replicate_succ,Array.replicate_zero,List.push_toArray,List.append_toArray,List.nil_append,List.cons_append]
 refine wpIn_wide.2 ?_
 go_upto_region 1 with (fail)
 obtain ⟨bt,hbt⟩:=jX w.heap.size
 obtain ⟨b4,hb4⟩:=jX (w.heap.size + 1)
 have HTW:Hid (TrW w bt b4 g ((w.alloc (.cells #[.pointer (some ⟨g,0,none⟩)] 25)).alloc (.cells #[.string ⟨#[]⟩,.slice none 0 0,.slice none 0 0] 32))):=jJ ⟨bw_alloc (bw_alloc (Below.refl _ _) _) _,hbt ▸ (Blk.new w _ _).alloc _,Blk.new_ (by rw [World.size_alloc,hb4]) _ _⟩
 (try rw [← hb4])
 (try rw [← hbt])
 have HGE:Hid (w.heap.size ≤ bt ∧ w.heap.size ≤ b4 ∧ bt < b4):=jJ ⟨by omega,by omega,by omega⟩
 clear hbt hb4
 obtain ⟨wc,hwc⟩:=jX ((w.alloc (.cells #[.pointer (some ⟨g,0,none⟩)] 25)).alloc (.cells #[.string ⟨#[]⟩,.slice none 0 0,.slice none 0 0] 32))
 rw [← hwc] at HTW ⊢
 clear hwc
 have c1:=HTW.out.xt.cell 0
 simp at c1
 go_wp2_with (go_at_call 16; refine (HCK.out wc HTW.out.xb).mono ?_; rintro e w0 ⟨rfl,hb⟩; have HT0:=jJ (HTW.out.below hb); have c1:=HT0.out.xt.cell 0; simp at c1; clear hb)
 clear HTW
 have HTW:=HT0
 clear HT0
 go_upto_region 4 with (fail)
 go_cut [7] from 7 to 33 (fun v wx=>∃ gD gV gC:Nat,v=.pointer (some ⟨gD,0,none⟩) ∧ Hid (TraceAt w g bt b4 gD gV gC ((root:Nat):Int) a b d wx))
 case first =>
  refine wp_quiet ?_
  refine wp_region_till (S:=fun w'=>w'.cell? ⟨bt,0,none⟩=some (.pointer (some ⟨g,0,none⟩))) 18 (by kernel_rfl) (HTW.out.drew.xt.cell 0) (fun hHeld=>?_)
  refine tKk 0 ?_; (try simp only [zQ])
  refine tKk 1 ?_; (try simp only [zQ])
  refine tKk 3 ?_; (try simp only [zQ])
  refine tKk 4 ?_; (try simp only [zQ])
  refine tKk 5 ?_; (try simp only [zQ])
  refine tKk 8 ?_; (try simp only [zQ])
  refine tKk 9 ?_; (try simp only [zQ])
  refine tKk 10 ?_; (try simp only [zQ])
  refine tKk 14 ?_; (try simp only [zQ])
  refine id ?zz
  apply shareW3 (fun W gV gC gD=>TrW w bt b4 g W ∧ (Blk W gV 3 #[.int .i64 (a:Int),.int .i64 (b:Int),.int .i64 (d:Int)] ∧ w.heap.size ≤ gV) ∧ (Blk W gC 3 #[.int .i64 (root:Int)] ∧ w.heap.size ≤ gC) ∧ (Blk W gD 32 #[.string ⟨#[]⟩,.slice none 0 0,.slice none 0 0] ∧ w.heap.size ≤ gD ∧ b4 < gD) ∧ gV ≠ gC)
  case' use=>intro LEM612
  apply shareW2 (fun W gV gC=>TrW w bt b4 g W ∧ (Blk W gV 3 #[.int .i64 (a:Int),.int .i64 (b:Int),.int .i64 (d:Int)] ∧ w.heap.size ≤ gV) ∧ (Blk W gC 3 #[.int .i64 (root:Int)] ∧ w.heap.size ≤ gC) ∧ gV ≠ gC)
  case' use=>intro LEM61
  apply shareW2 (fun W gV gD=>TrW w bt b4 g W ∧ (Blk W gV 3 #[.int .i64 (a:Int),.int .i64 (b:Int),.int .i64 (d:Int)] ∧ w.heap.size ≤ gV) ∧ (Blk W gD 32 #[.string ⟨#[]⟩,.slice none 0 0,.slice none 0 0] ∧ w.heap.size ≤ gD ∧ b4 < gD))
  case' use=>intro LEM62
  apply shareW1 (fun W gV=>TrW w bt b4 g W ∧ (Blk W gV 3 #[.int .i64 (a:Int),.int .i64 (b:Int),.int .i64 (d:Int)] ∧ w.heap.size ≤ gV))
  case' use=>intro LEM6
  apply shareW2 (fun W gC gD=>TrW w bt b4 g W ∧ (Blk W gC 3 #[.int .i64 (root:Int)] ∧ w.heap.size ≤ gC) ∧ (Blk W gD 32 #[.string ⟨#[]⟩,.slice none 0 0,.slice none 0 0] ∧ w.heap.size ≤ gD ∧ b4 < gD))
  case' use=>intro LEM512
  apply shareW1 (fun W gC=>TrW w bt b4 g W ∧ (Blk W gC 3 #[.int .i64 (root:Int)] ∧ w.heap.size ≤ gC))
  case' use=>intro LEM51
  apply shareW1 (fun W gD=>TrW w bt b4 g W ∧ (Blk W gD 32 #[.string ⟨#[]⟩,.slice none 0 0,.slice none 0 0] ∧ w.heap.size ≤ gD ∧ b4 < gD))
  case' use=>intro LEM52
  apply shareW0 (fun W  => TrW w bt b4 g W)
  case' use=>intro LEM5
  apply shareW2 (fun W gC gD=>TrW w bt b4 g W ∧ (Blk W gC 3 #[.int .i64 (root:Int)] ∧ w.heap.size ≤ gC) ∧ (Blk W gD 32 #[.string ⟨#[]⟩,.slice none 0 0,.slice none 0 0] ∧ w.heap.size ≤ gD ∧ b4 < gD))
  case' use=>intro LEM412
  apply shareW1 (fun W gC=>TrW w bt b4 g W ∧ (Blk W gC 3 #[.int .i64 (root:Int)] ∧ w.heap.size ≤ gC))
  case' use=>intro LEM41
  apply shareW1 (fun W gD=>TrW w bt b4 g W ∧ (Blk W gD 32 #[.string ⟨#[]⟩,.slice none 0 0,.slice none 0 0] ∧ w.heap.size ≤ gD ∧ b4 < gD))
  case' use=>intro LEM42
  apply shareW0 (fun W  => TrW w bt b4 g W)
  case' use=>intro LEM4
  apply shareW2 (fun W gC gD=>TrW w bt b4 g W ∧ (Blk W gC 3 #[.int .i64 (root:Int)] ∧ w.heap.size ≤ gC) ∧ (Blk W gD 32 #[.string ⟨#[]⟩,.slice none 0 0,.slice none 0 0] ∧ w.heap.size ≤ gD ∧ b4 < gD))
  case' use=>intro LEM312
  apply shareW1 (fun W gC=>TrW w bt b4 g W ∧ (Blk W gC 3 #[.int .i64 (root:Int)] ∧ w.heap.size ≤ gC))
  case' use=>intro LEM31
  apply shareW1 (fun W gD=>TrW w bt b4 g W ∧ (Blk W gD 32 #[.string ⟨#[]⟩,.slice none 0 0,.slice none 0 0] ∧ w.heap.size ≤ gD ∧ b4 < gD))
  case' use=>intro LEM32
  apply shareW0 (fun W  => TrW w bt b4 g W)
  case' use=>intro LEM3
  apply shareW2 (fun W gC gD=>TrW w bt b4 g W ∧ (Blk W gC 3 #[.int .i64 (root:Int)] ∧ w.heap.size ≤ gC) ∧ (Blk W gD 32 #[.string ⟨#[]⟩,.slice none 0 0,.slice none 0 0] ∧ w.heap.size ≤ gD ∧ b4 < gD))
  case' use=>intro LEM212
  apply shareW1 (fun W gC=>TrW w bt b4 g W ∧ (Blk W gC 3 #[.int .i64 (root:Int)] ∧ w.heap.size ≤ gC))
  case' use=>intro LEM21
  apply shareW1 (fun W gD=>TrW w bt b4 g W ∧ (Blk W gD 32 #[.string ⟨#[]⟩,.slice none 0 0,.slice none 0 0] ∧ w.heap.size ≤ gD ∧ b4 < gD))
  case' use=>intro LEM22
  apply shareW0 (fun W  => TrW w bt b4 g W)
  case' use=>intro LEM2
  apply shareW2 (fun W gC gD=>TrW w bt b4 g W ∧ (Blk W gC 3 #[.int .i64 (root:Int)] ∧ w.heap.size ≤ gC) ∧ (Blk W gD 32 #[.string ⟨#[]⟩,.slice none 0 0,.slice none 0 0] ∧ w.heap.size ≤ gD ∧ b4 < gD))
  case' use=>intro LEM112
  apply shareW1 (fun W gC=>TrW w bt b4 g W ∧ (Blk W gC 3 #[.int .i64 (root:Int)] ∧ w.heap.size ≤ gC))
  case' use=>intro LEM11
  apply shareW1 (fun W gD=>TrW w bt b4 g W ∧ (Blk W gD 32 #[.string ⟨#[]⟩,.slice none 0 0,.slice none 0 0] ∧ w.heap.size ≤ gD ∧ b4 < gD))
  case' use=>intro LEM12
  apply shareW0 (fun W  => TrW w bt b4 g W)
  case' use=>intro LEM1
  apply shareW2 (fun W gC gD=>TrW w bt b4 g W ∧ (Blk W gC 3 #[.int .i64 (root:Int)] ∧ w.heap.size ≤ gC) ∧ (Blk W gD 32 #[.string ⟨#[]⟩,.slice none 0 0,.slice none 0 0] ∧ w.heap.size ≤ gD ∧ b4 < gD))
  case' use=>intro LEM012
  apply shareW1 (fun W gC=>TrW w bt b4 g W ∧ (Blk W gC 3 #[.int .i64 (root:Int)] ∧ w.heap.size ≤ gC))
  case' use=>intro LEM01
  apply shareW1 (fun W gD=>TrW w bt b4 g W ∧ (Blk W gD 32 #[.string ⟨#[]⟩,.slice none 0 0,.slice none 0 0] ∧ w.heap.size ≤ gD ∧ b4 < gD))
  case' use=>intro LEM02
  refine Till.ready (rs:=[2,15,17]) (by kernel_rfl) (by simp) ?_
  refine TillEach.cons rfl (fun K hK=>?_) ?_
  · go_simp
    go_wp2_with (go_at_call 17; refine (HV.out (w0.drew) (HTW.out.drew).xb).mono ?_; rintro e W2 ⟨rfl,hb⟩)
    have hS2:=(HTW.out.drew).below hb
    refine hK.out _ _ ?_ (fun hHeld=>?_)
    · exact hS2.xt.cell 0
    clear hK K hb
    (try simp only [zQ])
    exact LEM1 W2  hS2
  refine TillEach.cons rfl (fun K hK=>?_) ?_
  · go_simp
    obtain ⟨W2,hu⟩:=jX ((w0.alloc (.cells #[.int .i64 (root:Int)] 3)).drew)
    rw [← hu]
    have hS2:=(HTW.out.alloc (.cells #[.int .i64 (root:Int)] 3)).drew
    have hp12:=(Blk.new w0 3 #[.int .i64 (root:Int)]).drew
    have hv1:w.heap.size ≤ w0.heap.size:=HTW.out.xb.size
    obtain ⟨gC,hg⟩:=jX w0.heap.size
    rw [← hg] at hp12 hv1 ⊢
    rw [← hu] at hS2 hp12
    refine hK.out _ _ ?_ (fun hHeld=>?_)
    · exact hS2.xt.cell 0
    clear hK K hu hg
    (try simp only [zQ])
    exact LEM01 W2 gC ⟨hS2,⟨hp12,hv1⟩⟩
  refine TillEach.cons rfl (fun K hK=>?_) ?_
  · go_simp
    obtain ⟨W2,hu⟩:=jX ((w0.alloc (.cells #[.string ⟨#[]⟩,.slice none 0 0,.slice none 0 0] 32)).drew)
    rw [← hu]
    have hS2:=(HTW.out.alloc (.cells #[.string ⟨#[]⟩,.slice none 0 0,.slice none 0 0] 32)).drew
    have hp22:=(Blk.new w0 32 #[.string ⟨#[]⟩,.slice none 0 0,.slice none 0 0]).drew
    have hv2:w.heap.size ≤ w0.heap.size:=HTW.out.xb.size
    have hw2:b4 < w0.heap.size:=HTW.out.xr.lt
    obtain ⟨gD,hg⟩:=jX w0.heap.size
    rw [← hg] at hp22 hv2 hw2 ⊢
    rw [← hu] at hS2 hp22
    refine hK.out _ _ ?_ (fun hHeld=>?_)
    · exact hS2.xt.cell 0
    clear hK K hu hg
    (try simp only [zQ])
    exact LEM02 W2 gD ⟨hS2,⟨hp22,hv2,hw2⟩⟩
  exact TillEach.nil
  case pf =>
   intro W gD hF
   obtain ⟨hS,⟨hp2,hv2,hw2⟩⟩:=hF
   refine Till.ready (rs:=[2,15]) (by kernel_rfl) (by simp) ?_
   refine TillEach.cons rfl (fun K hK=>?_) ?_
   · go_simp
     go_wp2_with (go_at_call 17; refine (HV.out (W) (hS).xb).mono ?_; rintro e W2 ⟨rfl,hb⟩)
     have hS2:=(hS).below hb
     have hp22:=blk_call hp2 hb
     refine hK.out _ _ ?_ (fun hHeld=>?_)
     · exact hS2.xt.cell 0
     clear hK K hb
     (try simp only [zQ])
     exact LEM12 W2 gD ⟨hS2,⟨hp22,hv2,hw2⟩⟩
   refine TillEach.cons rfl (fun K hK=>?_) ?_
   · go_simp
     obtain ⟨W2,hu⟩:=jX (W.alloc (.cells #[.int .i64 (root:Int)] 3))
     rw [← hu]
     have hS2:=(hS.alloc (.cells #[.int .i64 (root:Int)] 3))
     have hp22:=(hp2.alloc (.cells #[.int .i64 (root:Int)] 3))
     have hp12:=(Blk.new W 3 #[.int .i64 (root:Int)])
     have hv1:w.heap.size ≤ W.heap.size:=hS.xb.size
     obtain ⟨gC,hg⟩:=jX W.heap.size
     rw [← hg] at hp12 hv1 ⊢
     rw [← hu] at hS2 hp12 hp22
     refine hK.out _ _ ?_ (fun hHeld=>?_)
     · exact hS2.xt.cell 0
     clear hK K hu hg
     (try simp only [zQ])
     exact LEM012 W2 gC gD ⟨hS2,⟨hp12,hv1⟩,⟨hp22,hv2,hw2⟩⟩
   exact TillEach.nil
  case pf =>
   intro W gC hF
   obtain ⟨hS,⟨hp1,hv1⟩⟩:=hF
   refine Till.ready (rs:=[2,17]) (by kernel_rfl) (by simp) ?_
   refine TillEach.cons rfl (fun K hK=>?_) ?_
   · go_simp
     go_wp2_with (go_at_call 17; refine (HV.out (W) (hS).xb).mono ?_; rintro e W2 ⟨rfl,hb⟩)
     have hS2:=(hS).below hb
     have hp12:=blk_call hp1 hb
     refine hK.out _ _ ?_ (fun hHeld=>?_)
     · exact hS2.xt.cell 0
     clear hK K hb
     (try simp only [zQ])
     exact LEM11 W2 gC ⟨hS2,⟨hp12,hv1⟩⟩
   refine TillEach.cons rfl (fun K hK=>?_) ?_
   · go_simp
     obtain ⟨W2,hu⟩:=jX (W.alloc (.cells #[.string ⟨#[]⟩,.slice none 0 0,.slice none 0 0] 32))
     rw [← hu]
     have hS2:=(hS.alloc (.cells #[.string ⟨#[]⟩,.slice none 0 0,.slice none 0 0] 32))
     have hp12:=(hp1.alloc (.cells #[.string ⟨#[]⟩,.slice none 0 0,.slice none 0 0] 32))
     have hp22:=(Blk.new W 32 #[.string ⟨#[]⟩,.slice none 0 0,.slice none 0 0])
     have hv2:w.heap.size ≤ W.heap.size:=hS.xb.size
     have hw2:b4 < W.heap.size:=hS.xr.lt
     obtain ⟨gD,hg⟩:=jX W.heap.size
     rw [← hg] at hp22 hv2 hw2 ⊢
     rw [← hu] at hS2 hp12 hp22
     refine hK.out _ _ ?_ (fun hHeld=>?_)
     · exact hS2.xt.cell 0
     clear hK K hu hg
     (try simp only [zQ])
     exact LEM012 W2 gC gD ⟨hS2,⟨hp12,hv1⟩,⟨hp22,hv2,hw2⟩⟩
   exact TillEach.nil
  case pf =>
   intro W gC gD hF
   obtain ⟨hS,⟨hp1,hv1⟩,⟨hp2,hv2,hw2⟩⟩:=hF
   refine Till.ready (rs:=[2]) (by kernel_rfl) (by simp) ?_
   refine TillEach.cons rfl (fun K hK=>?_) ?_
   · go_simp
     go_wp2_with (go_at_call 17; refine (HV.out (W) (hS).xb).mono ?_; rintro e W2 ⟨rfl,hb⟩)
     have hS2:=(hS).below hb
     have hp12:=blk_call hp1 hb
     have hp22:=blk_call hp2 hb
     refine hK.out _ _ ?_ (fun hHeld=>?_)
     · exact hS2.xt.cell 0
     clear hK K hb
     (try simp only [zQ])
     exact LEM112 W2 gC gD ⟨hS2,⟨hp12,hv1⟩,⟨hp22,hv2,hw2⟩⟩
   exact TillEach.nil
  case pf =>
   intro W  hS
   refine Till.ready (rs:=[6,15,17]) (by kernel_rfl) (by simp) ?_
   refine TillEach.cons rfl (fun K hK=>?_) ?_
   · go_simp
     go_wp2_with (go_at_call 18; refine (HN.out (W) (hS).xb).mono ?_; rintro e W2 ⟨rfl,hb⟩)
     have hS2:=(hS).below hb
     refine hK.out _ _ ?_ (fun hHeld=>?_)
     · exact hS2.xt.cell 0
     clear hK K hb
     (try simp only [zQ])
     exact LEM2 W2  hS2
   refine TillEach.cons rfl (fun K hK=>?_) ?_
   · go_simp
     obtain ⟨W2,hu⟩:=jX (W.alloc (.cells #[.int .i64 (root:Int)] 3))
     rw [← hu]
     have hS2:=(hS.alloc (.cells #[.int .i64 (root:Int)] 3))
     have hp12:=(Blk.new W 3 #[.int .i64 (root:Int)])
     have hv1:w.heap.size ≤ W.heap.size:=hS.xb.size
     obtain ⟨gC,hg⟩:=jX W.heap.size
     rw [← hg] at hp12 hv1 ⊢
     rw [← hu] at hS2 hp12
     refine hK.out _ _ ?_ (fun hHeld=>?_)
     · exact hS2.xt.cell 0
     clear hK K hu hg
     (try simp only [zQ])
     exact LEM11 W2 gC ⟨hS2,⟨hp12,hv1⟩⟩
   refine TillEach.cons rfl (fun K hK=>?_) ?_
   · go_simp
     obtain ⟨W2,hu⟩:=jX (W.alloc (.cells #[.string ⟨#[]⟩,.slice none 0 0,.slice none 0 0] 32))
     rw [← hu]
     have hS2:=(hS.alloc (.cells #[.string ⟨#[]⟩,.slice none 0 0,.slice none 0 0] 32))
     have hp22:=(Blk.new W 32 #[.string ⟨#[]⟩,.slice none 0 0,.slice none 0 0])
     have hv2:w.heap.size ≤ W.heap.size:=hS.xb.size
     have hw2:b4 < W.heap.size:=hS.xr.lt
     obtain ⟨gD,hg⟩:=jX W.heap.size
     rw [← hg] at hp22 hv2 hw2 ⊢
     rw [← hu] at hS2 hp22
     refine hK.out _ _ ?_ (fun hHeld=>?_)
     · exact hS2.xt.cell 0
     clear hK K hu hg
     (try simp only [zQ])
     exact LEM12 W2 gD ⟨hS2,⟨hp22,hv2,hw2⟩⟩
   exact TillEach.nil
  case pf =>
   intro W gD hF
   obtain ⟨hS,⟨hp2,hv2,hw2⟩⟩:=hF
   refine Till.ready (rs:=[6,15]) (by kernel_rfl) (by simp) ?_
   refine TillEach.cons rfl (fun K hK=>?_) ?_
   · go_simp
     go_wp2_with (go_at_call 18; refine (HN.out (W) (hS).xb).mono ?_; rintro e W2 ⟨rfl,hb⟩)
     have hS2:=(hS).below hb
     have hp22:=blk_call hp2 hb
     refine hK.out _ _ ?_ (fun hHeld=>?_)
     · exact hS2.xt.cell 0
     clear hK K hb
     (try simp only [zQ])
     exact LEM22 W2 gD ⟨hS2,⟨hp22,hv2,hw2⟩⟩
   refine TillEach.cons rfl (fun K hK=>?_) ?_
   · go_simp
     obtain ⟨W2,hu⟩:=jX (W.alloc (.cells #[.int .i64 (root:Int)] 3))
     rw [← hu]
     have hS2:=(hS.alloc (.cells #[.int .i64 (root:Int)] 3))
     have hp22:=(hp2.alloc (.cells #[.int .i64 (root:Int)] 3))
     have hp12:=(Blk.new W 3 #[.int .i64 (root:Int)])
     have hv1:w.heap.size ≤ W.heap.size:=hS.xb.size
     obtain ⟨gC,hg⟩:=jX W.heap.size
     rw [← hg] at hp12 hv1 ⊢
     rw [← hu] at hS2 hp12 hp22
     refine hK.out _ _ ?_ (fun hHeld=>?_)
     · exact hS2.xt.cell 0
     clear hK K hu hg
     (try simp only [zQ])
     exact LEM112 W2 gC gD ⟨hS2,⟨hp12,hv1⟩,⟨hp22,hv2,hw2⟩⟩
   exact TillEach.nil
  case pf =>
   intro W gC hF
   obtain ⟨hS,⟨hp1,hv1⟩⟩:=hF
   refine Till.ready (rs:=[6,17]) (by kernel_rfl) (by simp) ?_
   refine TillEach.cons rfl (fun K hK=>?_) ?_
   · go_simp
     go_wp2_with (go_at_call 18; refine (HN.out (W) (hS).xb).mono ?_; rintro e W2 ⟨rfl,hb⟩)
     have hS2:=(hS).below hb
     have hp12:=blk_call hp1 hb
     refine hK.out _ _ ?_ (fun hHeld=>?_)
     · exact hS2.xt.cell 0
     clear hK K hb
     (try simp only [zQ])
     exact LEM21 W2 gC ⟨hS2,⟨hp12,hv1⟩⟩
   refine TillEach.cons rfl (fun K hK=>?_) ?_
   · go_simp
     obtain ⟨W2,hu⟩:=jX (W.alloc (.cells #[.string ⟨#[]⟩,.slice none 0 0,.slice none 0 0] 32))
     rw [← hu]
     have hS2:=(hS.alloc (.cells #[.string ⟨#[]⟩,.slice none 0 0,.slice none 0 0] 32))
     have hp12:=(hp1.alloc (.cells #[.string ⟨#[]⟩,.slice none 0 0,.slice none 0 0] 32))
     have hp22:=(Blk.new W 32 #[.string ⟨#[]⟩,.slice none 0 0,.slice none 0 0])
     have hv2:w.heap.size ≤ W.heap.size:=hS.xb.size
     have hw2:b4 < W.heap.size:=hS.xr.lt
     obtain ⟨gD,hg⟩:=jX W.heap.size
     rw [← hg] at hp22 hv2 hw2 ⊢
     rw [← hu] at hS2 hp12 hp22
     refine hK.out _ _ ?_ (fun hHeld=>?_)
     · exact hS2.xt.cell 0
     clear hK K hu hg
     (try simp only [zQ])
     exact LEM112 W2 gC gD ⟨hS2,⟨hp12,hv1⟩,⟨hp22,hv2,hw2⟩⟩
   exact TillEach.nil
  case pf =>
   intro W gC gD hF
   obtain ⟨hS,⟨hp1,hv1⟩,⟨hp2,hv2,hw2⟩⟩:=hF
   refine Till.ready (rs:=[6]) (by kernel_rfl) (by simp) ?_
   refine TillEach.cons rfl (fun K hK=>?_) ?_
   · go_simp
     go_wp2_with (go_at_call 18; refine (HN.out (W) (hS).xb).mono ?_; rintro e W2 ⟨rfl,hb⟩)
     have hS2:=(hS).below hb
     have hp12:=blk_call hp1 hb
     have hp22:=blk_call hp2 hb
     refine hK.out _ _ ?_ (fun hHeld=>?_)
     · exact hS2.xt.cell 0
     clear hK K hb
     (try simp only [zQ])
     exact LEM212 W2 gC gD ⟨hS2,⟨hp12,hv1⟩,⟨hp22,hv2,hw2⟩⟩
   exact TillEach.nil
  case pf =>
   intro W  hS
   refine Till.ready (rs:=[7,15,17]) (by kernel_rfl) (by simp) ?_
   refine TillEach.cons rfl (fun K hK=>?_) ?_
   · go_simp
     go_wp2_with (go_at_call 17; refine (HVN.out (W) (hS).xb).mono ?_; rintro e W2 ⟨rfl,hb⟩)
     have hS2:=(hS).below hb
     refine hK.out _ _ ?_ (fun hHeld=>?_)
     · exact hS2.xt.cell 0
     clear hK K hb
     (try simp only [zQ])
     exact LEM3 W2  hS2
   refine TillEach.cons rfl (fun K hK=>?_) ?_
   · go_simp
     obtain ⟨W2,hu⟩:=jX (W.alloc (.cells #[.int .i64 (root:Int)] 3))
     rw [← hu]
     have hS2:=(hS.alloc (.cells #[.int .i64 (root:Int)] 3))
     have hp12:=(Blk.new W 3 #[.int .i64 (root:Int)])
     have hv1:w.heap.size ≤ W.heap.size:=hS.xb.size
     obtain ⟨gC,hg⟩:=jX W.heap.size
     rw [← hg] at hp12 hv1 ⊢
     rw [← hu] at hS2 hp12
     refine hK.out _ _ ?_ (fun hHeld=>?_)
     · exact hS2.xt.cell 0
     clear hK K hu hg
     (try simp only [zQ])
     exact LEM21 W2 gC ⟨hS2,⟨hp12,hv1⟩⟩
   refine TillEach.cons rfl (fun K hK=>?_) ?_
   · go_simp
     obtain ⟨W2,hu⟩:=jX (W.alloc (.cells #[.string ⟨#[]⟩,.slice none 0 0,.slice none 0 0] 32))
     rw [← hu]
     have hS2:=(hS.alloc (.cells #[.string ⟨#[]⟩,.slice none 0 0,.slice none 0 0] 32))
     have hp22:=(Blk.new W 32 #[.string ⟨#[]⟩,.slice none 0 0,.slice none 0 0])
     have hv2:w.heap.size ≤ W.heap.size:=hS.xb.size
     have hw2:b4 < W.heap.size:=hS.xr.lt
     obtain ⟨gD,hg⟩:=jX W.heap.size
     rw [← hg] at hp22 hv2 hw2 ⊢
     rw [← hu] at hS2 hp22
     refine hK.out _ _ ?_ (fun hHeld=>?_)
     · exact hS2.xt.cell 0
     clear hK K hu hg
     (try simp only [zQ])
     exact LEM22 W2 gD ⟨hS2,⟨hp22,hv2,hw2⟩⟩
   exact TillEach.nil
  case pf =>
   intro W gD hF
   obtain ⟨hS,⟨hp2,hv2,hw2⟩⟩:=hF
   refine Till.ready (rs:=[7,15]) (by kernel_rfl) (by simp) ?_
   refine TillEach.cons rfl (fun K hK=>?_) ?_
   · go_simp
     go_wp2_with (go_at_call 17; refine (HVN.out (W) (hS).xb).mono ?_; rintro e W2 ⟨rfl,hb⟩)
     have hS2:=(hS).below hb
     have hp22:=blk_call hp2 hb
     refine hK.out _ _ ?_ (fun hHeld=>?_)
     · exact hS2.xt.cell 0
     clear hK K hb
     (try simp only [zQ])
     exact LEM32 W2 gD ⟨hS2,⟨hp22,hv2,hw2⟩⟩
   refine TillEach.cons rfl (fun K hK=>?_) ?_
   · go_simp
     obtain ⟨W2,hu⟩:=jX (W.alloc (.cells #[.int .i64 (root:Int)] 3))
     rw [← hu]
     have hS2:=(hS.alloc (.cells #[.int .i64 (root:Int)] 3))
     have hp22:=(hp2.alloc (.cells #[.int .i64 (root:Int)] 3))
     have hp12:=(Blk.new W 3 #[.int .i64 (root:Int)])
     have hv1:w.heap.size ≤ W.heap.size:=hS.xb.size
     obtain ⟨gC,hg⟩:=jX W.heap.size
     rw [← hg] at hp12 hv1 ⊢
     rw [← hu] at hS2 hp12 hp22
     refine hK.out _ _ ?_ (fun hHeld=>?_)
     · exact hS2.xt.cell 0
     clear hK K hu hg
     (try simp only [zQ])
     exact LEM212 W2 gC gD ⟨hS2,⟨hp12,hv1⟩,⟨hp22,hv2,hw2⟩⟩
   exact TillEach.nil
  case pf =>
   intro W gC hF
   obtain ⟨hS,⟨hp1,hv1⟩⟩:=hF
   refine Till.ready (rs:=[7,17]) (by kernel_rfl) (by simp) ?_
   refine TillEach.cons rfl (fun K hK=>?_) ?_
   · go_simp
     go_wp2_with (go_at_call 17; refine (HVN.out (W) (hS).xb).mono ?_; rintro e W2 ⟨rfl,hb⟩)
     have hS2:=(hS).below hb
     have hp12:=blk_call hp1 hb
     refine hK.out _ _ ?_ (fun hHeld=>?_)
     · exact hS2.xt.cell 0
     clear hK K hb
     (try simp only [zQ])
     exact LEM31 W2 gC ⟨hS2,⟨hp12,hv1⟩⟩
   refine TillEach.cons rfl (fun K hK=>?_) ?_
   · go_simp
     obtain ⟨W2,hu⟩:=jX (W.alloc (.cells #[.string ⟨#[]⟩,.slice none 0 0,.slice none 0 0] 32))
     rw [← hu]
     have hS2:=(hS.alloc (.cells #[.string ⟨#[]⟩,.slice none 0 0,.slice none 0 0] 32))
     have hp12:=(hp1.alloc (.cells #[.string ⟨#[]⟩,.slice none 0 0,.slice none 0 0] 32))
     have hp22:=(Blk.new W 32 #[.string ⟨#[]⟩,.slice none 0 0,.slice none 0 0])
     have hv2:w.heap.size ≤ W.heap.size:=hS.xb.size
     have hw2:b4 < W.heap.size:=hS.xr.lt
     obtain ⟨gD,hg⟩:=jX W.heap.size
     rw [← hg] at hp22 hv2 hw2 ⊢
     rw [← hu] at hS2 hp12 hp22
     refine hK.out _ _ ?_ (fun hHeld=>?_)
     · exact hS2.xt.cell 0
     clear hK K hu hg
     (try simp only [zQ])
     exact LEM212 W2 gC gD ⟨hS2,⟨hp12,hv1⟩,⟨hp22,hv2,hw2⟩⟩
   exact TillEach.nil
  case pf =>
   intro W gC gD hF
   obtain ⟨hS,⟨hp1,hv1⟩,⟨hp2,hv2,hw2⟩⟩:=hF
   refine Till.ready (rs:=[7]) (by kernel_rfl) (by simp) ?_
   refine TillEach.cons rfl (fun K hK=>?_) ?_
   · go_simp
     go_wp2_with (go_at_call 17; refine (HVN.out (W) (hS).xb).mono ?_; rintro e W2 ⟨rfl,hb⟩)
     have hS2:=(hS).below hb
     have hp12:=blk_call hp1 hb
     have hp22:=blk_call hp2 hb
     refine hK.out _ _ ?_ (fun hHeld=>?_)
     · exact hS2.xt.cell 0
     clear hK K hb
     (try simp only [zQ])
     exact LEM312 W2 gC gD ⟨hS2,⟨hp12,hv1⟩,⟨hp22,hv2,hw2⟩⟩
   exact TillEach.nil
  case pf =>
   intro W  hS
   refine Till.ready (rs:=[11,15,17]) (by kernel_rfl) (by simp) ?_
   refine TillEach.cons rfl (fun K hK=>?_) ?_
   · go_simp
     go_wp2_with (go_at_call 19; refine (HP.out (W) (hS).xb).mono ?_; rintro e W2 ⟨rfl,hb⟩)
     have hS2:=(hS).below hb
     refine hK.out _ _ ?_ (fun hHeld=>?_)
     · exact hS2.xt.cell 0
     clear hK K hb
     (try simp only [zQ])
     exact LEM4 W2  hS2
   refine TillEach.cons rfl (fun K hK=>?_) ?_
   · go_simp
     obtain ⟨W2,hu⟩:=jX (W.alloc (.cells #[.int .i64 (root:Int)] 3))
     rw [← hu]
     have hS2:=(hS.alloc (.cells #[.int .i64 (root:Int)] 3))
     have hp12:=(Blk.new W 3 #[.int .i64 (root:Int)])
     have hv1:w.heap.size ≤ W.heap.size:=hS.xb.size
     obtain ⟨gC,hg⟩:=jX W.heap.size
     rw [← hg] at hp12 hv1 ⊢
     rw [← hu] at hS2 hp12
     refine hK.out _ _ ?_ (fun hHeld=>?_)
     · exact hS2.xt.cell 0
     clear hK K hu hg
     (try simp only [zQ])
     exact LEM31 W2 gC ⟨hS2,⟨hp12,hv1⟩⟩
   refine TillEach.cons rfl (fun K hK=>?_) ?_
   · go_simp
     obtain ⟨W2,hu⟩:=jX (W.alloc (.cells #[.string ⟨#[]⟩,.slice none 0 0,.slice none 0 0] 32))
     rw [← hu]
     have hS2:=(hS.alloc (.cells #[.string ⟨#[]⟩,.slice none 0 0,.slice none 0 0] 32))
     have hp22:=(Blk.new W 32 #[.string ⟨#[]⟩,.slice none 0 0,.slice none 0 0])
     have hv2:w.heap.size ≤ W.heap.size:=hS.xb.size
     have hw2:b4 < W.heap.size:=hS.xr.lt
     obtain ⟨gD,hg⟩:=jX W.heap.size
     rw [← hg] at hp22 hv2 hw2 ⊢
     rw [← hu] at hS2 hp22
     refine hK.out _ _ ?_ (fun hHeld=>?_)
     · exact hS2.xt.cell 0
     clear hK K hu hg
     (try simp only [zQ])
     exact LEM32 W2 gD ⟨hS2,⟨hp22,hv2,hw2⟩⟩
   exact TillEach.nil
  case pf =>
   intro W gD hF
   obtain ⟨hS,⟨hp2,hv2,hw2⟩⟩:=hF
   refine Till.ready (rs:=[11,15]) (by kernel_rfl) (by simp) ?_
   refine TillEach.cons rfl (fun K hK=>?_) ?_
   · go_simp
     go_wp2_with (go_at_call 19; refine (HP.out (W) (hS).xb).mono ?_; rintro e W2 ⟨rfl,hb⟩)
     have hS2:=(hS).below hb
     have hp22:=blk_call hp2 hb
     refine hK.out _ _ ?_ (fun hHeld=>?_)
     · exact hS2.xt.cell 0
     clear hK K hb
     (try simp only [zQ])
     exact LEM42 W2 gD ⟨hS2,⟨hp22,hv2,hw2⟩⟩
   refine TillEach.cons rfl (fun K hK=>?_) ?_
   · go_simp
     obtain ⟨W2,hu⟩:=jX (W.alloc (.cells #[.int .i64 (root:Int)] 3))
     rw [← hu]
     have hS2:=(hS.alloc (.cells #[.int .i64 (root:Int)] 3))
     have hp22:=(hp2.alloc (.cells #[.int .i64 (root:Int)] 3))
     have hp12:=(Blk.new W 3 #[.int .i64 (root:Int)])
     have hv1:w.heap.size ≤ W.heap.size:=hS.xb.size
     obtain ⟨gC,hg⟩:=jX W.heap.size
     rw [← hg] at hp12 hv1 ⊢
     rw [← hu] at hS2 hp12 hp22
     refine hK.out _ _ ?_ (fun hHeld=>?_)
     · exact hS2.xt.cell 0
     clear hK K hu hg
     (try simp only [zQ])
     exact LEM312 W2 gC gD ⟨hS2,⟨hp12,hv1⟩,⟨hp22,hv2,hw2⟩⟩
   exact TillEach.nil
  case pf =>
   intro W gC hF
   obtain ⟨hS,⟨hp1,hv1⟩⟩:=hF
   refine Till.ready (rs:=[11,17]) (by kernel_rfl) (by simp) ?_
   refine TillEach.cons rfl (fun K hK=>?_) ?_
   · go_simp
     go_wp2_with (go_at_call 19; refine (HP.out (W) (hS).xb).mono ?_; rintro e W2 ⟨rfl,hb⟩)
     have hS2:=(hS).below hb
     have hp12:=blk_call hp1 hb
     refine hK.out _ _ ?_ (fun hHeld=>?_)
     · exact hS2.xt.cell 0
     clear hK K hb
     (try simp only [zQ])
     exact LEM41 W2 gC ⟨hS2,⟨hp12,hv1⟩⟩
   refine TillEach.cons rfl (fun K hK=>?_) ?_
   · go_simp
     obtain ⟨W2,hu⟩:=jX (W.alloc (.cells #[.string ⟨#[]⟩,.slice none 0 0,.slice none 0 0] 32))
     rw [← hu]
     have hS2:=(hS.alloc (.cells #[.string ⟨#[]⟩,.slice none 0 0,.slice none 0 0] 32))
     have hp12:=(hp1.alloc (.cells #[.string ⟨#[]⟩,.slice none 0 0,.slice none 0 0] 32))
     have hp22:=(Blk.new W 32 #[.string ⟨#[]⟩,.slice none 0 0,.slice none 0 0])
     have hv2:w.heap.size ≤ W.heap.size:=hS.xb.size
     have hw2:b4 < W.heap.size:=hS.xr.lt
     obtain ⟨gD,hg⟩:=jX W.heap.size
     rw [← hg] at hp22 hv2 hw2 ⊢
     rw [← hu] at hS2 hp12 hp22
     refine hK.out _ _ ?_ (fun hHeld=>?_)
     · exact hS2.xt.cell 0
     clear hK K hu hg
     (try simp only [zQ])
     exact LEM312 W2 gC gD ⟨hS2,⟨hp12,hv1⟩,⟨hp22,hv2,hw2⟩⟩
   exact TillEach.nil
  case pf =>
   intro W gC gD hF
   obtain ⟨hS,⟨hp1,hv1⟩,⟨hp2,hv2,hw2⟩⟩:=hF
   refine Till.ready (rs:=[11]) (by kernel_rfl) (by simp) ?_
   refine TillEach.cons rfl (fun K hK=>?_) ?_
   · go_simp
     go_wp2_with (go_at_call 19; refine (HP.out (W) (hS).xb).mono ?_; rintro e W2 ⟨rfl,hb⟩)
     have hS2:=(hS).below hb
     have hp12:=blk_call hp1 hb
     have hp22:=blk_call hp2 hb
     refine hK.out _ _ ?_ (fun hHeld=>?_)
     · exact hS2.xt.cell 0
     clear hK K hb
     (try simp only [zQ])
     exact LEM412 W2 gC gD ⟨hS2,⟨hp12,hv1⟩,⟨hp22,hv2,hw2⟩⟩
   exact TillEach.nil
  case pf =>
   intro W  hS
   refine Till.ready (rs:=[12,15,17]) (by kernel_rfl) (by simp) ?_
   refine TillEach.cons rfl (fun K hK=>?_) ?_
   · go_simp
     go_wp2_with (go_at_call 17; refine (HVP.out (W) (hS).xb).mono ?_; rintro e W2 ⟨rfl,hb⟩)
     have hS2:=(hS).below hb
     refine hK.out _ _ ?_ (fun hHeld=>?_)
     · exact hS2.xt.cell 0
     clear hK K hb
     (try simp only [zQ])
     exact LEM5 W2  hS2
   refine TillEach.cons rfl (fun K hK=>?_) ?_
   · go_simp
     obtain ⟨W2,hu⟩:=jX (W.alloc (.cells #[.int .i64 (root:Int)] 3))
     rw [← hu]
     have hS2:=(hS.alloc (.cells #[.int .i64 (root:Int)] 3))
     have hp12:=(Blk.new W 3 #[.int .i64 (root:Int)])
     have hv1:w.heap.size ≤ W.heap.size:=hS.xb.size
     obtain ⟨gC,hg⟩:=jX W.heap.size
     rw [← hg] at hp12 hv1 ⊢
     rw [← hu] at hS2 hp12
     refine hK.out _ _ ?_ (fun hHeld=>?_)
     · exact hS2.xt.cell 0
     clear hK K hu hg
     (try simp only [zQ])
     exact LEM41 W2 gC ⟨hS2,⟨hp12,hv1⟩⟩
   refine TillEach.cons rfl (fun K hK=>?_) ?_
   · go_simp
     obtain ⟨W2,hu⟩:=jX (W.alloc (.cells #[.string ⟨#[]⟩,.slice none 0 0,.slice none 0 0] 32))
     rw [← hu]
     have hS2:=(hS.alloc (.cells #[.string ⟨#[]⟩,.slice none 0 0,.slice none 0 0] 32))
     have hp22:=(Blk.new W 32 #[.string ⟨#[]⟩,.slice none 0 0,.slice none 0 0])
     have hv2:w.heap.size ≤ W.heap.size:=hS.xb.size
     have hw2:b4 < W.heap.size:=hS.xr.lt
     obtain ⟨gD,hg⟩:=jX W.heap.size
     rw [← hg] at hp22 hv2 hw2 ⊢
     rw [← hu] at hS2 hp22
     refine hK.out _ _ ?_ (fun hHeld=>?_)
     · exact hS2.xt.cell 0
     clear hK K hu hg
     (try simp only [zQ])
     exact LEM42 W2 gD ⟨hS2,⟨hp22,hv2,hw2⟩⟩
   exact TillEach.nil
  case pf =>
   intro W gD hF
   obtain ⟨hS,⟨hp2,hv2,hw2⟩⟩:=hF
   refine Till.ready (rs:=[12,15]) (by kernel_rfl) (by simp) ?_
   refine TillEach.cons rfl (fun K hK=>?_) ?_
   · go_simp
     go_wp2_with (go_at_call 17; refine (HVP.out (W) (hS).xb).mono ?_; rintro e W2 ⟨rfl,hb⟩)
     have hS2:=(hS).below hb
     have hp22:=blk_call hp2 hb
     refine hK.out _ _ ?_ (fun hHeld=>?_)
     · exact hS2.xt.cell 0
     clear hK K hb
     (try simp only [zQ])
     exact LEM52 W2 gD ⟨hS2,⟨hp22,hv2,hw2⟩⟩
   refine TillEach.cons rfl (fun K hK=>?_) ?_
   · go_simp
     obtain ⟨W2,hu⟩:=jX (W.alloc (.cells #[.int .i64 (root:Int)] 3))
     rw [← hu]
     have hS2:=(hS.alloc (.cells #[.int .i64 (root:Int)] 3))
     have hp22:=(hp2.alloc (.cells #[.int .i64 (root:Int)] 3))
     have hp12:=(Blk.new W 3 #[.int .i64 (root:Int)])
     have hv1:w.heap.size ≤ W.heap.size:=hS.xb.size
     obtain ⟨gC,hg⟩:=jX W.heap.size
     rw [← hg] at hp12 hv1 ⊢
     rw [← hu] at hS2 hp12 hp22
     refine hK.out _ _ ?_ (fun hHeld=>?_)
     · exact hS2.xt.cell 0
     clear hK K hu hg
     (try simp only [zQ])
     exact LEM412 W2 gC gD ⟨hS2,⟨hp12,hv1⟩,⟨hp22,hv2,hw2⟩⟩
   exact TillEach.nil
  case pf =>
   intro W gC hF
   obtain ⟨hS,⟨hp1,hv1⟩⟩:=hF
   refine Till.ready (rs:=[12,17]) (by kernel_rfl) (by simp) ?_
   refine TillEach.cons rfl (fun K hK=>?_) ?_
   · go_simp
     go_wp2_with (go_at_call 17; refine (HVP.out (W) (hS).xb).mono ?_; rintro e W2 ⟨rfl,hb⟩)
     have hS2:=(hS).below hb
     have hp12:=blk_call hp1 hb
     refine hK.out _ _ ?_ (fun hHeld=>?_)
     · exact hS2.xt.cell 0
     clear hK K hb
     (try simp only [zQ])
     exact LEM51 W2 gC ⟨hS2,⟨hp12,hv1⟩⟩
   refine TillEach.cons rfl (fun K hK=>?_) ?_
   · go_simp
     obtain ⟨W2,hu⟩:=jX (W.alloc (.cells #[.string ⟨#[]⟩,.slice none 0 0,.slice none 0 0] 32))
     rw [← hu]
     have hS2:=(hS.alloc (.cells #[.string ⟨#[]⟩,.slice none 0 0,.slice none 0 0] 32))
     have hp12:=(hp1.alloc (.cells #[.string ⟨#[]⟩,.slice none 0 0,.slice none 0 0] 32))
     have hp22:=(Blk.new W 32 #[.string ⟨#[]⟩,.slice none 0 0,.slice none 0 0])
     have hv2:w.heap.size ≤ W.heap.size:=hS.xb.size
     have hw2:b4 < W.heap.size:=hS.xr.lt
     obtain ⟨gD,hg⟩:=jX W.heap.size
     rw [← hg] at hp22 hv2 hw2 ⊢
     rw [← hu] at hS2 hp12 hp22
     refine hK.out _ _ ?_ (fun hHeld=>?_)
     · exact hS2.xt.cell 0
     clear hK K hu hg
     (try simp only [zQ])
     exact LEM412 W2 gC gD ⟨hS2,⟨hp12,hv1⟩,⟨hp22,hv2,hw2⟩⟩
   exact TillEach.nil
  case pf =>
   intro W gC gD hF
   obtain ⟨hS,⟨hp1,hv1⟩,⟨hp2,hv2,hw2⟩⟩:=hF
   refine Till.ready (rs:=[12]) (by kernel_rfl) (by simp) ?_
   refine TillEach.cons rfl (fun K hK=>?_) ?_
   · go_simp
     go_wp2_with (go_at_call 17; refine (HVP.out (W) (hS).xb).mono ?_; rintro e W2 ⟨rfl,hb⟩)
     have hS2:=(hS).below hb
     have hp12:=blk_call hp1 hb
     have hp22:=blk_call hp2 hb
     refine hK.out _ _ ?_ (fun hHeld=>?_)
     · exact hS2.xt.cell 0
     clear hK K hb
     (try simp only [zQ])
     exact LEM512 W2 gC gD ⟨hS2,⟨hp12,hv1⟩,⟨hp22,hv2,hw2⟩⟩
   exact TillEach.nil
  case pf =>
   intro W  hS
   refine Till.ready (rs:=[13,15,17]) (by kernel_rfl) (by simp) ?_
   refine TillEach.cons rfl (fun K hK=>?_) ?_
   · go_simp
     obtain ⟨W2,hu⟩:=jX (W.alloc (.cells #[.int .i64 (a:Int),.int .i64 (b:Int),.int .i64 (d:Int)] 3))
     rw [← hu]
     have hS2:=(hS.alloc (.cells #[.int .i64 (a:Int),.int .i64 (b:Int),.int .i64 (d:Int)] 3))
     have hp02:=(Blk.new W 3 #[.int .i64 (a:Int),.int .i64 (b:Int),.int .i64 (d:Int)])
     have hv0:w.heap.size ≤ W.heap.size:=hS.xb.size
     obtain ⟨gV,hg⟩:=jX W.heap.size
     rw [← hg] at hp02 hv0 ⊢
     rw [← hu] at hS2 hp02
     refine hK.out _ _ ?_ (fun hHeld=>?_)
     · exact hS2.xt.cell 0
     clear hK K hu hg
     (try simp only [zQ])
     exact LEM6 W2 gV ⟨hS2,⟨hp02,hv0⟩⟩
   refine TillEach.cons rfl (fun K hK=>?_) ?_
   · go_simp
     obtain ⟨W2,hu⟩:=jX (W.alloc (.cells #[.int .i64 (root:Int)] 3))
     rw [← hu]
     have hS2:=(hS.alloc (.cells #[.int .i64 (root:Int)] 3))
     have hp12:=(Blk.new W 3 #[.int .i64 (root:Int)])
     have hv1:w.heap.size ≤ W.heap.size:=hS.xb.size
     obtain ⟨gC,hg⟩:=jX W.heap.size
     rw [← hg] at hp12 hv1 ⊢
     rw [← hu] at hS2 hp12
     refine hK.out _ _ ?_ (fun hHeld=>?_)
     · exact hS2.xt.cell 0
     clear hK K hu hg
     (try simp only [zQ])
     exact LEM51 W2 gC ⟨hS2,⟨hp12,hv1⟩⟩
   refine TillEach.cons rfl (fun K hK=>?_) ?_
   · go_simp
     obtain ⟨W2,hu⟩:=jX (W.alloc (.cells #[.string ⟨#[]⟩,.slice none 0 0,.slice none 0 0] 32))
     rw [← hu]
     have hS2:=(hS.alloc (.cells #[.string ⟨#[]⟩,.slice none 0 0,.slice none 0 0] 32))
     have hp22:=(Blk.new W 32 #[.string ⟨#[]⟩,.slice none 0 0,.slice none 0 0])
     have hv2:w.heap.size ≤ W.heap.size:=hS.xb.size
     have hw2:b4 < W.heap.size:=hS.xr.lt
     obtain ⟨gD,hg⟩:=jX W.heap.size
     rw [← hg] at hp22 hv2 hw2 ⊢
     rw [← hu] at hS2 hp22
     refine hK.out _ _ ?_ (fun hHeld=>?_)
     · exact hS2.xt.cell 0
     clear hK K hu hg
     (try simp only [zQ])
     exact LEM52 W2 gD ⟨hS2,⟨hp22,hv2,hw2⟩⟩
   exact TillEach.nil
  case pf =>
   intro W gD hF
   obtain ⟨hS,⟨hp2,hv2,hw2⟩⟩:=hF
   refine Till.ready (rs:=[13,15]) (by kernel_rfl) (by simp) ?_
   refine TillEach.cons rfl (fun K hK=>?_) ?_
   · go_simp
     obtain ⟨W2,hu⟩:=jX (W.alloc (.cells #[.int .i64 (a:Int),.int .i64 (b:Int),.int .i64 (d:Int)] 3))
     rw [← hu]
     have hS2:=(hS.alloc (.cells #[.int .i64 (a:Int),.int .i64 (b:Int),.int .i64 (d:Int)] 3))
     have hp22:=(hp2.alloc (.cells #[.int .i64 (a:Int),.int .i64 (b:Int),.int .i64 (d:Int)] 3))
     have hp02:=(Blk.new W 3 #[.int .i64 (a:Int),.int .i64 (b:Int),.int .i64 (d:Int)])
     have hv0:w.heap.size ≤ W.heap.size:=hS.xb.size
     obtain ⟨gV,hg⟩:=jX W.heap.size
     rw [← hg] at hp02 hv0 ⊢
     rw [← hu] at hS2 hp02 hp22
     refine hK.out _ _ ?_ (fun hHeld=>?_)
     · exact hS2.xt.cell 0
     clear hK K hu hg
     (try simp only [zQ])
     exact LEM62 W2 gV gD ⟨hS2,⟨hp02,hv0⟩,⟨hp22,hv2,hw2⟩⟩
   refine TillEach.cons rfl (fun K hK=>?_) ?_
   · go_simp
     obtain ⟨W2,hu⟩:=jX (W.alloc (.cells #[.int .i64 (root:Int)] 3))
     rw [← hu]
     have hS2:=(hS.alloc (.cells #[.int .i64 (root:Int)] 3))
     have hp22:=(hp2.alloc (.cells #[.int .i64 (root:Int)] 3))
     have hp12:=(Blk.new W 3 #[.int .i64 (root:Int)])
     have hv1:w.heap.size ≤ W.heap.size:=hS.xb.size
     obtain ⟨gC,hg⟩:=jX W.heap.size
     rw [← hg] at hp12 hv1 ⊢
     rw [← hu] at hS2 hp12 hp22
     refine hK.out _ _ ?_ (fun hHeld=>?_)
     · exact hS2.xt.cell 0
     clear hK K hu hg
     (try simp only [zQ])
     exact LEM512 W2 gC gD ⟨hS2,⟨hp12,hv1⟩,⟨hp22,hv2,hw2⟩⟩
   exact TillEach.nil
  case pf =>
   intro W gC hF
   obtain ⟨hS,⟨hp1,hv1⟩⟩:=hF
   refine Till.ready (rs:=[13,17]) (by kernel_rfl) (by simp) ?_
   refine TillEach.cons rfl (fun K hK=>?_) ?_
   · go_simp
     obtain ⟨W2,hu⟩:=jX (W.alloc (.cells #[.int .i64 (a:Int),.int .i64 (b:Int),.int .i64 (d:Int)] 3))
     rw [← hu]
     have hS2:=(hS.alloc (.cells #[.int .i64 (a:Int),.int .i64 (b:Int),.int .i64 (d:Int)] 3))
     have hp12:=(hp1.alloc (.cells #[.int .i64 (a:Int),.int .i64 (b:Int),.int .i64 (d:Int)] 3))
     have hp02:=(Blk.new W 3 #[.int .i64 (a:Int),.int .i64 (b:Int),.int .i64 (d:Int)])
     have hv0:w.heap.size ≤ W.heap.size:=hS.xb.size
     have hn:=Ne.symm (Nat.ne_of_lt hp1.lt)
     obtain ⟨gV,hg⟩:=jX W.heap.size
     rw [← hg] at hp02 hv0 hn ⊢
     rw [← hu] at hS2 hp02 hp12
     refine hK.out _ _ ?_ (fun hHeld=>?_)
     · exact hS2.xt.cell 0
     clear hK K hu hg
     (try simp only [zQ])
     refine tKk 16 ?_; (try simp only [zQ])
     exact LEM61 W2 gV gC ⟨hS2,⟨hp02,hv0⟩,⟨hp12,hv1⟩,hn⟩
   refine TillEach.cons rfl (fun K hK=>?_) ?_
   · go_simp
     obtain ⟨W2,hu⟩:=jX (W.alloc (.cells #[.string ⟨#[]⟩,.slice none 0 0,.slice none 0 0] 32))
     rw [← hu]
     have hS2:=(hS.alloc (.cells #[.string ⟨#[]⟩,.slice none 0 0,.slice none 0 0] 32))
     have hp12:=(hp1.alloc (.cells #[.string ⟨#[]⟩,.slice none 0 0,.slice none 0 0] 32))
     have hp22:=(Blk.new W 32 #[.string ⟨#[]⟩,.slice none 0 0,.slice none 0 0])
     have hv2:w.heap.size ≤ W.heap.size:=hS.xb.size
     have hw2:b4 < W.heap.size:=hS.xr.lt
     obtain ⟨gD,hg⟩:=jX W.heap.size
     rw [← hg] at hp22 hv2 hw2 ⊢
     rw [← hu] at hS2 hp12 hp22
     refine hK.out _ _ ?_ (fun hHeld=>?_)
     · exact hS2.xt.cell 0
     clear hK K hu hg
     (try simp only [zQ])
     exact LEM512 W2 gC gD ⟨hS2,⟨hp12,hv1⟩,⟨hp22,hv2,hw2⟩⟩
   exact TillEach.nil
  case pf =>
   intro W gC gD hF
   obtain ⟨hS,⟨hp1,hv1⟩,⟨hp2,hv2,hw2⟩⟩:=hF
   refine Till.ready (rs:=[13]) (by kernel_rfl) (by simp) ?_
   refine TillEach.cons rfl (fun K hK=>?_) ?_
   · go_simp
     obtain ⟨W2,hu⟩:=jX (W.alloc (.cells #[.int .i64 (a:Int),.int .i64 (b:Int),.int .i64 (d:Int)] 3))
     rw [← hu]
     have hS2:=(hS.alloc (.cells #[.int .i64 (a:Int),.int .i64 (b:Int),.int .i64 (d:Int)] 3))
     have hp12:=(hp1.alloc (.cells #[.int .i64 (a:Int),.int .i64 (b:Int),.int .i64 (d:Int)] 3))
     have hp22:=(hp2.alloc (.cells #[.int .i64 (a:Int),.int .i64 (b:Int),.int .i64 (d:Int)] 3))
     have hp02:=(Blk.new W 3 #[.int .i64 (a:Int),.int .i64 (b:Int),.int .i64 (d:Int)])
     have hv0:w.heap.size ≤ W.heap.size:=hS.xb.size
     have hn:=Ne.symm (Nat.ne_of_lt hp1.lt)
     obtain ⟨gV,hg⟩:=jX W.heap.size
     rw [← hg] at hp02 hv0 hn ⊢
     rw [← hu] at hS2 hp02 hp12 hp22
     refine hK.out _ _ ?_ (fun hHeld=>?_)
     · exact hS2.xt.cell 0
     clear hK K hu hg
     (try simp only [zQ])
     refine tKk 16 ?_; (try simp only [zQ])
     exact LEM612 W2 gV gC gD ⟨hS2,⟨hp02,hv0⟩,⟨hp12,hv1⟩,⟨hp22,hv2,hw2⟩,hn⟩
   exact TillEach.nil
  case pf =>
   intro W gV hF
   obtain ⟨hS,⟨hp0,hv0⟩⟩:=hF
   refine Till.ready (rs:=[15,17]) (by kernel_rfl) (by simp) ?_
   refine TillEach.cons rfl (fun K hK=>?_) ?_
   · go_simp
     obtain ⟨W2,hu⟩:=jX (W.alloc (.cells #[.int .i64 (root:Int)] 3))
     rw [← hu]
     have hS2:=(hS.alloc (.cells #[.int .i64 (root:Int)] 3))
     have hp02:=(hp0.alloc (.cells #[.int .i64 (root:Int)] 3))
     have hp12:=(Blk.new W 3 #[.int .i64 (root:Int)])
     have hv1:w.heap.size ≤ W.heap.size:=hS.xb.size
     have hn:=Nat.ne_of_lt hp0.lt
     obtain ⟨gC,hg⟩:=jX W.heap.size
     rw [← hg] at hp12 hv1 hn ⊢
     rw [← hu] at hS2 hp02 hp12
     refine hK.out _ _ ?_ (fun hHeld=>?_)
     · exact hS2.xt.cell 0
     clear hK K hu hg
     (try simp only [zQ])
     refine tKk 16 ?_; (try simp only [zQ])
     exact LEM61 W2 gV gC ⟨hS2,⟨hp02,hv0⟩,⟨hp12,hv1⟩,hn⟩
   refine TillEach.cons rfl (fun K hK=>?_) ?_
   · go_simp
     obtain ⟨W2,hu⟩:=jX (W.alloc (.cells #[.string ⟨#[]⟩,.slice none 0 0,.slice none 0 0] 32))
     rw [← hu]
     have hS2:=(hS.alloc (.cells #[.string ⟨#[]⟩,.slice none 0 0,.slice none 0 0] 32))
     have hp02:=(hp0.alloc (.cells #[.string ⟨#[]⟩,.slice none 0 0,.slice none 0 0] 32))
     have hp22:=(Blk.new W 32 #[.string ⟨#[]⟩,.slice none 0 0,.slice none 0 0])
     have hv2:w.heap.size ≤ W.heap.size:=hS.xb.size
     have hw2:b4 < W.heap.size:=hS.xr.lt
     obtain ⟨gD,hg⟩:=jX W.heap.size
     rw [← hg] at hp22 hv2 hw2 ⊢
     rw [← hu] at hS2 hp02 hp22
     refine hK.out _ _ ?_ (fun hHeld=>?_)
     · exact hS2.xt.cell 0
     clear hK K hu hg
     (try simp only [zQ])
     exact LEM62 W2 gV gD ⟨hS2,⟨hp02,hv0⟩,⟨hp22,hv2,hw2⟩⟩
   exact TillEach.nil
  case pf =>
   intro W gV gD hF
   obtain ⟨hS,⟨hp0,hv0⟩,⟨hp2,hv2,hw2⟩⟩:=hF
   refine Till.ready (rs:=[15]) (by kernel_rfl) (by simp) ?_
   refine TillEach.cons rfl (fun K hK=>?_) ?_
   · go_simp
     obtain ⟨W2,hu⟩:=jX (W.alloc (.cells #[.int .i64 (root:Int)] 3))
     rw [← hu]
     have hS2:=(hS.alloc (.cells #[.int .i64 (root:Int)] 3))
     have hp02:=(hp0.alloc (.cells #[.int .i64 (root:Int)] 3))
     have hp22:=(hp2.alloc (.cells #[.int .i64 (root:Int)] 3))
     have hp12:=(Blk.new W 3 #[.int .i64 (root:Int)])
     have hv1:w.heap.size ≤ W.heap.size:=hS.xb.size
     have hn:=Nat.ne_of_lt hp0.lt
     obtain ⟨gC,hg⟩:=jX W.heap.size
     rw [← hg] at hp12 hv1 hn ⊢
     rw [← hu] at hS2 hp02 hp12 hp22
     refine hK.out _ _ ?_ (fun hHeld=>?_)
     · exact hS2.xt.cell 0
     clear hK K hu hg
     (try simp only [zQ])
     refine tKk 16 ?_; (try simp only [zQ])
     exact LEM612 W2 gV gC gD ⟨hS2,⟨hp02,hv0⟩,⟨hp12,hv1⟩,⟨hp22,hv2,hw2⟩,hn⟩
   exact TillEach.nil
  case pf =>
   intro W gV gC hF
   obtain ⟨hS,⟨hp0,hv0⟩,⟨hp1,hv1⟩,hn⟩:=hF
   refine Till.ready (rs:=[17]) (by kernel_rfl) (by simp) ?_
   refine TillEach.cons rfl (fun K hK=>?_) ?_
   · go_simp
     obtain ⟨W2,hu⟩:=jX (W.alloc (.cells #[.string ⟨#[]⟩,.slice none 0 0,.slice none 0 0] 32))
     rw [← hu]
     have hS2:=(hS.alloc (.cells #[.string ⟨#[]⟩,.slice none 0 0,.slice none 0 0] 32))
     have hp02:=(hp0.alloc (.cells #[.string ⟨#[]⟩,.slice none 0 0,.slice none 0 0] 32))
     have hp12:=(hp1.alloc (.cells #[.string ⟨#[]⟩,.slice none 0 0,.slice none 0 0] 32))
     have hp22:=(Blk.new W 32 #[.string ⟨#[]⟩,.slice none 0 0,.slice none 0 0])
     have hv2:w.heap.size ≤ W.heap.size:=hS.xb.size
     have hw2:b4 < W.heap.size:=hS.xr.lt
     obtain ⟨gD,hg⟩:=jX W.heap.size
     rw [← hg] at hp22 hv2 hw2 ⊢
     rw [← hu] at hS2 hp02 hp12 hp22
     refine hK.out _ _ ?_ (fun hHeld=>?_)
     · exact hS2.xt.cell 0
     clear hK K hu hg
     (try simp only [zQ])
     exact LEM612 W2 gV gC gD ⟨hS2,⟨hp02,hv0⟩,⟨hp12,hv1⟩,⟨hp22,hv2,hw2⟩,hn⟩
   exact TillEach.nil
  case pf =>
   intro W gV gC gD hF
   obtain ⟨hS,⟨hp0,hv0⟩,⟨hp1,hv1⟩,⟨hp2,hv2,hw2⟩,hn⟩:=hF
   have cc0:=hp2.cell 0
   have cf0:=hp2.frozen 0
   have cc1:=hp2.cell 1
   have cf1:=hp2.frozen 1
   have cc2:=hp2.cell 2
   have cf2:=hp2.frozen 2
   simp at cc0 cc1 cc2
   refine Till.ready (rs:=[18]) (by kernel_rfl) (by simp) ?_
   refine TillEach.last rfl (fun K hK=>?_)
   go_simp
   obtain ⟨W2,hu⟩:=jX (((W.setCell ⟨gD,0,none⟩ (.string ⟨#[]⟩)).setCell ⟨gD,1,none⟩ (.slice (some ⟨gV,0,none⟩) 3 3)).setCell ⟨gD,2,none⟩ (.slice (some ⟨gC,0,none⟩) 1 1))
   rw [← hu]
   have hF:TraceAt w g bt b4 gD gV gC ((root:Nat):Int) a b d W2:=by rw [hu]; exact TraceAt.mk_ hS hp0 hp1 hp2 hv0 hv1 hv2 hw2 hn
   refine hK.out _ _ ?_
   clear hK K hu cc0 cc1 cc2 cf0 cf1 cf2
   (try simp only [zQ])
   refine Till.done (by kernel_rfl) ?_ _
   go_wp2_with fail
   go_meet
   exact ⟨gD,gV,gC,rfl,jJ hF⟩
 case rest =>
  obtain ⟨gD,gV,gC,rfl,HTA⟩:=hcut
  have c1:=(HTA.out.xt.alloc (.cells #[.slice none 0 0] 50)).cell 0
  simp at c1
  go_wp2_with (go_at_call 20; refine (steps_fn (some ⟨g,0,none⟩) (root:Int) _).mono ?_; rintro e w3 ⟨rfl,hw3⟩)
  have HB3:Hid (Below (wc.alloc (.cells #[.slice none 0 0] 50)).heap.size (wc.alloc (.cells #[.slice none 0 0] 50)) w3):=by rw [hw3]; exact jJ (bw_alloc (bw_alloc (Below.refl _ _) _) _)
  have HI3:=jJ (WkI.start T.length HTA.out ⟨HGE.out.1,HGE.out.2.1⟩ HB3.out)
  have HE1:Hid (Blk w3 (wc.heap.size + 1) 25 #[.pointer (some ⟨g,0,none⟩)]):=by rw [hw3]; exact jJ ((Blk.new_ (by rw [World.size_alloc]) _ _).alloc _)
  have HE2:Hid (Blk w3 (wc.heap.size + 1 + 1) 3 #[.int .i64 (root:Int)]):=by rw [hw3]; exact jJ (Blk.new_ (by rw [World.size_alloc,World.size_alloc]) _ _)
  have HB0:Hid (Below w.heap.size w w3):=jJ (by obtain ⟨_,_,_,_,_,_,_,_,_,_,_,h,_⟩:=HI3.out; exact h)
  have HSO:Hid (SeqOwn Fence.wide 7 Tryz.prog 35 #[.pointer (some ⟨wc.heap.size + 1,0,none⟩),.pointer (some ⟨wc.heap.size + 1 + 1,0,none⟩)] (wstE (F:=T.length)) (fun xs=>xs.map (·.k)=wordX T.length (oppC T) (cv T) root) T.length w.heap.size w3) :=
   jJ (steps_own 7 (by omega) g m T root _ _ w w3 HT.out HS.out hr hF HB0.out (HE1.out.cell 0) (HE2.out.cell 0) HE1.out.lt HE2.out.lt)
  rw [← hw3]
  clear hw3 HTA HE1 HE2 HB3 c1
  obtain ⟨bb,hbb⟩:=jX wc.heap.size
  rw [← hbb] at HI3
  obtain ⟨b1,hb1⟩:=jX (bb + 1)
  obtain ⟨b2,hb2⟩:=jX (bb + 1 + 1)
  rw [← hbb,← hb2,← hb1] at HSO
  rw [← hbb,← hb2,← hb1]
  clear hbb hb1 hb2
  refine (wpIn_wide (n:=8)).1 ?_
  refine wpIn_range_own rfl (by decide) (gf := 35) (lb:=#[.pointer (some ⟨b1,0,none⟩),.pointer (some ⟨b2,0,none⟩)]) rfl trivial (enters_of Tryz.func35 (by kernel_rfl) rfl) HSO.out HB0.out.size (fun _=>rfl)
   (fun xs O W=>WkI w T.length bt b4 bb gD g xs O W)
   (fun xs x O a1 W=>∃ gs,a1={ tmps:=#[.pointer (some ⟨g,0,none⟩),.int .i64 (root:Int),.pointer (some ⟨bt,0,none⟩),undef,.pointer (some ⟨b4,0,none⟩),.int .i64 0,.int .i64 0,.pointer (some ⟨gD,0,none⟩),.pointer (some ⟨bb,0,none⟩),.pointer (some ⟨gs,0,none⟩),u10,u11,u12,u13,u14,u15,u16,u17,u18,u19,u20,u21,u22,u23,u24,u25,u26,u27,u28,u29,u30,u31,u32,u33,.pointer (some ⟨g,0,none⟩),.int .i64 (root:Int),.func (.func 35) #[] #[.pointer (some ⟨b1,0,none⟩),.pointer (some ⟨b2,0,none⟩)],.agg #[.int .u8 (x.k:Int),.int .i64 (x.c:Int),.int .i64 (x.a:Int),.int .i64 (x.b:Int)],undef,undef,undef,undef,undef,undef,undef,undef,undef,undef,undef,undef,undef,undef,undef,undef,undef,undef,undef,undef,undef,undef,undef,undef,undef,undef,undef,undef],defers:=[] } ∧ WkI w T.length bt b4 bb gD g xs O W ∧ Blk W gs 55 #[.int .u8 (x.k:Int),.int .i64 (x.c:Int),.int .i64 (x.a:Int),.int .i64 (x.b:Int)] ∧ xs.length < T.length)
   (fun xs O O' A B hI ho h1 h2=>?_) (fun xs O W r o o' hI hr ho hc=>?_) (fun xs x O a1 W r o o' hA hr ho hc=>?_) HI3.out (fun l xs x O W hI hl=>?_) (fun l xs x O a1 W hA=>?_) (fun D xs O W hS hI hD hm=>?_)
  · exact hI.comes ho h1 h2
  · exact hI.put ho hc (Nat.le_trans HB0.out.size hr)
  · obtain ⟨gs,h1,h2,h3,h4⟩:=hA
    exact ⟨gs,h1,h2.put ho hc (Nat.le_trans HB0.out.size hr),blk_put h3 ho hc,h4⟩
  · unfold wstE
    gi_wp2
    exact ⟨KeepsOthers.alloc _ _,(Only.refl _ _).alloc _,_,rfl,hI.quiet ((Only.refl _ _).alloc _),Blk.new _ _ _,hl⟩
  · obtain ⟨gs,rfl,hI,hG,hl⟩:=hA
    obtain ⟨nv,nc,Vs,Cs,Aw,Av,Ac,cw,cv,cc,hT,hb,h3,h4,h5⟩:=hI
    have HTI:=jJ hT
    have HSB:=jJ hG
    have HBW:=jJ hb
    have HO5:=jJ h5
    have s0:=hG.cell 0
    have c8:=hT.xb.cell 0
    simp at s0 c8
    have hlen:xs.length ≤ 300:=by omega
    obtain ⟨n,hn⟩:=jX xs.length
    have HNE:=jJ hn
    rw [← hn] at HTI c8 h3 h4 hlen
    clear hT hG hb h5 hn
    obtain ⟨i0,hi0,hz0,hz1,hz2⟩:=info_parts (show (Tryz.prog.info? 3).map (fun i=>(i.zero,i.size,i.bytes))=some (some (.int .i64 0),1,8) by kernel_rfl)
    obtain ⟨i8,hi8,iz0,iz1,iz2⟩:=info_parts (show (Tryz.prog.info? 5).map (fun i=>(i.zero,i.size,i.bytes))=some (some (.int .u8 0),1,1) by kernel_rfl)
    gi_wp2_with (first
     | (gi_at_builtin; (refine wpListIn_append_own_at _ rfl _ _ 50 rfl w.heap.size 5 i8 _ 1 1 Tryz.underlying50 hi8 iz0 iz1 iz2 rfl (by decide) _ _ _ rfl (HTI.out.quiet ((Only.refl _ _).alloc _)).xw ⟨W.heap.size,0,none⟩ 1 1 [.int .u8 (x.k:Int)] rfl rfl (new_cellsI W [.int .u8 (x.k:Int)] 5) (by simp [Value.oneCell']) (by simp only [maxLen]; omega) (by omega) (by rw [World.size_alloc]; have:=HBW.out.size; omega) ?_; intro v' w1 hown hgrow _ hat; obtain ⟨A1,c1,rfl,_⟩:=own_form hown; obtain ⟨hB1,hD1⟩:=HTI.out.wordB ((Only.refl _ _).alloc _) hgrow; obtain ⟨hT1,hTo1,hSt1⟩:=HTI.out.word ((Only.refl _ _).alloc _) hown hgrow hat; have HT1:=jJ hT1; have HTo1:=jJ hTo1; have HS1:=jJ (hSt1 HSB.out); have b1c:=hB1.cell 0; have b1f:=hB1.frozen 0; have d1c:=HT1.out.xd.cell 2; have s1c:=HS1.out.cell 1; simp at b1c d1c s1c; clear hB1 hD1 hT1 hTo1 hSt1 hown hgrow hat))
     | (gi_at_builtin; go_loud (refine wpListIn_append_own_at _ rfl _ _ 30 rfl w.heap.size 3 i0 _ 1 8 Tryz.underlying30 hi0 hz0 hz1 hz2 rfl (by decide) _ _ _ rfl (HT1.out.quiet ((Only.refl _ _).alloc _)).xc ⟨w1.heap.size,0,none⟩ 1 1 [.int .i64 (x.c:Int)] rfl rfl (by have:=new_cellsI (w1.setCell ⟨bb,0,none⟩ (.slice A1 (n + 1) c1)) [.int .i64 (x.c:Int)] 3; rw [World.size_setCell] at this; exact this) (by simp [Value.oneCell']) (by simp only [maxLen]; omega) (by omega) (by rw [World.size_alloc]; have:=HT1.out.lt.2.1; have:=HT1.out.xb.lt; omega) ?_; intro v' w2 hown hgrow _ hat; obtain ⟨A2,c2,rfl,_⟩:=own_form hown; have hD1:=HT1.out.cornerD ((Only.refl _ _).alloc _) hgrow; obtain ⟨hT1,hTo1,hSt1⟩:=HT1.out.corner ((Only.refl _ _).alloc _) hown hgrow hat; have HT2:=jJ hT1; have HTo2:=jJ (HTo1.out.trans hTo1); have HS2:=jJ (hSt1 HS1.out); have b2c:=hD1.cell 2; have b2f:=hD1.frozen 2; have s2c:=HS2.out.cell 0; simp at b2c s2c; clear hD1 hT1 hTo1 hSt1 hown hgrow hat)))
    all_goals (
     obtain ⟨W2,hW2⟩:=jX (w2.setCell ⟨gD,2,none⟩ (.slice A2 (nc + 1) c2))
     rw [← hW2] at HT2 HTo2 HS2 s2c ⊢
     clear hW2 HT1 HTo1 HS1 b1c b1f d1c s1c b2c b2f s2c s0 c8 HTI HSB)
    rotate_left
    · have HF:=jJ (WkI.of (x:=x) (HNE.out ▸ HT2.out) HBW.out HTo2.out (by have:=HNE.out; omega) (by have:=HNE.out; omega) HO5.out)
      exact HF.out
    have HTO:Hid (Below w.heap.size w W2):=jJ (HBW.out.trans (HTo2.out.2.below HBW.out.size fun k hk h=>by have:=h.2; omega))
    have HVX:Hid (∀ V:World,Below w.heap.size w V → ∃ v:Nat,Calls Tryz.prog 17 #[.pointer (some ⟨g,0,none⟩),.int .i64 (x.c:Int)] V (IntPost V (v:Int))):=jJ fun V hV=>by
     obtain ⟨q0,q1⟩:=cv_bd HT.out.s x.hc
     obtain ⟨v,hv⟩:=Int.eq_ofNat_of_zero_le q0
     have:=(HT.out.below hV).vertex x.hc
     rw [hv] at this
     exact ⟨v,this⟩
    have KCW2:Hid (TrC W2 gD bt gs g (.slice Av nv cv) (x.c:Int)):=jJ (HT2.out.toC HS2.out)
    have HBW2:Hid (Below W2.heap.size W2 W2):=jJ (Below.refl _ _)
    obtain ⟨vx,hvx⟩:=HVX.out W2.drew (bw_drew HTO.out)
    have hvx:=jJ hvx
    refine wpIn_region_till (S:=fun w'=>w'.cell? ⟨gD,1,none⟩=some (.slice Av nv cv) ∧ w'.cell? ⟨bt,0,none⟩=some (.pointer (some ⟨g,0,none⟩)) ∧ w'.cell? ⟨gs,1,none⟩=some (.int .i64 (x.c:Int))) 9 (by kernel_rfl) (by kernel_rfl) (by rintro ⟨a,w,h⟩; exact h) ⟨KCW2.out.drew.c0,KCW2.out.drew.c1,KCW2.out.drew.c2⟩ (fun hHeld=>?_)
    refine tKk 0 ?_; (try simp only [zQ])
    refine tKk 1 ?_; (try simp only [zQ])
    refine tKk 2 ?_; (try simp only [zQ])
    refine tKk 3 ?_; (try simp only [zQ])
    refine tKk 4 ?_; (try simp only [zQ])
    refine Till.ready (rs:=[5]) (by kernel_rfl) (by simp) ?_
    refine TillEach.cons rfl (fun K hK=>?_) ?_
    · go_simp
      go_wp2_with (go_at_call 17; refine (hvx.out).mono ?_; rintro e v3 ⟨rfl,hb⟩)
      have KCv3:=jJ (KCW2.out.drew.below hb)
      have HQv3:Hid (Only (fun _=>False) W2 v3):=jJ (((Only.refl _ _).drew).trans (Only.of_below hb _))
      have HBv3:=jJ (bw_call (bw_drew HBW2.out) hb)
      clear hb
      refine hK.out _ _ ?_ (fun hHeld=>?_)
      · exact ⟨KCv3.out.c0,KCv3.out.c1,KCv3.out.c2⟩
      clear hK K
      (try simp only [zQ])
      refine Till.ready (rs:=[6]) (by kernel_rfl) (by simp) ?_
      refine TillEach.cons rfl (fun K hK=>?_) ?_
      · go_simp
        go_wp2_with fail
        obtain ⟨v4,hvU⟩:=jX (v3.alloc (.cells #[.int .i64 (vx:Int)] 3))
        have KCv4:Hid (TrC v4 gD bt gs g (.slice Av nv cv) (x.c:Int)):=by rw [hvU]; exact jJ (KCv3.out.alloc _)
        have HUv4:=jJ hvU
        rw [← hvU]
        clear hvU
        have HQv4:Hid (Only (fun _=>False) W2 v4):=by rw [HUv4.out]; exact jJ (HQv3.out.alloc _)
        refine hK.out _ _ ?_ (fun hHeld=>?_)
        · exact ⟨KCv4.out.c0,KCv4.out.c1,KCv4.out.c2⟩
        clear hK K
        (try simp only [zQ])
        refine Till.ready (rs:=[7]) (by kernel_rfl) (by simp) ?_
        refine TillEach.cons rfl (fun K hK=>?_) ?_
        · refine step_append_sl _ (by rfl) (.tmp 54) (.tmp 59) _ (by rfl) w.heap.size 3 i0 _ 1 8 Tryz.underlying30 hi0 hz0 hz1 hz2 rfl (by omega) (.slice Av nv cv) nv Vs (by rfl) (HT2.out.quiet HQv4.out).xv v4.heap.size (some ⟨v3.heap.size,0,none⟩) 1 1 [.int .i64 (vx:Int)] (by rfl) (by rw [HUv4.out]; have:=reads_new v3 #[.int .i64 (vx:Int)] 3 1 1 rfl; rw [World.size_alloc]; exact this) (by simp [Value.oneCell']) (by simp only [maxLen]; omega) (by omega) (by have:=HQv4.out.size; have:=HTO.out.size; omega) ?_
          intro A5 c5 v5 hown5 hg5 hat5
          have HO5v:=jJ hown5
          have HG5:=jJ hg5
          have HA5:=jJ hat5
          have HDV:=jJ (HT2.out.vertD HQv4.out hg5)
          have KCv5:Hid (TrC v5 gD bt gs g (.slice Av nv cv) (x.c:Int)):=jJ (KCv4.out.grown hg5 HDV.out.2.1 HDV.out.2.2 (HT2.out.rowV_step HS2.out))
          have kf:=KCv5.out.f0
          have kc:=KCv5.out.c0
          clear hown5 hg5 hat5
          refine hK.out _ _ ?_ (fun hHeld=>?_)
          · exact ⟨KCv5.out.c0,KCv5.out.c1,KCv5.out.c2⟩
          clear hK K
          (try simp only [zQ])
          refine tKk 8 ?_; (try simp only [zQ])
          refine Till.ready (rs:=[9]) (by kernel_rfl) (by simp) ?_
          refine TillEach.last rfl (fun K hK=>?_)
          go_simp
          refine hK.out _ _ ?_
          clear hK K
          (try simp only [zQ])
          refine Till.done (by kernel_rfl) ?_ _
          gi_wp2
          obtain ⟨hT3,hTo3,_⟩:=HT2.out.vert HQv4.out HO5v.out HG5.out HA5.out
          have HF:=WkI.of (x:=x) (HNE.out ▸ hT3) HBW.out (HTo2.out.trans hTo3) (by have:=HNE.out; omega) (by have:=HNE.out; omega) HO5.out
          exact HF
        exact TillEach.nil
      exact TillEach.nil
    exact TillEach.nil
  obtain ⟨nv,nc,Vs,Cs,Aw,Av,Ac,cw,cvv,cc,hT,hb,h3,h4,h5⟩:=hI
  have HTI:=jJ hT
  have HBW:=jJ hb
  have HWX:=jJ hS
  have HDM:=jJ hm
  have HD:=jJ (Nat.le_trans HB0.out.size hD)
  have HDL:Hid (b4 < D ∧ gD < D):=jJ (by
   obtain ⟨_,_,_,_,_,_,_,_,_,_,h,_⟩:=HI3.out
   exact ⟨Nat.lt_of_lt_of_le h.x4.lt hD,Nat.lt_of_lt_of_le h.xd.lt hD⟩)
  have c8:=hT.xb.cell 0
  simp at c8
  obtain ⟨n,hn⟩:=jX xs.length
  have HNE:=jJ hn
  rw [← hn] at HTI c8 h3 h4
  have hcv:Sem.run Tryz.prog (convert 50 9 (.slice Aw n cw)) W=.ok (wordB (wordX T.length (oppC T) (cv T) root)) W:=by
   have:=conv_word (l:=xs.map (·.k)) HTI.out.xw (by rw [List.map_map]; rfl)
   rw [HWX.out] at this
   exact this
  obtain ⟨SB,hSB⟩:∃ SB,wordB (wordX T.length (oppC T) (cv T) root)=.string SB:=⟨_,rfl⟩
  have HSBE:=jJ hSB
  rw [hSB] at hcv
  clear hSB
  have d0:=hT.xd.cell 0
  have d1:=hT.xd.cell 1
  have d2:=hT.xd.cell 2
  have d0f:=hT.xd.frozen 0
  simp at d0 d1 d2
  have hd1:=HTI.out.xd.set_ 0 (.string SB)
  simp at hd1
  have hne:gD ≠ b4:=hT.n4.symm
  have h41:=HTI.out.x4.far (p:=⟨gD,0,none⟩) hne.symm (.string SB)
  have e0:=hd1.cell 0
  have e1:=hd1.cell 1
  have e2:=hd1.cell 2
  have k0:=h41.cell 0
  have k1:=h41.cell 1
  have k2:=h41.cell 2
  have k0f:=h41.frozen 0
  have k1f:=h41.frozen 1
  have k2f:=h41.frozen 2
  simp at e0 e1 e2 k0 k1 k2
  clear hd1 h41 hne
  clear hT hb h5 hS hm hD hn
  go_wp2_with fail
  obtain ⟨vz,hvz⟩:=jX (((((W.setCell ⟨gD,0,none⟩ (.string SB)).setCell ⟨b4,0,none⟩ (.string SB)).setCell ⟨b4,1,none⟩ (.slice Av nv cvv)).setCell ⟨b4,2,none⟩ (.slice Ac nc cc)))
  have HZ:Hid (Blk vz b4 32 #[.string SB,.slice Av nv cvv,.slice Ac nc cc]):=jJ (by
   rw [hvz]
   simpa using (((HTI.out.x4.far (p:=⟨gD,0,none⟩) HTI.out.n4 (.string SB)).set_ 0 (.string SB)).set_ 1 (.slice Av nv cvv)).set_ 2 (.slice Ac nc cc))
  have HBZ:Hid (Below w.heap.size w vz):=jJ (by
   rw [hvz]
   exact bw_set (bw_set (bw_set (bw_set HBW.out (p:=⟨gD,0,none⟩) HTI.out.lt.2.2 _) (p:=⟨b4,0,none⟩) HTI.out.lt.1.2 _) (p:=⟨b4,1,none⟩) HTI.out.lt.1.2 _) (p:=⟨b4,2,none⟩) HTI.out.lt.1.2 _)
  have HMZ:Hid (vz.heap[D]?=some (.deferred (some []))):=jJ (by
   have q1:=HDL.out.1
   have q2:=HDL.out.2
   rw [hvz,Below.heap_setCell _ ⟨b4,2,none⟩ _ D (by simp; omega),Below.heap_setCell _ ⟨b4,1,none⟩ _ D (by simp; omega),Below.heap_setCell _ ⟨b4,0,none⟩ _ D (by simp; omega),Below.heap_setCell _ ⟨gD,0,none⟩ _ D (by simp; omega)]
   exact HDM.out)
  rw [← hvz]
  clear hvz d0 d1 d2 d0f e0 e1 e2 k0 k1 k2 k0f k1f k2f c8 hcv
  refine leaves_marks (n₀:=D) (DS:=[D]) (v:=.tuple #[.agg #[.string SB,.slice Av nv cvv,.slice Ac nc cc],.int .i64 0]) (by simp) (fun D' hD'=>by rw [List.mem_singleton.1 hD']; exact ⟨Nat.le_refl _,HMZ.out⟩) fun W' hk hs ho ht hp=>?_
  have hZ:Blk W' b4 32 #[.string SB,.slice Av nv cvv,.slice Ac nc cc]:=by
   have:=HZ.out
   unfold Blk at this ⊢
   exact (hk b4 HDL.out.1).trans this
  have q0:=hZ.cell 0
  have q1:=hZ.cell 1
  have q2:=hZ.cell 2
  simp at q0 q1 q2
  refine ⟨by simp [results,Tryz.results7,go_sem,q0,q1,q2],Av,Ac,nv,cvv,nc,cc,by rw [HSBE.out],⟨ho.trans HBZ.out.os,ht.trans HBZ.out.tape,hp.trans HBZ.out.output,Nat.le_trans HBZ.out.size hs,fun k hk'=>(hk k ?_).trans (HBZ.out.block k hk')⟩⟩
  have:=HD.out
  omega
end Go.Proofs.YtffmfhkiienmaaaGreat
