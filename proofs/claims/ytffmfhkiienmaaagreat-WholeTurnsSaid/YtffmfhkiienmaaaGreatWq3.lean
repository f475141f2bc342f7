/- border of a closed surface: Edges, behind, Walk, walked: there is none. No condition but sizes. -/
import Derived.Test.YtffmfhkiienmaaaGreatCollI
import Derived.Test.YtffmfhkiienmaaaGreatB1
import Derived.LoopNIn
import Derived.LoopIn
set_option maxRecDepth 100000
set_option maxHeartbeats 16000000
set_option linter.all false
namespace Go.Proofs.YtffmfhkiienmaaaGreat
open Go.RowKit
section
open Go.RowKit Go.Maps Go.Shelf
attribute [local irreducible] Blk World.alloc World.setCell World.cell? World.frozen? MapV MapI
theorem bedges_nil (g m:Nat) (T:List Tri) (w:World) (h:TabN w g m T) (hcl:ClosedC T) :
  Calls Tryz.prog 132 #[.pointer (some ⟨g,0,none⟩)] w (fun e w'=>e=.returned (.slice none 0 0) ∧ Below w.heap.size w w'):=by
 have HT:=jJ h
 have hn1000:=h.n
 have HTR:Hid (Calls Tryz.prog 31 #[.pointer (some ⟨g,0,none⟩)] w (IsPost w (.int .i64 T.length))):=jJ (tris_any g 0 m T w h.t.s)
 have HOP:Hid (∀ (c:Nat) (V:World),c < 3 * T.length → Below w.heap.size w V → ∃ o:Nat,Calls Tryz.prog 58 #[.pointer (some ⟨g,0,none⟩),.int .i64 (c:Int)] V (IntPost V (o:Int))):=jJ fun c V hc hV=>by
  have:=(h.below hV).opp hc
  rw [opp_clo hcl hc] at this
  exact ⟨_,this⟩
 clear h hcl
 go_enter Tryz.func132,Tryz.ntmps132
 go_wp2_with fail
 refine HTR.out.mono ?_
 rintro e w' ⟨rfl,hw⟩
 replace hw:=hw.symm
 subst hw
 have hw3:IntKind.i64.wrap (3 * (T.length:Int))=3 * (T.length:Int):=IntWalk.i64_in _ (by omega)
 go_wp2_with fail
 go_loopw [3,10] (fun sv iv wr=>∃ i:Nat,i ≤ 3 * T.length ∧ sv=.slice none 0 0 ∧ iv=.int .i64 i ∧ Hid (Below w.heap.size w wr)) (fun _ iv _=>3 * T.length - (intOf iv).toNat)
 case atStart=>exact ⟨0,by omega,rfl,rfl,jJ (Below.refl _ _)⟩
 obtain ⟨i,hi,rfl,rfl,HBr⟩:=hrel
 obtain ⟨wB,hwB⟩:=jX (wr:World)
 rw [← hwB] at HBr ⊢
 clear hwB
 by_cases hlt:i < 3 * T.length
 rotate_left
 · obtain rfl:i=3 * T.length:=by omega
   have hii:¬ ((3 * T.length:Nat):Int) < 3 * (T.length:Int):=by omega
   go_wp2_with fail
   go_ret
   exact ⟨rfl,HBr.out⟩
 have hii:(i:Int) < 3 * (T.length:Int):=by omega
 obtain ⟨o,ho⟩:=HOP.out i wB hlt HBr.out
 have HO:=jJ ho
 clear ho
 go_wp2_with fail
 refine HO.out.mono ?_
 rintro e w1 ⟨rfl,hb⟩
 have HB1:=jJ (bw_call HBr.out hb)
 clear hb
 have ho0:¬ (o:Int) < 0:=by omega
 go_wp2_with fail
 exact ⟨⟨i + 1,by omega,by first | rfl | trivial,by go_num,HB1⟩,by simp [intOf]; omega⟩
def BehPost (w:World) (e:Ending) (w':World):Prop:=∃ b:Nat,e=.returned (.map (some b)) ∧ MapI Tryz.prog 3 w' b 0 (fun _=>none) ∧ Below w.heap.size w w'
theorem behind_nil (g m:Nat) (T:List Tri) (w:World) (h:TabN w g m T) (hcl:ClosedC T) :
  Calls Tryz.prog 110 #[.pointer (some ⟨g,0,none⟩)] w (BehPost w):=by
 have HT:=jJ h
 have HCL:=jJ hcl
 clear h hcl
 have hmm:=@run_makeMap Tryz.prog
 go_enter Tryz.func110,Tryz.ntmps110
 go_upto_region 2 with (fail)
 obtain ⟨v1,hv1⟩:=jX (w.alloc (.map #[] 0))
 have HM1:Hid (MapI Tryz.prog 3 v1 w.heap.size 0 (fun _=>none)):=by rw [hv1]; exact jJ (MapI.made _ _ _)
 have HB1:Hid (Below w.heap.size w v1):=by rw [hv1]; exact jJ (bw_alloc (Below.refl _ _) _)
 rw [← hv1]
 obtain ⟨b,hb⟩:=jX w.heap.size
 rw [← hb] at HM1
 simp only [← hb]
 clear hv1 hb hmm
 go_wp2_with fail
 refine (bedges_nil g m T v1 (HT.out.below HB1.out) HCL.out).mono ?_
 rintro e v2 ⟨rfl,hb⟩
 have HM2:=jJ (HM1.out.below hb HM1.out.lt)
 have HB2:=jJ (bw_call HB1.out hb)
 clear hb HM1
 go_wp2_with fail
 go_loopw [10] (fun iv wr=>iv=.int .i64 0 ∧ wr=v2) (fun _ _=>0)
 case atStart=>exact ⟨rfl,rfl⟩
 obtain ⟨rfl,hwr⟩:=hrel
 obtain ⟨wB,hwB⟩:=jX (wr:World)
 rw [← hwB] at hwr ⊢
 clear hwB
 subst hwr
 go_wp2_with fail
 go_ret
 exact ⟨b,rfl,HM2.out,HB2.out⟩
theorem bwalk_fn (p:Option Addr) (v:Int) (w:World) :
  Calls Tryz.prog 88 #[.pointer p,.int .i64 v] w fun e w'=>e=.returned (.func (.func 109) #[] #[.pointer (some ⟨w.heap.size,0,none⟩),.pointer (some ⟨w.heap.size + 1,0,none⟩)]) ∧ w'=(w.alloc (.cells #[.pointer p] 25)).alloc (.cells #[.int .i64 v] 3):=by
 go_enter Tryz.func88,Tryz.ntmps88
 go_wp2_with fail
 go_ret
 exact ⟨by simp,rfl⟩
attribute [local go_sem] Oper.semAt_some
theorem bwalk_none (n:Nat) (hn:1 ≤ n) (b1 b2 g m:Nat) (T:List Tri) (v:Int) (Kp:World → World → Prop) (w:World) (hT:TabN w g m T) (hcl:ClosedC T) (hv:(Lit.int .i64 v).wf=true) (h1:w.cell? ⟨b1,0,none⟩=some (.pointer (some ⟨g,0,none⟩))) (h2:w.cell? ⟨b2,0,none⟩=some (.int .i64 v)) (l1:b1 < w.heap.size) (l2:b2 < w.heap.size) :
  SeqStopsK Fence.wide n Tryz.prog 109 #[.pointer (some ⟨b1,0,none⟩),.pointer (some ⟨b2,0,none⟩)] (fun x:Int=>#[.int .i64 x]) Kp (fun ys=>ys=[]) (fun _=>False) 0 w:=fun l J Jx W hW hJ hJx hY h0=>by
 have c1:=(hW.cell l1).trans h1
 have HBH:Hid (Calls Tryz.prog 110 #[.pointer (some ⟨g,0,none⟩)] W (BehPost W)):=jJ (behind_nil g m T W (hT.below hW) hcl)
 have HC2:Hid (∀ W',Below W.heap.size W W' → W'.cell? ⟨b2,0,none⟩=some (.int .i64 v)):=jJ fun W' hW'=>(hW'.cell (Nat.lt_of_lt_of_le l2 hW.size)).trans ((hW.cell l2).trans h2)
 clear hY hT h1 h2
 refine callsIn_of_wp Tryz.func109 rfl trivial ?_ rfl
 simp only [Tryz.ntmps109,List.size_toArray,List.length_cons,List.length_nil,Nat.reduceAdd,Nat.reduceSub,Array.replicate_succ,Array.replicate_zero,List.push_toArray,List.append_toArray,List.nil_append,List.cons_append]
 gi_wp2_with (first | (refine ⟨trivial,?_⟩; gi_at_call 110; refine (callsIn_wide.2 HBH.out).mono ?_; rintro e w1 ⟨b,rfl,hm,hb⟩; have c2:=HC2.out w1 hb; have hlk:=fun c=>hm.look Tryz.underlying3 Tryz.underlying155 (z:=.int .i64 0) (by kernel_rfl) hv c; have HJ1:=jJ (hJ [] W w1 none h0 ⟨hb.os,hb.tape,hb.output,hb.size,fun k hk _=>hb.block k hk⟩ (fun r e=>by cases e)); clear hm hb))
 refine ⟨(fun f hf=>by cases hf),?_⟩
 gi_wp2
 refine bodyPost_ret (results_none rfl _ _ _) rfl ?_
 exact ⟨⟨_,rfl⟩,.inl ⟨[],rfl,HJ1.out⟩⟩
end
section
theorem wpIn_loop_by {F:Fence} {n:Nat} {P:Program} {c:Code} {Q:Exit → Act → World → Prop} {a:Act} {w:World} (S:Nat → Act → World → Prop) (k:Nat) (h0:S k a w)
  (h:∀ k a w,S k a w → c.wpIn F n P (Exit.then (fun a w=>∃ j,k=j + 1 ∧ S j a w) Q) a w):(Code.loop c).wpIn F n P Q a w:=by
 have key:∀ k a w,S k a w → Code.roundsIn F n P c Q (k + 1) a w:=by
  intro k
  induction k with
  | zero =>
   intro a w hs
   rw [roundsIn_succ]
   refine wpIn_mono (h 0 a w hs) fun e a' w' hq=>?_
   cases e with
   | normal=>obtain ⟨j,hj,_⟩:=hq; omega
   | _=>exact hq
  | succ k ih =>
   intro a w hs
   rw [roundsIn_succ]
   refine wpIn_mono (h (k + 1) a w hs) fun e a' w' hq=>?_
   cases e with
   | normal =>
    obtain ⟨j,hj,hs'⟩:=hq
    obtain rfl:j=k:=by omega
    exact ih a' w' hs'
   | _=>exact hq
 exact wpIn_loop_rounds (k + 1) (key k a w h0)
theorem wp_loop_by {P:Program} {c:Code} {Q:Exit → Act → World → Prop} {a:Act} {w:World} (S:Nat → Act → World → Prop) (k:Nat) (h0:S k a w)
  (h:∀ k a w,S k a w → c.wp P (Exit.then (fun a w=>∃ j,k=j + 1 ∧ S j a w) Q) a w):(Code.loop c).wp P Q a w :=
 (wpIn_wide (n:=1)).1 (wpIn_loop_by S k h0 fun k a w hs=>(wpIn_wide (n:=1)).2 (h k a w hs))
end
section
open Go.RowKit Go.Maps Go.Shelf
def markD (D:Nat):Deferred:={ target:=.collected D,args:=#[] }
def MarksAt (n₀:Nat) (DS:List Nat) (W:World):Prop:=∀ D ∈ DS,n₀ ≤ D ∧ W.heap[D]?=some (.deferred (some []))
theorem leaves_marks {F:Fence} {n:Nat} {P:Program} {fn:Func} {tmps:Array Value} {R:Ending → World → Prop} {n₀:Nat} {v:Value}:∀ {DS:List Nat} {W:World},DS.Nodup → MarksAt n₀ DS W → (∀ W',(∀ k,k < n₀ → W'.heap[k]?=W.heap[k]?) → W.heap.size ≤ W'.heap.size → W'.os=W.os → W'.tape=W.tape → W'.output=W.output → (results fn tmps).run P W'=.ok v W' ∧ R (.returned v) W') → LeavesInM F n P fn tmps R (DS.map markD) .returning W
 | [],W,_,_,h=>⟨v,(h W (fun _ _=>rfl) (Nat.le_refl _) rfl rfl rfl).1,(h W (fun _ _=>rfl) (Nat.le_refl _) rfl rfl rfl).2⟩
 | D :: t,W,hn,hm,h=>by
  obtain ⟨h1,h2⟩:=hm D (.head _)
  obtain ⟨n1,n2⟩:=List.nodup_cons.1 hn
  refine ⟨by simp,.inl ⟨D,_,rfl,run_takeDeferred h2,leaves_marks n2 (fun D' hD'=>⟨(hm D' (.tail _ hD')).1,?_⟩) fun W' hk hs ho ht hp=>h W' (fun k hk'=>(hk k hk').trans (World.putObj_heap_other (by omega))) (by simpa using hs) ho ht hp⟩⟩
  have hne:D' ≠ D:=fun e=>n1 (e ▸ hD')
  exact (World.putObj_heap_other hne).trans (hm D' (.tail _ hD')).2
def LoS (w:World) (g m b4 bm:Nat) (k:Nat) (a:Act) (W:World):Prop :=
 ∃ (i:Nat) (DS:List Nat) (x5 x6 x7 x14 x15 x16 x17 x18 x19 x20 x21 x22 x23 x24 x25 x26 x27 x28 x29 x30 x31 x32 x33 x34 x35 x36 x37:Value),i + k=m ∧ a={ tmps:=#[.pointer (some ⟨g,0,none⟩),undef,.slice none 0 0,.slice none 0 0,.pointer (some ⟨b4,0,none⟩),x5,x6,x7,.pointer (some ⟨g,0,none⟩),.bool false,.map (some bm),.pointer (some ⟨g,0,none⟩),.int .i64 (m:Int),.int .i64 (i:Int),x14,x15,x16,x17,x18,x19,x20,x21,x22,x23,x24,x25,x26,x27,x28,x29,x30,x31,x32,x33,x34,x35,x36,x37],defers:=DS.map markD } ∧ Below w.heap.size w W ∧ w.heap.size ≤ b4 ∧ MapI Tryz.prog 3 W bm 0 (fun _=>none) ∧ Blk W b4 144 #[.map (some bm)] ∧ DS.Nodup ∧ MarksAt w.heap.size DS W
attribute [local go_sem] Oper.semAt_some
attribute [local irreducible] Blk World.alloc World.setCell World.cell? World.frozen? MapV MapI
theorem loops_nil (g m:Nat) (T:List Tri) (w:World) (h:TabN w g m T) (hcl:ClosedC T) :
  Calls Tryz.prog 60 #[.pointer (some ⟨g,0,none⟩)] w (fun e w'=>e=.returned (.slice none 0 0) ∧ Below w.heap.size w w'):=by
 have HT:=jJ h
 have HCL:=jJ hcl
 have hm4:=h.s.m1
 have HVT:Hid (∀ V:World,Below w.heap.size w V → Calls Tryz.prog 59 #[.pointer (some ⟨g,0,none⟩)] V (IsPost V (.int .i64 (m:Int)))):=jJ fun V hV=>(h.below hV).verts
 clear h hcl
 have hmm:=@run_makeMap Tryz.prog
 refine callsIn_wide.1 (callsIn_of_wp_marks (F:=Fence.wide) (n:=6) Tryz.func60 rfl trivial ?_ rfl)
 simp only [Tryz.ntmps60,List.size_toArray,List.length_cons,List.length_nil,Nat.reduceAdd,Nat.reduceSub,Array.replicate_succ,Array.replicate_zero,List.push_toArray,List.append_toArray,List.nil_append,List.cons_append]
 refine wpIn_wide.2 ?_
 go_wp2_with fail
 refine (HVT.out _ (bw_alloc (bw_alloc (Below.refl _ _) _) _)).mono ?_
 rintro e w' ⟨rfl,hw⟩
 replace hw:=hw.symm
 subst hw
 go_wp2_with fail
 obtain ⟨v1,hv1⟩:=jX ((w.alloc (.map #[] 0)).alloc (.cells #[.map (some w.heap.size)] 144))
 have HM1:Hid (MapI Tryz.prog 3 v1 w.heap.size 0 (fun _=>none)):=by rw [hv1]; exact jJ ((MapI.made _ _ _).alloc _)
 have HK1:Hid (Blk v1 (w.heap.size + 1) 144 #[.map (some w.heap.size)]):=by rw [hv1]; exact jJ (Blk.new_ (by rw [World.size_alloc]) _ _)
 have HB1:Hid (Below w.heap.size w v1):=by rw [hv1]; exact jJ (bw_alloc (bw_alloc (Below.refl _ _) _) _)
 rw [← hv1]
 obtain ⟨b4,hb4⟩:=jX (w.heap.size + 1)
 rw [← hb4] at HK1
 simp only [← hb4]
 have hb4w:w.heap.size ≤ b4:=by omega
 clear hv1 hmm hb4
 refine wp_loop_by (LoS w g m b4 w.heap.size) m ⟨0,[],undef,undef,undef,undef,undef,undef,undef,undef,undef,undef,undef,undef,undef,undef,undef,undef,undef,undef,undef,undef,undef,undef,undef,undef,undef,undef,undef,by omega,rfl,HB1.out,hb4w,HM1.out,HK1.out,List.nodup_nil,fun D hD=>by cases hD⟩ ?_
 clear HM1 HK1 HB1
 rintro k a W ⟨i,DS,x5,x6,x7,x14,x15,x16,x17,x18,x19,x20,x21,x22,x23,x24,x25,x26,x27,x28,x29,x30,x31,x32,x33,x34,x35,x36,x37,hik,rfl,hBW,_,hMW,hKW,hDN,hDM⟩
 have HBW:=jJ hBW
 have HMW:=jJ hMW
 have HKW:=jJ hKW
 have HDN:=jJ hDN
 have HDM:=jJ hDM
 clear hBW hMW hKW hDN hDM
 by_cases hlt:i < m
 rotate_left
 · obtain rfl:i=m:=by omega
   go_wp2_with fail
   refine leaves_marks (n₀:=w.heap.size) (v:=.slice none 0 0) HDN.out HDM.out fun W' hk hs ho ht hp=>⟨?_,rfl,⟨ho.trans HBW.out.os,ht.trans HBW.out.tape,hp.trans HBW.out.output,Nat.le_trans HBW.out.size hs,fun k hk'=>(hk k hk').trans (HBW.out.block k hk')⟩⟩
   simp [results,Tryz.results60,go_sem]
 have hii:(i:Int) < (m:Int):=by omega
 have q4:W.cell? ⟨b4,0,none⟩=some (.map (some w.heap.size)):=HKW.out.cell 0
 have hwf:(Lit.int .i64 (i:Int)).wf=true:=wf_small (by omega) (by omega)
 have hlk:=HMW.out.look Tryz.underlying3 Tryz.underlying144 (z:=.bool false) (by kernel_rfl) hwf false
 go_wp2_with fail
 refine (bwalk_fn (some ⟨g,0,none⟩) (i:Int) W).mono ?_
 rintro e w' ⟨rfl,hw⟩
 replace hw:=hw.symm
 subst hw
 obtain ⟨v2,hv2⟩:=jX ((W.alloc (.cells #[.pointer (some ⟨g,0,none⟩)] 25)).alloc (.cells #[.int .i64 (i:Int)] 3))
 have HW2:Hid (Below W.heap.size W v2):=by rw [hv2]; exact jJ (bw_alloc (bw_alloc (Below.refl _ _) _) _)
 have HC2:Hid (v2.cell? ⟨W.heap.size,0,none⟩=some (.pointer (some ⟨g,0,none⟩)) ∧ v2.cell? ⟨W.heap.size + 1,0,none⟩=some (.int .i64 (i:Int)) ∧ v2.heap.size=W.heap.size + 2):=by
  rw [hv2]
  exact jJ ⟨((Blk.new W 25 #[.pointer (some ⟨g,0,none⟩)]).alloc _).cell 0,(Blk.new_ (by rw [World.size_alloc]) 3 #[.int .i64 (i:Int)]).cell 0,by simp⟩
 rw [← hv2]
 have HCO:Hid (Calls Tryz.prog 87 #[.func (.func 109) #[] #[.pointer (some ⟨W.heap.size,0,none⟩),.pointer (some ⟨W.heap.size + 1,0,none⟩)]] v2 (fun e w'=>∃ (v:Value) (ss:List Int),e=.returned v ∧ ss=[] ∧ w'.ownsRow v2.heap.size 3 1 v ss.length (ZL ss) ∧ Below v2.heap.size v2 w')):=jJ (callsIn_wide.1 (collectI_in 6 (by omega) 109 _ (enters_of Tryz.func109 (by kernel_rfl) rfl) (fun ss=>ss=[]) (fun _=>False) 0 (by omega) v2 (bwalk_none (6 - 1 - 1) (by omega) W.heap.size (W.heap.size + 1) g m T (i:Int) _ v2 (HT.out.below (bw_call HBW.out HW2.out)) HCL.out hwf HC2.out.1 HC2.out.2.1 (by have:=HC2.out.2.2; omega) (by have:=HC2.out.2.2; omega))))
 clear hv2 hlk q4
 go_wp2_with fail
 refine HCO.out.mono ?_
 rintro e v3 ⟨vl,ss,rfl,rfl,hr3,hb3⟩
 obtain ⟨Al,cl,rfl,_⟩:=own_form hr3
 have HB3:=jJ (bw_call (bw_call HBW.out HW2.out) hb3)
 have HM3:=jJ ((HMW.out.below HW2.out HMW.out.lt).below hb3 (Nat.lt_of_lt_of_le HMW.out.lt HW2.out.size))
 have HK3:=jJ (blk_call (blk_call HKW.out HW2.out) hb3)
 have HD3:Hid (MarksAt w.heap.size DS v3):=jJ fun D hD=>⟨(HDM.out D hD).1,by
  have h1:=(HDM.out D hD).2
  have h2:=(Array.getElem?_eq_some_iff.1 h1).1
  exact (hb3.block D (Nat.lt_of_lt_of_le h2 HW2.out.size)).trans ((HW2.out.block D h2).trans h1)⟩
 clear hr3 hb3 HCO HC2 HW2 HBW HMW HKW HDM
 go_wp2_with fail
 refine (bwalk_fn (some ⟨g,0,none⟩) (i:Int) v3).mono ?_
 rintro e w' ⟨rfl,hw⟩
 replace hw:=hw.symm
 subst hw
 go_wp2_with fail
 obtain ⟨v4,hv4⟩:=jX ((v3.alloc (.cells #[.pointer (some ⟨g,0,none⟩)] 25)).alloc (.cells #[.int .i64 (i:Int)] 3))
 have HW4:Hid (Below v3.heap.size v3 v4):=by rw [hv4]; exact jJ (bw_alloc (bw_alloc (Below.refl _ _) _) _)
 have HC4:Hid (v4.cell? ⟨v3.heap.size,0,none⟩=some (.pointer (some ⟨g,0,none⟩)) ∧ v4.cell? ⟨v3.heap.size + 1,0,none⟩=some (.int .i64 (i:Int)) ∧ v4.heap.size=v3.heap.size + 2):=by
  rw [hv4]
  exact jJ ⟨((Blk.new v3 25 #[.pointer (some ⟨g,0,none⟩)]).alloc _).cell 0,(Blk.new_ (by rw [World.size_alloc]) 3 #[.int .i64 (i:Int)]).cell 0,by simp⟩
 have HM4:=jJ (HM3.out.below HW4.out HM3.out.lt)
 have HK4:=jJ (blk_call HK3.out HW4.out)
 have HB4:=jJ (bw_call HB3.out HW4.out)
 have HD4:Hid (MarksAt w.heap.size DS v4 ∧ ∀ D ∈ DS,D < v4.heap.size):=jJ (by
  have:MarksAt w.heap.size DS v4:=fun D hD=>⟨(HD3.out D hD).1,by
   have h1:=(HD3.out D hD).2
   have h2:=(Array.getElem?_eq_some_iff.1 h1).1
   exact (HW4.out.block D h2).trans h1⟩
  exact ⟨this,fun D hD=>(Array.getElem?_eq_some_iff.1 (this D hD).2).1⟩)
 rw [← hv4]
 clear hv4 HM3 HK3 HB3 HD3
 refine (wpIn_wide (n:=6)).1 ?_
 refine wpIn_rangeFunc_ownH rfl (by omega) (gf := 109) (lb:=#[.pointer (some ⟨v3.heap.size,0,none⟩),.pointer (some ⟨v3.heap.size + 1,0,none⟩)]) rfl trivial (enters_of Tryz.func109 (by kernel_rfl) rfl)
  (bwalk_none (6 - 1) (by omega) v3.heap.size (v3.heap.size + 1) g m T (i:Int) (Only (fun k=>v4.heap.size ≤ k)) v4 (HT.out.below HB4.out) HCL.out hwf HC4.out.1 HC4.out.2.1 (by have:=HC4.out.2.2; omega) (by have:=HC4.out.2.2; omega)) onlyI_t (onlyI_b (fun k hk=>hk)) (Below.refl _ _) (fun _=>rfl)
  (fun (_:List Int) W=>Below v4.heap.size v4 W) (fun _ _ _=>False)
  (ownFrom_below (Nat.le_refl _) (Nat.le_refl _)) (fun _ _ _ _ _ hs _ _=>hs) (Below.refl _ _)
  (fun _ _ _=>True) (fun _ _ _ _ _ _ h _ _=>h) ?assign ?body ?done ?stop
 case assign =>
  intro l pre x V K hI hK
  gi_wp2
  exact hK _ _ (KeepsFrom.refl _ _) (Only.refl _ _) hI trivial
 case body =>
  intro l pre x a' V _ _ _ _ hlt
  exact absurd hlt (by omega)
 case stop =>
  intro D c pre V _ _ h _
  exact h.elim
 case done =>
  rintro D ys V hD rfl hB hK
  have HB5:=jJ hB
  have HK5:=jJ hK
  have hD':=hD
  clear hB hK HC4 HW4
  go_wp2_with fail
  have hmd:MarksAt w.heap.size (D :: DS) V:=fun D' hD'=>by
   rcases List.mem_cons.1 hD' with rfl | hD'
   · exact ⟨Nat.le_trans HB4.out.size hD,HK5.out⟩
   exact ⟨(HD4.out.1 D' hD').1,(HB5.out.block D' (HD4.out.2 D' hD')).trans (HD4.out.1 D' hD').2⟩
  have hnd:(D :: DS).Nodup:=List.nodup_cons.2 ⟨fun hm=>by have:=HD4.out.2 D hm; omega,HDN.out⟩
  exact ⟨k - 1,by omega,i + 1,D :: DS,_,_,_,_,_,_,_,_,_,_,_,_,_,_,_,_,_,_,_,_,_,_,_,_,_,_,_,by omega,rfl,bw_call HB4.out HB5.out,hb4w,HM4.out.below HB5.out HM4.out.lt,blk_call HK4.out HB5.out,hnd,hmd⟩
end
end Go.Proofs.YtffmfhkiienmaaaGreat
