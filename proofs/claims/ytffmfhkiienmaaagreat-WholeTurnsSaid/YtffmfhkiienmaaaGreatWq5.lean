/- A loop over an iterator that writes blocks of its own between two rounds: the law. No condition. -/
import Derived.Test.YtffmfhkiienmaaaGreatB1
import Derived.RangeFuncKeeps
import Derived.RangeFuncBound
import Derived.RangeFuncCalls
import Derived.Test.YtffmfhkiienmaaaGreatCornerB
import Derived.RangeFuncNested
import Derived.Shelf.RegionOpen
import Derived.OwnWalkIn
import Derived.TacticsInMore
import Derived.LoopNIn
import Derived.LoopIn
import Derived.Test.YtffmfhkiienmaaaGreatWq1
set_option maxRecDepth 100000
set_option maxHeartbeats 16000000
set_option linter.all false
namespace Go.Proofs.YtffmfhkiienmaaaGreat
open Go.RowKit
section
section
variable {α:Type} {n:Nat} {P:Program}
def SeqOwn (F:Fence) (n:Nat) (P:Program) (g:Nat) (lb:Array Value) (encs:α → Array Value) (S:List α → Prop) (N n₀:Nat) (w:World):Prop :=
 ∀ (l:Nat) (J:List α → (Nat → Prop) → World → Prop) (W:World),Below w.heap.size w W →
  (∀ xs O O' A B,J xs O A → Only O A B → (∀ k,O' k → O k ∨ A.heap.size ≤ k) → (∀ k,O' k → k < B.heap.size) → J xs O' B) →
  (∀ xs x O W1,J xs O W1 → xs.length < N → YieldAt F (n - 1) P l (encs x) W1 fun e W2=>e=.returned (.bool true) ∧ J (xs ++ [x]) O W2 ∧ Only (fun k=>¬ O k ∧ n₀ ≤ k) W1 W2) →
  J [] (fun _=>False) W →
  CallsIn F n P g (#[.func (.yield l) #[] #[]] ++ lb) W fun e W'=>(∃ v,e=.returned v) ∧ ∃ xs O,S xs ∧ J xs O W'
def roundO (n₀:Nat) (I:List α → (Nat → Prop) → World → Prop) (xs:List α) (O:Nat → Prop) (W:World):Exit → Act → World → Prop
 | .normal,_,W'=>KeepsOthers W W' ∧ Only (fun k=>¬ O k ∧ n₀ ≤ k) W W' ∧ I xs O W'
 | _,_,_=>False
theorem only_put {O:Nat → Prop} {W:World} {n₀ r:Nat} (o:Obj) (h:¬ O r) (hn₀:n₀ ≤ r):Only (fun k=>¬ O k ∧ n₀ ≤ k) W (W.putObj r o) :=
 ⟨rfl,rfl,rfl,by simp,fun k hk hn=>World.putObj_heap_other fun e=>hn (e ▸ ⟨h,hn₀⟩)⟩
theorem wpIn_range_own {F:Fence} {g:Operand} {ps:Array Tmp} {assign body:Code} {Q:Exit → Act → World → Prop} {a:Act} {w:World}
  (hro:F.round=none) (h1:1 ≤ n) {gf:Nat} {lb:Array Value} (hg:a.eval g=.func (.func gf) #[] lb) (hFg:F.fn gf) (eg:∀ args w,(callFunc gf args).run P w=.ok (.enter gf args) w)
  {encs:α → Array Value} {S:List α → Prop} {N n₀:Nat} (hseq:SeqOwn F (n - 1) P gf lb encs S N n₀ w) (hn₀:n₀ ≤ w.heap.size) (hps:∀ x,(encs x).size=ps.size)
  (I:List α → (Nat → Prop) → World → Prop) (Ax:List α → α → (Nat → Prop) → Act → World → Prop)
  (hI:∀ xs O O' A B,I xs O A → Only O A B → (∀ k,O' k → O k ∨ A.heap.size ≤ k) → (∀ k,O' k → k < B.heap.size) → I xs O' B)
  (hIp:∀ xs O W r o o',I xs O W → w.heap.size ≤ r → W.heap[r]?=some o → o.isCells=false → I xs O (W.putObj r o'))
  (hAp:∀ xs x O a1 W r o o',Ax xs x O a1 W → w.heap.size ≤ r → W.heap[r]?=some o → o.isCells=false → Ax xs x O a1 (W.putObj r o'))
  (h0:I [] (fun _=>False) w)
  (hassign:∀ (l:Nat) (xs:List α) (x:α) (O:Nat → Prop) (W:World),I xs O W → xs.length < N →
   assign.wpIn (F.inRound l) (n - 1 - 1) P (Exit.then (fun a1 W1=>KeepsOthers W W1 ∧ Only (fun k=>¬ O k ∧ n₀ ≤ k) W W1 ∧ Ax xs x O a1 W1) (fun _ _ _=>False)) { tmps:=(ps.zip (encs x)).foldl (fun t (p,v)=>t.setIfInBounds p v) a.tmps,defers:=[] } W)
  (hbody:∀ (l:Nat) (xs:List α) (x:α) (O:Nat → Prop) (a1:Act) (W:World),Ax xs x O a1 W → body.wpIn (F.inRound l) (n - 1 - 1) P (roundO n₀ I (xs ++ [x]) O W) a1 W)
  (hdone:∀ (D:Nat) (xs:List α) (O:Nat → Prop) (W:World),S xs → I xs O W → w.heap.size ≤ D → W.heap[D]?=some (.deferred (some [])) → Q .normal { a with defers:={ target:=.collected D,args:=#[] } :: a.defers } W) :
  (Code.rangeFunc g ps assign body).wpIn F n P Q a w:=by
 refine wpIn_rangeFunc fun fn hfn=>?_
 rw [hro]
 let D:=w.heap.size
 let wD:=w.alloc (.deferred (some []))
 have hLD:wD.heap.size=D + 1:=by simp [wD,D]
 let ready:Loop:={ state:=.ready,pending:=none,fn,tmps:=a.tmps,params:=ps,assign,body,defers:=D }
 have hw1:∃ W1,W1=wD.alloc (.loop ready):=⟨_,rfl⟩
 obtain ⟨W1,hW1⟩:=hw1
 have r1:W1.heap[D + 1]?=some (.loop ready):=by
  rw [hW1,← hLD]
  exact World.alloc_heap_new wD _
 have r0:W1.heap[D]?=some (.deferred (some [])):=by
  rw [hW1]
  exact (Below.heap_alloc wD _ D (by omega)).trans (World.alloc_heap_new w _)
 have hO1:Only (fun _=>False) w W1:=by
  rw [hW1]
  exact ((Only.refl _ w).alloc _).alloc _
 have hB1:Below w.heap.size w W1:=hO1.below (Nat.le_refl _) fun k _ h=>h
 have hI1:I [] (fun _=>False) W1:=hI [] _ _ w W1 h0 hO1 (fun k h=>h.elim) fun k h=>h.elim
 refine ⟨D + 1,[{ target:=.collected D,args:=#[] }],W1,{ target:=.fn (.func gf) lb,args:=#[.func (.yield (D + 1)) #[] #[]] },W1,gf,#[.func (.yield (D + 1)) #[] #[]] ++ lb,W1,?_,?_,?_,?_,fun _=>h1,?_⟩
 · rw [hW1]
   exact run_enterLoop_outer _ _ _ _ _
 · simp only [resolve,hg]
   simp [go_sem]
 · intro f' hf'
   simp [Target.leads] at hf'
   subst hf'
   exact hFg
 · simp [invoke,go_sem,eg]
 have key:=hseq (D + 1) (fun xs O W=>I xs O W ∧ W.heap[D + 1]?=some (.loop ready) ∧ W.heap[D]?=some (.deferred (some [])) ∧ ¬ O (D + 1) ∧ ¬ O D) W1 hB1
  (fun xs O O' A B ⟨q1,q2,q3,q4,q5⟩ ho hO' hlO=>by
   have s2:=(Array.getElem?_eq_some_iff.1 q2).1
   have s3:=(Array.getElem?_eq_some_iff.1 q3).1
   refine ⟨hI xs O O' A B q1 ho hO' hlO,(ho.block _ s2 q4).trans q2,(ho.block _ s3 q5).trans q3,fun h=>?_,fun h=>?_⟩
   · rcases hO' _ h with h | h
     · exact q4 h
     omega
   rcases hO' _ h with h | h
   · exact q5 h
   omega)
  (fun xs x O W ⟨q1,q2,q3,q4,q5⟩ hlen=>by
   refine ⟨fn,_,assign,body,run_yield (P:=P) (args:=encs x) q2 (hps x),roundIn_of_wpIn hfn (wpIn_mono (hassign (D + 1) xs x O W q1 hlen) ?_)⟩
   rintro e a1 Wa hx
   cases e with
   | normal =>
    obtain ⟨k1,o1,x1⟩:=hx
    have b2:=k1.same _ _ q2 rfl
    have b3:=k1.same _ _ q3 rfl
    have sb:=(Array.getElem?_eq_some_iff.1 b2).1
    refine ⟨_,run_beginRound b2 rfl,wpIn_mono (hbody (D + 1) xs x O a1 _ (hAp xs x O a1 Wa _ _ _ x1 (by omega) b2 rfl)) ?_⟩
    have c2:(Wa.putObj (D + 1) (.loop { ready with state:=.busy })).heap[D + 1]?=some (.loop { ready with state:=.busy }):=World.putObj_heap_same sb
    have c3:(Wa.putObj (D + 1) (.loop { ready with state:=.busy })).heap[D]?=some (.deferred (some [])):=(World.putObj_heap_other (by omega)).trans b3
    rintro e2 a2 Wb hy
    cases e2 with
    | normal =>
     obtain ⟨k2,o2,i2⟩:=hy
     have d2:=k2.same _ _ c2 rfl
     have d3:=k2.same _ _ c3 rfl
     have sd:=(Array.getElem?_eq_some_iff.1 d2).1
     refine ⟨.bool true,_,run_endRound none d2,rfl,⟨hIp _ _ _ _ _ _ i2 (by omega) d2 rfl,World.putObj_heap_same sd,(World.putObj_heap_other (by omega)).trans d3,q4,q5⟩,?_⟩
     exact ((o1.trans (only_put _ q4 (by omega))).trans o2).trans (only_put _ q4 (by omega))
    | _=>exact hy.elim
   | _=>exact hx.elim)
  ⟨hI1,r1,r0,fun h=>h,fun h=>h⟩
 refine key.mono ?_
 rintro e W2 ⟨⟨v,rfl⟩,xs,O,hS,q1,q2,q3,q4,q5⟩
 exact ⟨none,_,run_endLoop q2 (by simp [ready]),hdone D xs O _ hS (hIp _ _ _ _ _ _ q1 (by omega) q2 rfl) (Nat.le_refl _) ((World.putObj_heap_other (by omega)).trans q3)⟩
end
end
section
section
variable {P:Program} {l n:Nat} {Q:Exit → Act → World → Prop}
def noDefer (ops:Array Oper):Bool:=ops.all fun o=>match o.op with
 | .defer _=>false
 | _=>true
theorem noDefer_at {ops:Array Oper} (h:noDefer ops=true) {i:Nat} {o:Oper} (ho:ops[i]?=some o):∀ c,o.op ≠ .defer c:=by
 unfold noDefer at h
 rw [Array.all_eq_true'] at h
 have hm:=h o (Array.mem_of_getElem? ho)
 intro c e
 rw [e] at hm
 cases hm
theorem rowsIn_wide {row:String} {args:Array Value} {w:World} {R:Value → World → Prop} (h:Rows P row args w R):RowsIn (Fence.wide.inRound l) n P row args w R:=fun c cs _=>by
 obtain ⟨v,w',r,s⟩:=h c cs
 exact ⟨v,w',r,stepsIn_wide.2 s⟩
theorem wp_in {o:Oper} {a:Act} {w:World} {K:Act → World → Prop} (hd:∀ c,o.op ≠ .defer c) (h:o.wp P a w K Q):o.wpIn (Fence.wide.inRound l) n P a w K Q:=by
 refine ⟨fun _ _=>trivial,?_⟩
 rw [Oper.semAt_eq _ _ _ hd]
 unfold Oper.wp at h
 generalize (execOp a.eval o).run P w=r at *
 cases r with
 | ok nx w' =>
  cases nx with
  | value v=>exact h
  | skip=>exact h
  | defer d=>exact h
  | enter f args=>exact ⟨fun e=>(by cases e),CallsIn.inRound l (callsIn_wide.2 h)⟩
  | row s args=>exact ⟨fun e=>(by cases e),rowsIn_wide h⟩
  | _=>exact h.elim
 | halt hh w' =>
  cases hh with
  | panic v=>exact h
  | _=>exact h.elim
theorem wpOp_in {ops:Array Oper} (hd:noDefer ops=true) (hQ:¬ LetsOut Q) {i:Nat} {K K':Act → World → Prop} {a:Act} {w:World} (hK:∀ a w,K a w → K' a w) (h:wpOp P ops Q i K a w):wpOpIn (Fence.wide.inRound l) n P ops Q i K' a w:=by
 unfold wpOp at h
 unfold wpOpIn
 cases ho:ops[i]? with
 | none=>rw [ho] at h; exact hK _ _ h
 | some o =>
  rw [ho] at h
  simp only at h ⊢
  split
  · rename_i hw
    rw [if_pos hw] at h
    exact wp_in (noDefer_at hd ho) (Oper.wp_mono hK (h.resolve_right fun e=>hQ e.2))
  rename_i hw
  rw [if_neg hw] at h
  exact ⟨fun _ _=>trivial,hK _ _ h⟩
theorem any_in {md:Region.Mode} {ops:Array Oper} (hd:noDefer ops=true) (hQ:¬ LetsOut Q):∀ (fuel:Nat) (listed:Array Bool) (a:Act) (w:World),wpAny P md ops Q fuel listed a w → wpAnyIn (Fence.wide.inRound l) n P md ops Q fuel listed a w
 | 0,_,_,_,h=>h
 | fuel + 1,listed,a,w,h=>⟨h.1,fun i hi=>wpOp_in hd hQ (fun a w hk=>any_in hd hQ fuel _ a w hk) (h.2 i hi)⟩
theorem wpIn_region_till {ops:Array Oper} {S:World → Prop} {id:Nat} {a:Act} {w:World} (r:Nat) (hm:P.follows .mixedOrders=true) (hd:noDefer ops=true) (hQ:¬ LetsOut Q) (hS:S w.drew)
  (h:S w.drew → Till P .any ops Q S r ops.size (Array.replicate ops.size false) a w.drew):(Code.region id ops true).wpIn (Fence.wide.inRound l) n P Q a w :=
 wpIn_region_any hm (any_in hd hQ _ _ _ _ (Till.any _ (h hS)))
end
end
section
def OTr (bt b4 bb gD:Nat) (Aw Av Ac:Option Addr) (k:Nat):Prop:=(k=bt ∨ k=b4) ∨ k=bb ∨ k=gD ∨ (Value.slice Aw 0 0).ownBlock=some k ∨ (Value.slice Av 0 0).ownBlock=some k ∨ (Value.slice Ac 0 0).ownBlock=some k
structure TrI (W:World) (B bt b4 bb gD g n nv nc:Nat) (ks Vs Cs:List Value) (Aw Av Ac:Option Addr) (cw cv cc:Nat) (O:Nat → Prop):Prop where
 xt:Blk W bt 25 #[.pointer (some ⟨g,0,none⟩)]
 x4:Blk W b4 32 #[.string ⟨#[]⟩,.slice none 0 0,.slice none 0 0]
 n4:b4 ≠ gD
 xb:Blk W bb 50 #[.slice Aw n cw]
 xd:Blk W gD 32 #[.string ⟨#[]⟩,.slice Av nv cv,.slice Ac nc cc]
 xw:W.ownsRow B 5 1 (.slice Aw n cw) n ks
 xv:W.ownsRow B 3 1 (.slice Av nv cv) nv Vs
 xc:W.ownsRow B 3 1 (.slice Ac nc cc) nc Cs
 vc:∀ k,(Value.slice Av 0 0).ownBlock=some k → (Value.slice Ac 0 0).ownBlock ≠ some k
 lt:(B ≤ bt ∧ B ≤ b4) ∧ B ≤ bb ∧ B ≤ gD
 o:∀ k,O k → k < W.heap.size ∧ ¬ OTr bt b4 bb gD Aw Av Ac k
theorem keeps_only {W W1:World} (h:Only (fun _=>False) W W1):KeepsOthers W W1:=⟨h.size,fun k o hk ho=>(h.block k (Array.getElem?_eq_some_iff.1 hk).1 fun h=>h).trans hk⟩
theorem keeps_own {W W1:World} {B n:Nat} {e:TypeId} {v:Value} {xs:List Value} (hg:W.grownBy W1 v.ownBlock) (h:W.ownsRow B e 1 v n xs):KeepsOthers W W1:=KeepsOthers.of_grownBy hg fun j o hj ho=>by
 obtain ⟨cs,hcs⟩:=own_blk h hj
 unfold Blk at hcs
 rw [hcs] at ho
 injection ho with ho
 rw [← ho]
 rfl
section
variable {W W1 W2:World} {B bt b4 bb gD g n nv nc:Nat} {ks Vs Cs:List Value} {Aw Av Ac:Option Addr} {cw cv cc:Nat} {O O':Nat → Prop}
theorem TrI.own_ge (h:TrI W B bt b4 bb gD g n nv nc ks Vs Cs Aw Av Ac cw cv cc O) {k:Nat} (hk:OTr bt b4 bb gD Aw Av Ac k):B ≤ k ∧ k < W.heap.size:=by
 rcases hk with (rfl | rfl) | rfl | rfl | hk | hk | hk
 · exact ⟨h.lt.1.1,h.xt.lt⟩
 · exact ⟨h.lt.1.2,h.x4.lt⟩
 · exact ⟨h.lt.2.1,h.xb.lt⟩
 · exact ⟨h.lt.2.2,h.xd.lt⟩
 · exact h.xw.lt k (by rw [← hk]; exact slice_own _ _ _ _ _)
 · exact h.xv.lt k (by rw [← hk]; exact slice_own _ _ _ _ _)
 exact h.xc.lt k (by rw [← hk]; exact slice_own _ _ _ _ _)
theorem TrI.only {F:Nat → Prop} (h:TrI W B bt b4 bb gD g n nv nc ks Vs Cs Aw Av Ac cw cv cc O) (ho:Only F W W2) (hF:∀ k,OTr bt b4 bb gD Aw Av Ac k → ¬ F k) (hO:∀ k,O' k → k < W2.heap.size ∧ ¬ OTr bt b4 bb gD Aw Av Ac k) :
  TrI W2 B bt b4 bb gD g n nv nc ks Vs Cs Aw Av Ac cw cv cc O' :=
 ⟨h.xt.only ho (hF _ (.inl (.inl rfl))),h.x4.only ho (hF _ (.inl (.inr rfl))),h.n4,h.xb.only ho (hF _ (.inr (.inl rfl))),h.xd.only ho (hF _ (.inr (.inr (.inl rfl)))),
  own_same h.xw fun k hk=>ho.block k (h.xw.lt k hk).2 (hF _ (.inr (.inr (.inr (.inl (by rw [← hk]; exact slice_own _ _ _ _ _)))))),
  own_same h.xv fun k hk=>ho.block k (h.xv.lt k hk).2 (hF _ (.inr (.inr (.inr (.inr (.inl (by rw [← hk]; exact slice_own _ _ _ _ _))))))),
  own_same h.xc fun k hk=>ho.block k (h.xc.lt k hk).2 (hF _ (.inr (.inr (.inr (.inr (.inr (by rw [← hk]; exact slice_own _ _ _ _ _))))))),h.vc,h.lt,hO⟩
theorem TrI.quiet (h:TrI W B bt b4 bb gD g n nv nc ks Vs Cs Aw Av Ac cw cv cc O) (ho:Only (fun _=>False) W W2):TrI W2 B bt b4 bb gD g n nv nc ks Vs Cs Aw Av Ac cw cv cc O :=
 h.only ho (fun _ _ h=>h) fun k hk=>⟨Nat.lt_of_lt_of_le (h.o k hk).1 ho.size,(h.o k hk).2⟩
theorem TrI.comes {A:World} (h:TrI A B bt b4 bb gD g n nv nc ks Vs Cs Aw Av Ac cw cv cc O) (ho:Only O A W2) (h1:∀ k,O' k → O k ∨ A.heap.size ≤ k) (h2:∀ k,O' k → k < W2.heap.size):TrI W2 B bt b4 bb gD g n nv nc ks Vs Cs Aw Av Ac cw cv cc O' :=
 h.only ho (fun k hk hO=>(h.o k hO).2 hk) fun k hk=>⟨h2 k hk,fun e=>by
  rcases h1 k hk with h' | h'
  · exact (h.o k h').2 e
  have:=(h.own_ge e).2
  omega⟩
theorem TrI.put {r:Nat} {o o':Obj} (h:TrI W B bt b4 bb gD g n nv nc ks Vs Cs Aw Av Ac cw cv cc O) (hr:W.heap[r]?=some o) (hc:o.isCells=false):TrI (W.putObj r o') B bt b4 bb gD g n nv nc ks Vs Cs Aw Av Ac cw cv cc O:=by
 have ho:Only (fun k=>k=r) W (W.putObj r o'):=⟨rfl,rfl,rfl,by simp,fun k hk hn=>World.putObj_heap_other hn⟩
 have key:∀ {t:TypeId} {cs:Array Value},¬ Blk W r t cs:=fun hb=>by
  unfold Blk at hb
  rw [hb] at hr
  injection hr with hr
  rw [← hr] at hc
  cases hc
 refine h.only ho (fun k hk e=>?_) fun k hk=>⟨by simpa using (h.o k hk).1,(h.o k hk).2⟩
 subst e
 rcases hk with (rfl | rfl) | rfl | rfl | hk | hk | hk
 · exact key h.xt
 · exact key h.x4
 · exact key h.xb
 · exact key h.xd
 · obtain ⟨cs,hcs⟩:=own_blk h.xw (by rw [← hk]; exact slice_own _ _ _ _ _)
   exact key hcs
 · obtain ⟨cs,hcs⟩:=own_blk h.xv (by rw [← hk]; exact slice_own _ _ _ _ _)
   exact key hcs
 obtain ⟨cs,hcs⟩:=own_blk h.xc (by rw [← hk]; exact slice_own _ _ _ _ _)
 exact key hcs
def Told (B:Nat) (O:Nat → Prop) (W W':World):Prop:=KeepsOthers W W' ∧ Only (fun k=>¬ O k ∧ B ≤ k) W W'
theorem Told.trans (h:Told B O W W1) (k:Told B O W1 W2):Told B O W W2:=⟨h.1.trans k.1,h.2.trans k.2⟩
theorem Told.quiet (h:Only (fun _=>False) W W1):Told B O W W1:=⟨keeps_only h,h.mono fun _ _ h=>h.elim⟩
theorem TrI.word {A':Option Addr} {c':Nat} {u:Value} (h:TrI W B bt b4 bb gD g n nv nc ks Vs Cs Aw Av Ac cw cv cc O) (h0:Only (fun _=>False) W W1) (hown:W2.ownsRow B 5 1 (.slice A' (n + 1) c') (n + 1) (ks ++ [u])) (hg:W1.grownBy W2 (Value.slice Aw n cw).ownBlock)
  (hat:(Value.slice A' (n + 1) c').ownBlock=(Value.slice Aw n cw).ownBlock ∨ (Value.slice A' (n + 1) c').ownBlock=some W1.heap.size) :
  TrI (W2.setCell ⟨bb,0,none⟩ (.slice A' (n + 1) c')) B bt b4 bb gD g (n + 1) nv nc (ks ++ [u]) Vs Cs A' Av Ac c' cv cc O ∧ Told B O W (W2.setCell ⟨bb,0,none⟩ (.slice A' (n + 1) c'))  ∧ ∀ {gs:Nat} {cs:Array Value},Blk W gs 55 cs → Blk (W2.setCell ⟨bb,0,none⟩ (.slice A' (n + 1) c')) gs 55 cs:=by
 have h1:=h.quiet h0
 have tbw:=own_blk_ne h1.xw h1.xt (by decide)
 have b4w:=own_blk_ne h1.xw h1.x4 (by decide)
 have bbw:=own_blk_ne h1.xw h1.xb (by decide)
 have dbw:=own_blk_ne h1.xw h1.xd (by decide)
 have ne1:=h1.xt.ne_ h1.xb (by decide)
 have ne4:=h1.x4.ne_ h1.xb (by decide)
 have ne2:=h1.xd.ne_ h1.xb (by decide)
 have hO2:Only (fun k=>(Value.slice Aw n cw).ownBlock=some k) W1 W2:=(Only.refl _ _).grown hg fun k hk=>.inl hk
 have hnv:∀ k,(Value.slice Av nv cv).ownBlock=some k → (Value.slice Aw n cw).ownBlock ≠ some k:=fun k hk=>by
  obtain ⟨cs,hcs⟩:=own_blk h1.xv hk
  exact own_blk_ne h1.xw hcs (by decide)
 have hnc:∀ k,(Value.slice Ac nc cc).ownBlock=some k → (Value.slice Aw n cw).ownBlock ≠ some k:=fun k hk=>by
  obtain ⟨cs,hcs⟩:=own_blk h1.xc hk
  exact own_blk_ne h1.xw hcs (by decide)
 have hb2:=h1.xb.only hO2 bbw
 have hsz:=hO2.size
 refine ⟨⟨(h1.xt.only hO2 tbw).far (p:=⟨bb,0,none⟩) ne1 _,(h1.x4.only hO2 b4w).far (p:=⟨bb,0,none⟩) ne4 _,h1.n4,by simpa using hb2.set_ 0 (.slice A' (n + 1) c'),(h1.xd.only hO2 dbw).far (p:=⟨bb,0,none⟩) ne2 _,own_off hown hb2 (by decide) _ _,
  own_off (own_same h1.xv fun k hk=>hO2.block k (h1.xv.lt k hk).2 (hnv k hk)) hb2 (by decide) _ _,own_off (own_same h1.xc fun k hk=>hO2.block k (h1.xc.lt k hk).2 (hnc k hk)) hb2 (by decide) _ _,h1.vc,h1.lt,fun k hk=>?_⟩,?_,fun hgs=>((hgs.only h0 fun h=>h).only hO2 (own_blk_ne h1.xw (hgs.only h0 fun h=>h) (by decide))).far (p:=⟨bb,0,none⟩) ((hgs.only h0 fun h=>h).ne_ h1.xb (by decide)) _⟩
 · obtain ⟨q1,q2⟩:=h1.o k hk
   refine ⟨by rw [World.size_setCell]; omega,?_⟩
   rintro (e | e | e | e | e | e)
   · exact q2 (.inl e)
   · exact q2 (.inr (.inl e))
   · exact q2 (.inr (.inr (.inl e)))
   · rw [slice_own A' 0 0 (n + 1) c'] at e
     rcases hat with h' | h'
     · exact q2 (.inr (.inr (.inr (.inl (by rw [slice_own Aw 0 0 n cw,← h',e])))))
     rw [h'] at e
     injection e with e
     omega
   · exact q2 (.inr (.inr (.inr (.inr (.inl e)))))
   exact q2 (.inr (.inr (.inr (.inr (.inr e)))))
 refine (Told.quiet h0).trans ⟨(keeps_own hg h1.xw).trans (KeepsOthers.setCell _ _ _),?_⟩
 refine (hO2.mono fun k hk he=>⟨fun hOk=>(h1.o k hOk).2 (.inr (.inr (.inr (.inl (by rw [slice_own Aw 0 0 n cw]; exact he))))),(h1.xw.lt k he).1⟩).setCell (p:=⟨bb,0,none⟩) (.inl ⟨fun hOk=>(h1.o _ hOk).2 (.inr (.inl rfl)),h1.lt.2.1⟩) _
theorem TrI.corner {A':Option Addr} {c':Nat} {u:Value} (h:TrI W B bt b4 bb gD g n nv nc ks Vs Cs Aw Av Ac cw cv cc O) (h0:Only (fun _=>False) W W1) (hown:W2.ownsRow B 3 1 (.slice A' (nc + 1) c') (nc + 1) (Cs ++ [u])) (hg:W1.grownBy W2 (Value.slice Ac nc cc).ownBlock)
  (hat:(Value.slice A' (nc + 1) c').ownBlock=(Value.slice Ac nc cc).ownBlock ∨ (Value.slice A' (nc + 1) c').ownBlock=some W1.heap.size) :
  TrI (W2.setCell ⟨gD,2,none⟩ (.slice A' (nc + 1) c')) B bt b4 bb gD g n nv (nc + 1) ks Vs (Cs ++ [u]) Aw Av A' cw cv c' O ∧ Told B O W (W2.setCell ⟨gD,2,none⟩ (.slice A' (nc + 1) c'))  ∧ ∀ {gs:Nat} {cs:Array Value},Blk W gs 55 cs → Blk (W2.setCell ⟨gD,2,none⟩ (.slice A' (nc + 1) c')) gs 55 cs:=by
 have h1:=h.quiet h0
 have tbw:=own_blk_ne h1.xc h1.xt (by decide)
 have b4w:=own_blk_ne h1.xc h1.x4 (by decide)
 have bbw:=own_blk_ne h1.xc h1.xb (by decide)
 have dbw:=own_blk_ne h1.xc h1.xd (by decide)
 have ne1:=h1.xt.ne_ h1.xd (by decide)
 have ne4:=h1.n4
 have ne2:=h1.xb.ne_ h1.xd (by decide)
 have hO2:Only (fun k=>(Value.slice Ac nc cc).ownBlock=some k) W1 W2:=(Only.refl _ _).grown hg fun k hk=>.inl hk
 have hnw:∀ k,(Value.slice Aw n cw).ownBlock=some k → (Value.slice Ac nc cc).ownBlock ≠ some k:=fun k hk=>by
  obtain ⟨cs,hcs⟩:=own_blk h1.xw hk
  exact own_blk_ne h1.xc hcs (by decide)
 have hnv:∀ k,(Value.slice Av nv cv).ownBlock=some k → (Value.slice Ac nc cc).ownBlock ≠ some k:=fun k hk=>by
  rw [slice_own Ac nc cc 0 0]
  exact h1.vc k (by rw [slice_own Av 0 0 nv cv]; exact hk)
 have hd2:=h1.xd.only hO2 dbw
 have hsz:=hO2.size
 refine ⟨⟨(h1.xt.only hO2 tbw).far (p:=⟨gD,2,none⟩) ne1 _,(h1.x4.only hO2 b4w).far (p:=⟨gD,2,none⟩) ne4 _,h1.n4,(h1.xb.only hO2 bbw).far (p:=⟨gD,2,none⟩) ne2 _,by simpa using hd2.set_ 2 (.slice A' (nc + 1) c'),
  own_off (own_same h1.xw fun k hk=>hO2.block k (h1.xw.lt k hk).2 (hnw k hk)) hd2 (by decide) _ _,own_off (own_same h1.xv fun k hk=>hO2.block k (h1.xv.lt k hk).2 (hnv k hk)) hd2 (by decide) _ _,own_off hown hd2 (by decide) _ _,fun k hk e=>?_,h1.lt,fun k hk=>?_⟩,?_,fun hgs=>((hgs.only h0 fun h=>h).only hO2 (own_blk_ne h1.xc (hgs.only h0 fun h=>h) (by decide))).far (p:=⟨gD,2,none⟩) ((hgs.only h0 fun h=>h).ne_ h1.xd (by decide)) _⟩
 · rw [slice_own A' 0 0 (nc + 1) c'] at e
   rcases hat with h' | h'
   · exact h1.vc k hk (by rw [slice_own Ac 0 0 nc cc,← h',e])
   rw [h'] at e
   injection e with e
   have:=(h1.xv.lt k (by rw [← hk]; exact slice_own _ _ _ _ _)).2
   omega
 · obtain ⟨q1,q2⟩:=h1.o k hk
   refine ⟨by rw [World.size_setCell]; omega,?_⟩
   rintro (e | e | e | e | e | e)
   · exact q2 (.inl e)
   · exact q2 (.inr (.inl e))
   · exact q2 (.inr (.inr (.inl e)))
   · exact q2 (.inr (.inr (.inr (.inl e))))
   · exact q2 (.inr (.inr (.inr (.inr (.inl e)))))
   rw [slice_own A' 0 0 (nc + 1) c'] at e
   rcases hat with h' | h'
   · exact q2 (.inr (.inr (.inr (.inr (.inr (by rw [slice_own Ac 0 0 nc cc,← h',e]))))))
   rw [h'] at e
   injection e with e
   omega
 refine (Told.quiet h0).trans ⟨(keeps_own hg h1.xc).trans (KeepsOthers.setCell _ _ _),?_⟩
 refine (hO2.mono fun k hk he=>⟨fun hOk=>(h1.o k hOk).2 (.inr (.inr (.inr (.inr (.inr (by rw [slice_own Ac 0 0 nc cc]; exact he)))))),(h1.xc.lt k he).1⟩).setCell (p:=⟨gD,2,none⟩) (.inl ⟨fun hOk=>(h1.o _ hOk).2 (.inr (.inr (.inl rfl))),h1.lt.2.2⟩) _
theorem TrI.vert {A':Option Addr} {c':Nat} {u:Value} (h:TrI W B bt b4 bb gD g n nv nc ks Vs Cs Aw Av Ac cw cv cc O) (h0:Only (fun _=>False) W W1) (hown:W2.ownsRow B 3 1 (.slice A' (nv + 1) c') (nv + 1) (Vs ++ [u])) (hg:W1.grownBy W2 (Value.slice Av nv cv).ownBlock)
  (hat:(Value.slice A' (nv + 1) c').ownBlock=(Value.slice Av nv cv).ownBlock ∨ (Value.slice A' (nv + 1) c').ownBlock=some W1.heap.size) :
  TrI (W2.setCell ⟨gD,1,none⟩ (.slice A' (nv + 1) c')) B bt b4 bb gD g n (nv + 1) nc ks (Vs ++ [u]) Cs Aw A' Ac cw c' cc O ∧ Told B O W (W2.setCell ⟨gD,1,none⟩ (.slice A' (nv + 1) c'))  ∧ ∀ {gs:Nat} {cs:Array Value},Blk W gs 55 cs → Blk (W2.setCell ⟨gD,1,none⟩ (.slice A' (nv + 1) c')) gs 55 cs:=by
 have h1:=h.quiet h0
 have tbw:=own_blk_ne h1.xv h1.xt (by decide)
 have b4w:=own_blk_ne h1.xv h1.x4 (by decide)
 have bbw:=own_blk_ne h1.xv h1.xb (by decide)
 have dbw:=own_blk_ne h1.xv h1.xd (by decide)
 have ne1:=h1.xt.ne_ h1.xd (by decide)
 have ne4:=h1.n4
 have ne2:=h1.xb.ne_ h1.xd (by decide)
 have hO2:Only (fun k=>(Value.slice Av nv cv).ownBlock=some k) W1 W2:=(Only.refl _ _).grown hg fun k hk=>.inl hk
 have hnw:∀ k,(Value.slice Aw n cw).ownBlock=some k → (Value.slice Av nv cv).ownBlock ≠ some k:=fun k hk=>by
  obtain ⟨cs,hcs⟩:=own_blk h1.xw hk
  exact own_blk_ne h1.xv hcs (by decide)
 have hnc:∀ k,(Value.slice Ac nc cc).ownBlock=some k → (Value.slice Av nv cv).ownBlock ≠ some k:=fun k hk e =>
  h1.vc k (by rw [slice_own Av 0 0 nv cv]; exact e) (by rw [slice_own Ac 0 0 nc cc]; exact hk)
 have hd2:=h1.xd.only hO2 dbw
 have hsz:=hO2.size
 refine ⟨⟨(h1.xt.only hO2 tbw).far (p:=⟨gD,1,none⟩) ne1 _,(h1.x4.only hO2 b4w).far (p:=⟨gD,1,none⟩) ne4 _,h1.n4,(h1.xb.only hO2 bbw).far (p:=⟨gD,1,none⟩) ne2 _,by simpa using hd2.set_ 1 (.slice A' (nv + 1) c'),
  own_off (own_same h1.xw fun k hk=>hO2.block k (h1.xw.lt k hk).2 (hnw k hk)) hd2 (by decide) _ _,own_off hown hd2 (by decide) _ _,own_off (own_same h1.xc fun k hk=>hO2.block k (h1.xc.lt k hk).2 (hnc k hk)) hd2 (by decide) _ _,fun k e hk=>?_,h1.lt,fun k hk=>?_⟩,?_,fun hgs=>((hgs.only h0 fun h=>h).only hO2 (own_blk_ne h1.xv (hgs.only h0 fun h=>h) (by decide))).far (p:=⟨gD,1,none⟩) ((hgs.only h0 fun h=>h).ne_ h1.xd (by decide)) _⟩
 · rw [slice_own A' 0 0 (nv + 1) c'] at e
   rcases hat with h' | h'
   · exact h1.vc k (by rw [slice_own Av 0 0 nv cv,← h',e]) hk
   rw [h'] at e
   injection e with e
   have:=(h1.xc.lt k (by rw [← hk]; exact slice_own _ _ _ _ _)).2
   omega
 · obtain ⟨q1,q2⟩:=h1.o k hk
   refine ⟨by rw [World.size_setCell]; omega,?_⟩
   rintro (e | e | e | e | e | e)
   · exact q2 (.inl e)
   · exact q2 (.inr (.inl e))
   · exact q2 (.inr (.inr (.inl e)))
   · exact q2 (.inr (.inr (.inr (.inl e))))
   · rw [slice_own A' 0 0 (nv + 1) c'] at e
     rcases hat with h' | h'
     · exact q2 (.inr (.inr (.inr (.inr (.inl (by rw [slice_own Av 0 0 nv cv,← h',e]))))))
     rw [h'] at e
     injection e with e
     omega
   exact q2 (.inr (.inr (.inr (.inr (.inr e)))))
 refine (Told.quiet h0).trans ⟨(keeps_own hg h1.xv).trans (KeepsOthers.setCell _ _ _),?_⟩
 refine (hO2.mono fun k hk he=>⟨fun hOk=>(h1.o k hOk).2 (.inr (.inr (.inr (.inr (.inl (by rw [slice_own Av 0 0 nv cv]; exact he)))))),(h1.xv.lt k he).1⟩).setCell (p:=⟨gD,1,none⟩) (.inl ⟨fun hOk=>(h1.o _ hOk).2 (.inr (.inr (.inl rfl))),h1.lt.2.2⟩) _
theorem TrI.wordB (h:TrI W B bt b4 bb gD g n nv nc ks Vs Cs Aw Av Ac cw cv cc O) (h0:Only (fun _=>False) W W1) (hg:W1.grownBy W2 (Value.slice Aw n cw).ownBlock):Blk W2 bb 50 #[.slice Aw n cw] ∧ Blk W2 gD 32 #[.string ⟨#[]⟩,.slice Av nv cv,.slice Ac nc cc]:=by
 have h1:=h.quiet h0
 have hO2:Only (fun k=>(Value.slice Aw n cw).ownBlock=some k) W1 W2:=(Only.refl _ _).grown hg fun k hk=>.inl hk
 exact ⟨h1.xb.only hO2 (own_blk_ne h1.xw h1.xb (by decide)),h1.xd.only hO2 (own_blk_ne h1.xw h1.xd (by decide))⟩
theorem TrI.cornerD (h:TrI W B bt b4 bb gD g n nv nc ks Vs Cs Aw Av Ac cw cv cc O) (h0:Only (fun _=>False) W W1) (hg:W1.grownBy W2 (Value.slice Ac nc cc).ownBlock):Blk W2 gD 32 #[.string ⟨#[]⟩,.slice Av nv cv,.slice Ac nc cc]:=by
 have h1:=h.quiet h0
 have hO2:Only (fun k=>(Value.slice Ac nc cc).ownBlock=some k) W1 W2:=(Only.refl _ _).grown hg fun k hk=>.inl hk
 exact h1.xd.only hO2 (own_blk_ne h1.xc h1.xd (by decide))
theorem TrI.vertD (h:TrI W B bt b4 bb gD g n nv nc ks Vs Cs Aw Av Ac cw cv cc O) (h0:Only (fun _=>False) W W1) (hg:W1.grownBy W2 (Value.slice Av nv cv).ownBlock):Blk W2 gD 32 #[.string ⟨#[]⟩,.slice Av nv cv,.slice Ac nc cc] ∧ some gD ≠ (Value.slice Av nv cv).ownBlock ∧ some bt ≠ (Value.slice Av nv cv).ownBlock:=by
 have h1:=h.quiet h0
 have hO2:Only (fun k=>(Value.slice Av nv cv).ownBlock=some k) W1 W2:=(Only.refl _ _).grown hg fun k hk=>.inl hk
 exact ⟨h1.xd.only hO2 (own_blk_ne h1.xv h1.xd (by decide)),(own_blk_ne h1.xv h1.xd (by decide)).symm,(own_blk_ne h1.xv h1.xt (by decide)).symm⟩
theorem TrI.rowV_step (h:TrI W B bt b4 bb gD g n nv nc ks Vs Cs Aw Av Ac cw cv cc O) {gs:Nat} {cs:Array Value} (hs:Blk W gs 55 cs):some gs ≠ (Value.slice Av nv cv).ownBlock:=(own_blk_ne h.xv hs (by decide)).symm
end
structure TrC (W:World) (gD bt gs g:Nat) (av:Value) (c:Int):Prop where
 c0:W.cell? ⟨gD,1,none⟩=some av
 c1:W.cell? ⟨bt,0,none⟩=some (.pointer (some ⟨g,0,none⟩))
 c2:W.cell? ⟨gs,1,none⟩=some (.int .i64 c)
 f0:W.frozen? ⟨gD,1,none⟩=false
 k0:gD < W.heap.size
 k1:bt < W.heap.size
 k2:gs < W.heap.size
section
variable {W W2:World} {gD bt gs g:Nat} {av:Value} {c:Int}
theorem TrC.below (h:TrC W gD bt gs g av c) (hb:Below W.heap.size W W2):TrC W2 gD bt gs g av c :=
 ⟨(hb.cell h.k0).trans h.c0,(hb.cell h.k1).trans h.c1,(hb.cell h.k2).trans h.c2,(World.frozen?_of_block (hb.block gD h.k0)).trans h.f0,Nat.lt_of_lt_of_le h.k0 hb.size,Nat.lt_of_lt_of_le h.k1 hb.size,Nat.lt_of_lt_of_le h.k2 hb.size⟩
theorem TrC.grown {k:Option Nat} (h:TrC W gD bt gs g av c) (hg:W.grownBy W2 k) (h0:some gD ≠ k) (h1:some bt ≠ k) (h2:some gs ≠ k):TrC W2 gD bt gs g av c :=
 ⟨(World.cell?_of_block (hg.block gD h.k0 h0)).trans h.c0,(World.cell?_of_block (hg.block bt h.k1 h1)).trans h.c1,(World.cell?_of_block (hg.block gs h.k2 h2)).trans h.c2,(World.frozen?_of_block (hg.block gD h.k0 h0)).trans h.f0,Nat.lt_of_lt_of_le h.k0 hg.size,Nat.lt_of_lt_of_le h.k1 hg.size,Nat.lt_of_lt_of_le h.k2 hg.size⟩
theorem TrC.drew (h:TrC W gD bt gs g av c):TrC W.drew gD bt gs g av c:=h.below (bw_drew (Below.refl _ _))
theorem TrC.alloc (h:TrC W gD bt gs g av c) (o:Obj):TrC (W.alloc o) gD bt gs g av c:=h.below (bw_alloc (Below.refl _ _) o)
end
theorem TrI.toC {W:World} {B bt b4 bb gD g gs n nv nc:Nat} {ks Vs Cs:List Value} {Aw Av Ac:Option Addr} {cw cv cc:Nat} {O:Nat → Prop} {k c a b:Int} (h:TrI W B bt b4 bb gD g n nv nc ks Vs Cs Aw Av Ac cw cv cc O) (hs:Blk W gs 55 #[.int .u8 k,.int .i64 c,.int .i64 a,.int .i64 b]):TrC W gD bt gs g (.slice Av nv cv) c :=
 ⟨h.xd.cell 1,h.xt.cell 0,hs.cell 1,h.xd.frozen 1,h.xd.lt,h.xt.lt,hs.lt⟩
end
end Go.Proofs.YtffmfhkiienmaaaGreat
