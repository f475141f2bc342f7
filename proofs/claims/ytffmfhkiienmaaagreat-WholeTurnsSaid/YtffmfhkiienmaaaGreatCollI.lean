/- slices.AppendSeq and Collect at numbers. No condition but sizes. -/
import Derived.Test.YtffmfhkiienmaaaGreatWyBeg
import Derived.RangeFuncNested
import Derived.RangeFuncBound
import Derived.RangeFuncCalls
import Derived.RangeFuncLeaves
import Derived.Shelf.Abstract
import Derived.Shelf.RegionOpen
import Derived.OwnWalkIn
import Derived.TacticsInMore
import Derived.LoopNIn
import Derived.LoopIn
import Derived.Maps.AppendAt
import Derived.RangeFuncBox
set_option maxRecDepth 100000
set_option maxHeartbeats 16000000
set_option linter.all false
namespace Go.Proofs.YtffmfhkiienmaaaGreat
open Go.RowKit Go.Maps Go.Shelf
attribute [local go_sem] Oper.semAt_some
theorem onlyI_t {F:Nat → Prop} {A B C:World} (h:Only F A B) (k:Only F B C):Only F A C:=h.trans k
theorem onlyI_b {F:Nat → Prop} {w:World} (hF:∀ k,w.heap.size ≤ k → F k) (W:World) (l:Nat) (o o':Obj) (hl:w.heap.size ≤ l) (h:W.heap[l]?=some o) (_:o.isCells=false) (_:o.isWalk=false):Only F W (W.putObj l o') :=
 (Only.refl F W).grown (grownBy_putObj' W l o') (fun k e=>by cases e; exact .inl (hF _ hl))
theorem new_cellsI (W:World) (cs:List Value) (t:TypeId):∀ j u,cs[j]?=some u → (W.alloc (.cells cs.toArray t)).cell? ((⟨W.heap.size,0,none⟩:Addr).add j)=some u:=fun j u hj=>by
 have e:(⟨W.heap.size,0,none⟩:Addr).add j=⟨W.heap.size,j,none⟩:=by unfold Addr.add; split <;> simp_all
 rw [e,(Blk.new W t cs.toArray).cell]
 simpa using hj
def IAx (B0:Nat) (sv:Value) (x:Int) (a':Act) (W:World):Prop :=
 a'={ tmps:=#[.slice none 0 0,sv,.pointer (some ⟨B0,0,none⟩),undef,.slice none 0 0,(.int .i64 x),sv,(.int .i64 x),undef,undef,undef,undef,undef],defers:=[] }
theorem IAx.own (B0:Nat) (sv:Value) (x:Int) (a':Act) (B:Nat):OwnFrom B (fun (_:Unit) W=>IAx B0 sv x a' W):=fun _ X Y row h hg hr=>h
theorem appendSeqI_in (n:Nat) (hn:2 ≤ n) (g:Nat) (lb:Array Value) (eg:∀ args w,(callFunc g args).run Tryz.prog w=.ok (.enter g args) w)
  (S Sp:List Int → Prop) (N:Nat) (hN:N ≤ 1000000) (w:World) (hseq:SeqStopsK Fence.wide (n - 1) Tryz.prog g lb (fun x:Int=>#[.int .i64 x]) (Only (fun k=>w.heap.size ≤ k)) S Sp N w) :
  CallsIn Fence.wide n Tryz.prog 108 #[.slice none 0 0,.func (.func g) #[] lb] w fun e w'=>∃ (v:Value) (ss:List Int),e=.returned v ∧ S ss ∧ w'.ownsRow w.heap.size 3 1 v ss.length (ZL ss) ∧ Below w.heap.size w w':=by
 have h1:1 ≤ n:=by omega
 obtain ⟨i0,hi,hz0,hz1,hz2⟩:=info_parts (show (Tryz.prog.info? 3).map (fun i=>(i.zero,i.size,i.bytes))=some (some (.int .i64 0),1,8) by kernel_rfl)
 refine callsIn_of_wp_marks Tryz.func108 rfl trivial ?_ rfl
 simp only [Tryz.ntmps108,List.size_toArray,List.length_cons,List.length_nil,Nat.reduceAdd,Nat.reduceSub,Array.replicate_succ,Array.replicate_zero,List.push_toArray,List.append_toArray,List.nil_append,List.cons_append]
 gi_wp2
 obtain ⟨W0,hW0⟩:=jY (w.alloc (.cells #[.slice none 0 0] 30))
 have hs0:W0.heap.size=w.heap.size + 1:=by rw [← hW0]; simp
 have hv0:Boxed W0 w.heap.size 30 (.slice none 0 0):=by rw [← hW0]; exact Boxed.new _ _ _
 have hb0:Below w.heap.size w W0:=by rw [← hW0]; exact (Below.refl _ w).alloc (Nat.le_refl _) _
 rw [hW0]
 refine wpIn_rangeFunc_ownH rfl h1 (gf:=g) (lb:=lb) rfl trivial eg hseq onlyI_t (onlyI_b (fun k hk=>by omega)) hb0 (fun _=>rfl)
  (fun (pre:List Int) W=>(∃ v,Boxed W w.heap.size 30 v ∧ W.ownsRow w.heap.size 3 1 v pre.length (ZL pre) ∧ True) ∧ Below w.heap.size w W)
  (fun _ _ _=>False)
  (OwnFrom.and (Own.from (holdsRow_own w.heap.size w.heap.size 30 3 1 (fun pre:List Int=>pre.length) (fun pre=>ZL pre) (fun _ _=>True)) _) (ownFrom_below (Nat.le_refl _) (by omega)))
  (fun _ _ _ _ _ hs _ _=>hs)
  ⟨⟨_,hv0,World.ownsRow_nil _ _ _ _,trivial⟩,hb0⟩
  (IAx w.heap.size (.func (.func g) #[] lb)) (fun x a'=>IAx.own _ _ _ _ _) ?assign ?body ?done ?stop
 case assign =>
  rintro l pre x W K ⟨⟨v,hv,hrow,_⟩,hB⟩ hK
  gi_wp2
  exact hK _ _ (KeepsFrom.refl _ _) (Only.refl _ _) ⟨⟨v,hv,hrow,trivial⟩,hB⟩ rfl
 case body =>
  rintro l pre x a' W hl ⟨r,hr⟩ ⟨⟨v,hv,hrow,_⟩,hB⟩ hax hlt
  unfold IAx at hax
  subst hax
  have hc:=hv.cell
  have hfz:=hv.frozen
  have hsz:=hB.size
  have hnew:=new_cellsI W [.int .i64 x] 3
  gi_wp2_with (gi_at_builtin; refine wpListIn_append_own _ rfl _ _ 30 rfl w.heap.size 3 i0 _ 1 8 Tryz.underlying30 hi hz0 hz1 hz2 rfl (by decide) _ _ _ rfl (hrow.alloc _) ⟨W.heap.size,0,none⟩ 1 1 [.int .i64 x] rfl rfl hnew (by simp [Value.oneCell']) (by simp only [maxLen]; omega) (by omega) (by simp; omega) ?_; intro v' w1 hown' hgrow _; obtain ⟨g',cap',rfl⟩:=ownsRow_succ hown'; obtain ⟨hv1,hv2,hr2,hk2,hb2⟩:=hv.appended (by decide) hrow hB.size (Nat.le_refl _) hown' hgrow; have hc1:=hv1.cell; have hf1:=hv1.frozen)
  have hr3:(w1.setCell ⟨w.heap.size,0,none⟩ (.slice (some ⟨g',0,none⟩) (pre.length + 1) cap')).ownsRow w.heap.size 3 1 (.slice (some ⟨g',0,none⟩) (pre.length + 1) cap') (pre ++ [x]).length (ZL (pre ++ [x])):=by
   rw [List.length_append]
   unfold ZL at hr2 ⊢
   rw [List.map_append]
   exact hr2
  exact ⟨hk2.from _,(((Only.refl _ _).alloc _).grown hgrow (fun x hx=>.inl (World.ownsRow.lt hrow x hx).1)).setCell (p:=⟨w.heap.size,0,none⟩) (.inl (Nat.le_refl _)) _,⟨_,hv2,hr3,trivial⟩,hB.trans hb2⟩
 case done =>
  rintro D ys W hD hS ⟨⟨v,hv,hrow,_⟩,hB⟩ hK
  have hc:=hv.cell
  gi_wp2
  refine ⟨by simp,.inl ⟨_,_,rfl,run_takeDeferred hK,?_⟩⟩
  exact ⟨_,results_tmp rfl _ _ _,v,ys,rfl,hS,ownsRow_putObj hrow _ hK rfl,hB.grown (grownBy_putObj' _ _ _) hB.size (fun k e=>by cases e; omega)⟩
 case stop =>
  rintro D c pre W _ _ h _
  exact h.elim
theorem collectI_in (n:Nat) (hn:3 ≤ n) (g:Nat) (lb:Array Value) (eg:∀ args w,(callFunc g args).run Tryz.prog w=.ok (.enter g args) w)
  (S Sp:List Int → Prop) (N:Nat) (hN:N ≤ 1000000) (w:World) (hseq:SeqStopsK Fence.wide (n - 1 - 1) Tryz.prog g lb (fun x:Int=>#[.int .i64 x]) (Only (fun k=>w.heap.size ≤ k)) S Sp N w) :
  CallsIn Fence.wide n Tryz.prog 87 #[.func (.func g) #[] lb] w fun e w'=>∃ (v:Value) (ss:List Int),e=.returned v ∧ S ss ∧ w'.ownsRow w.heap.size 3 1 v ss.length (ZL ss) ∧ Below w.heap.size w w':=by
 have h1:1 ≤ n:=by omega
 have hfA:Fence.wide.fn 108 := trivial
 refine callsIn_of_wp Tryz.func87 rfl trivial ?_ rfl
 simp only [Tryz.ntmps87,List.size_toArray,List.length_cons,List.length_nil,Nat.reduceAdd,Nat.reduceSub,Array.replicate_succ,Array.replicate_zero,List.push_toArray,List.append_toArray,List.nil_append,List.cons_append]
 gi_wp2_with (gi_at_call 108; refine (appendSeqI_in (n - 1) (by omega) g lb eg S Sp N hN _ hseq).mono ?_; rintro e w' ⟨v,ss,rfl,hS,hrow,hb⟩)
 go_ret
 exact ⟨v,ss,rfl,hS,hrow,hb⟩
end Go.Proofs.YtffmfhkiienmaaaGreat
