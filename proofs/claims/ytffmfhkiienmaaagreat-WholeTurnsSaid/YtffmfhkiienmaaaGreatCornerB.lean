/- The keys of a map, as the library's texts on iterators name them. No condition. -/
import Derived.Test.YtffmfhkiienmaaaGreatB2
import Derived.Lib.SlKeysI
import Derived.Test.YtffmfhkiienmaaaGreatCert1
import Derived.Test.YtffmfhkiienmaaaGreatCert2
import Derived.Laws.MakeOwn
import Derived.Deep.CutBlock
import Derived.Deep.LoopGhost
set_option maxRecDepth 100000
set_option maxHeartbeats 16000000
set_option linter.all false
namespace Go.Proofs.YtffmfhkiienmaaaGreat
open Go.RowKit
section
open Go.RowKit Go.Maps
open Go.WideElems (Fit rd rg pl rd_val rd_key)
theorem MapI.data {P:Program} {k:TypeId} {w:World} {b n:Nat} {f:Int → Option Value} (h:MapI P k w b n f) (hk:P.underlying k=some (.int .i64)) :
  ∃ D:DataW Unit,w.ownsMap P k anyElem b n D ∧ (intKeys D).Nodup ∧ (∀ x,x ∈ intKeys D ↔ (Lit.int .i64 x).wf=true ∧ (f x).isSome=true) ∧ Maps.size D ≤ n:=by
 obtain ⟨es,clock,hb,F,hs,hf⟩:=h
 have hown:w.ownsMap P k anyElem b n (.map ((es.toList.map (rg P k anyElem)).foldr DataW.insert [])):=⟨es,clock,hb,F,by omega,rfl⟩
 refine ⟨_,hown,?_,fun x=>?_,hown.size_le⟩
 · obtain ⟨es',hD,hpw,_⟩:=hown.entries (int_keyed hk)
   obtain ⟨es'',hD',hko⟩:=hown.keysOf
   obtain rfl:es'=es'':=by rw [hD] at hD'; simpa using hD'
   rw [hD]
   show (es'.map fun p=>Go.intOf p.1).Nodup
   refine List.pairwise_map.2 (hpw.imp_of_mem fun {p q} hp' hq' hne e=>hne ?_)
   obtain ⟨v,hv⟩:=hko p hp'
   obtain ⟨v',hv'⟩:=hko q hq'
   obtain ⟨a,_,ha,_⟩:=Maps.keyOf_i64 hk hv
   obtain ⟨c,_,hc,_⟩:=Maps.keyOf_i64 hk hv'
   rw [ha,hc] at e ⊢
   exact congrArg _ e
 show x ∈ (((es.toList.map (rg P k anyElem)).foldr DataW.insert []).map fun p=>Go.intOf p.1) ↔ _
 rw [List.mem_map]
 constructor
 · rintro ⟨p,hp,rfl⟩
   obtain ⟨e,he,rfl⟩:=List.mem_map.1 (mem_sorted.1 hp)
   obtain ⟨y,hy⟩:=F.reads e he
   rw [WideElems.rg_of hy]
   obtain ⟨a,ha,hl,hw⟩:=Maps.keyOf_i64 hk (rd_key hy)
   rw [hl]
   refine ⟨hw,?_⟩
   show (f a).isSome=true
   rw [(hf a hw e.val).2 ⟨e,he,ha,rfl⟩]
   rfl
 rintro ⟨hw,hs'⟩
 obtain ⟨v,hv⟩:=Option.isSome_iff_exists.1 hs'
 obtain ⟨e,he,hk',hv'⟩:=(hf x hw v).1 hv
 obtain ⟨y,hy⟩:=F.reads e he
 refine ⟨_,mem_sorted.2 (List.mem_map.2 ⟨e,he,rfl⟩),?_⟩
 rw [WideElems.rg_of hy]
 obtain ⟨a,ha,hl,_⟩:=Maps.keyOf_i64 hk (rd_key hy)
 rw [hl]
 rw [ha] at hk'
 show a=x
 simpa using hk'
end
section
open Go.RowKit Go.Maps
open Go.Maps (Keyed)
open Go.WideMaps (KeyLaw)
open Go.WideElems (Fit rd rg pl rd_val rd_key)
def encE (x:Int × Int):Value:=.agg #[.int .i64 x.1,.int .i64 x.2]
theorem encE_inj {x y:Int × Int} (h:encE x=encE y):x=y:=by
 obtain ⟨a,b⟩:=x
 obtain ⟨c,d⟩:=y
 simp [encE] at h
 obtain ⟨rfl,rfl⟩:=h
 rfl
theorem prog_laid8:laidOutB Tryz.prog=true:=by kernel_rfl
theorem lawE:KeyLaw Tryz.prog 70 := deep_law_laid prog_laid8 (m:=2) (by omega) (of_decide_eq_true (by kernel_rfl)) (by kernel_rfl) (by rw [Tryz.underlying70])
theorem keyedE:Keyed Tryz.prog 70 := Keyed.of_law lawE
def wfE (x:Int × Int):Prop:=(Lit.int .i64 x.1).wf=true ∧ (Lit.int .i64 x.2).wf=true
theorem keyE {x:Int × Int} (h:wfE x):∃ l,keyOf Tryz.prog 70 (encE x)=some l:=by
 obtain ⟨w1,w2⟩:=h
 have hc:Tryz.prog.cellsOf 3 = 1:=by kernel_rfl
 have hc3:Tryz.prog.cellsOf 70 = 2:=by kernel_rfl
 have hkt:Tryz.prog.keyType 70 = true:=by kernel_rfl
 obtain ⟨m,hm⟩:∃ m,Tryz.prog.types.size + 1=m + 2:=⟨_,rfl⟩
 unfold keyOf
 rw [hm]
 simp [encE,Tryz.underlying70,Tryz.underlying3,hkt,Value.formed,hc3,hc,Program.keyLits,Value.cells,List.range,List.range.loop,w1,w2]
theorem MapV.data {w:World} {b n:Nat} {f:Value → Option Value} (h:MapV Tryz.prog 70 w b n f) :
  ∃ D:DataW Unit,w.ownsMap Tryz.prog 70 anyElem b n D ∧ (∀ x l,keyOf Tryz.prog 70 (encE x)=some l → (has D l=true ↔ (f (encE x)).isSome=true)) ∧ Maps.size D ≤ n:=by
 obtain ⟨es,clock,hb,F,hs,hf⟩:=h
 have hown:w.ownsMap Tryz.prog 70 anyElem b n (.map ((es.toList.map (rg Tryz.prog 70 anyElem)).foldr DataW.insert [])):=⟨es,clock,hb,F,by omega,rfl⟩
 refine ⟨_,hown,fun x l hk=>?_,hown.size_le⟩
 rw [has_eq,List.any_eq_true]
 constructor
 · rintro ⟨p,hp,hs'⟩
   obtain ⟨e,he,rfl⟩:=List.mem_map.1 (mem_sorted.1 hp)
   obtain ⟨y,hy⟩:=F.reads e he
   rw [WideElems.rg_of hy] at hs'
   have hl:=WideAt.sameKey_eq hs'
   have hke:=rd_key hy
   rw [hl] at hke
   have hek:e.key=encE x:=lawE.inj hke hk
   rw [(hf (encE x) ⟨l,hk⟩ e.val).2 ⟨e,he,hek,rfl⟩]
   rfl
 intro hs'
 obtain ⟨v,hv⟩:=Option.isSome_iff_exists.1 hs'
 obtain ⟨e,he,hek,_⟩:=(hf (encE x) ⟨l,hk⟩ v).1 hv
 obtain ⟨y,hy⟩:=F.reads e he
 refine ⟨_,mem_sorted.2 (List.mem_map.2 ⟨e,he,rfl⟩),?_⟩
 rw [WideElems.rg_of hy]
 have hke:=rd_key hy
 rw [hek,hk] at hke
 injection hke with hke
 rw [← hke]
 obtain ⟨s,rfl⟩:=lawE.str hk
 simp [Lit.sameKey]
end
section
section
variable {P:Program} {ops:Array Oper} {Q:Exit → Act → World → Prop} {md:Region.Mode} {S:World → Prop} {r:Nat}
def Till (P:Program) (md:Region.Mode) (ops:Array Oper) (Q:Exit → Act → World → Prop) (S:World → Prop) (r:Nat):Nat → Array Bool → Act → World → Prop
 | 0=>fun l a w=>Region.ready md ops l=[] ∧ Q .normal a w
 | n + 1=>fun l a w=>(Region.ready md ops l=[] → Q .normal a w) ∧
   ∀ j,j ∈ Region.ready md ops l → wpOp P ops Q j (fun b v=>(j ≠ r → S v) ∧ Till P md ops Q S r n (l.setIfInBounds j true) b v) a w
theorem Till.any:∀ (n:Nat) {l:Array Bool} {a:Act} {w:World},Till P md ops Q S r n l a w → wpAny P md ops Q n l a w
 | 0,_,_,_,h=>h
 | n + 1,_,_,_,h=>⟨h.1,fun j hj=>wpOp_mono (fun _ _ x=>Till.any n x.2) (h.2 j hj)⟩
def waitsFor (md:Region.Mode) (ops:Array Oper) (r i:Nat):Bool:=match ops[r]? with
 | some o=>o.after.any fun e=>Region.binds md e && e.on == i
 | none=>false
theorem not_last {l:Array Bool} {i j:Nat} (hw:waitsFor md ops r i=true) (hi:l.getD i true=false) (hj:j ∈ Region.ready md ops l):j ≠ r:=by
 rintro rfl
 obtain ⟨_,o,ho,hall⟩:=mem_ready.1 hj
 unfold waitsFor at hw
 rw [ho] at hw
 obtain ⟨e,he,hb⟩:=Array.any_eq_true'.1 hw
 simp only [Bool.and_eq_true,beq_iff_eq] at hb
 have h1:=hall e he hb.1
 rw [hb.2] at h1
 by_cases hs:i < l.size
 · simp [hs] at hi h1
   rw [hi] at h1
   cases h1
 simp [Array.getElem?_eq_none (Nat.le_of_not_lt hs)] at h1
theorem Till.first {i:Nat} {oi:Oper} {v:Value} (hi:ops[i]?=some oi) (hsel:∀ (j:Nat) (o:Oper) cs b,ops[j]?=some o → o.op ≠ .select cs b)
  (hQ:∀ c a w,Q (.panic c) (a.put oi.dst v) w → Q (.panic c) a w) (hw:waitsFor md ops r i=true) (n:Nat) :
  ∀ {l:Array Bool} {a:Act} {w:World},(∀ j oj,ops[j]?=some oj → j ≠ i → l.getD j true=false → (∀ e ∈ oj.after,Region.binds md e=true → e.on ≠ i) → oi.apart ops oj=true) →
   i ∈ Region.ready md ops l → YieldsIf P ops S oi v a → S w → Till P md ops Q S r n (l.setIfInBounds i true) (a.put oi.dst v) w → Till P md ops Q S r (n + 1) l a w:=by
 induction n with
 | zero =>
  intro l a w _ hr hy hS H
  refine ⟨fun h=>(by rw [h] at hr; cases hr),fun j hj=>?_⟩
  by_cases e:j=i
  · rw [e]
    exact hy.wpOp hi hS ⟨fun _=>hS,H⟩
  have:=ready_mono hj e
  rw [H.1] at this
  cases this
 | succ n ih =>
  intro l a w hfree hr hy hS H
  refine ⟨fun h=>(by rw [h] at hr; cases hr),fun j hj=>?_⟩
  by_cases e:j=i
  · rw [e]
    exact hy.wpOp hi hS ⟨fun _=>hS,H⟩
  have hun:=(mem_ready.1 hr).1
  have hjr:=not_last hw hun hj
  obtain ⟨hju,oj,hoj,hall⟩:=mem_ready.1 hj
  have hno:∀ x ∈ oj.after,Region.binds md x=true → x.on ≠ i:=fun x hx hb he=>by
   have h1:=hall x hx hb
   rw [he] at h1
   by_cases hs:i < l.size
   · simp [hs] at hun h1
     rw [hun] at h1
     cases h1
   simp [Array.getElem?_eq_none (Nat.le_of_not_lt hs)] at h1
  refine wpOp_mono (fun b v' x=>⟨fun _=>x.2.1 hjr,ih (fun k ok hk hki hku hkn=>hfree k ok hk hki ?_ hkn) (ready_mono hr (Ne.symm e)) x.1 (x.2.1 hjr) ?_⟩)
   (wpOp_putIf hoj (hfree j oj hoj e hju hno) (fun cs b=>hsel i oi cs b hi) (fun cs b=>hsel j oj cs b hoj) hQ hy (H.2 j (ready_mono hj e)))
  · by_cases hjk:j=k
    · rw [← hjk]
      exact hju
    rw [getD_set_ne true hjk] at hku
    exact hku
  rw [Array.setIfInBounds_comm _ _ e]
  exact x.2.2
theorem Till.take {i:Nat} {oi:Oper} {v:Value} {n:Nat} {l:Array Bool} {a:Act} {w:World} (hl:ops.toList[i]?=some oi) (hs:Region.noSelect ops=true) (hf:Region.free md ops l i=true)
  (hr:(Region.ready md ops l).contains i=true) (hw:waitsFor md ops r i=true) (hQ:∀ c a w,Q (.panic c) (a.put oi.dst v) w → Q (.panic c) a w) (hy:YieldsIf P ops S oi v a) (hS:S w)
  (h:Till P md ops Q S r n (l.setIfInBounds i true) (a.put oi.dst v) w):Till P md ops Q S r (n + 1) l a w :=
 have hi:ops[i]?=some oi:=by rw [← Array.getElem?_toList]; exact hl
 Till.first hi (Region.noSelect_spec hs) hQ hw n (Region.free_spec hi hf) (by simpa using hr) hy hS h
theorem tKk (i:Nat) {oi:Oper} {v:Value} {n:Nat} {l:Array Bool} {a:Act} {w:World}
  (h:Till P md ops Q S r n (l.setIfInBounds i true) (a.put oi.dst v) w) (hl:ops.toList[i]?=some oi:=by rfl) (hy:∀ w,S w → (execOp a.eval oi).run P w=.ok (.value v) w:=by (intro w h; (try dsimp only at h); go_simp; try with_reducible rfl)) (hg:Region.wanted oi (yielded ops a.tmps)=true:=by rfl)
  (hs:Region.noSelect ops=true:=by kernel_rfl) (hf:Region.free md ops l i=true:=by kernel_rfl) (hr:(Region.ready md ops l).contains i=true:=by kernel_rfl) (hw:waitsFor md ops r i=true:=by kernel_rfl)
  (hQ:∀ c a w,Q (.panic c) (a.put oi.dst v) w → Q (.panic c) a w:=by exact fun _ _ _ h=>h) (hS:S w:=by assumption):Till P md ops Q S r (n + 1) l a w :=
 Till.take hl hs hf hr hw hQ (Or.inl ⟨hg,hy⟩) hS h
theorem zQ:(∀ (a:Act) (d:Nat) (v:Value),a.put d v={ a with tmps:=a.tmps.setIfInBounds d v }) ∧ (∀ (α:Type) (l:List α) (i:Nat) (a:α),l.toArray.setIfInBounds i a=(l.set i a).toArray) ∧ (∀ (α:Type) (a b:α) (l:List α),(a :: l).set 0 b=b :: l) ∧ (∀ (α:Type) (a b:α) (l:List α) (n:Nat),(a :: l).set (n + 1) b=a :: l.set n b) :=
 ⟨fun _ _ _=>rfl,fun _ _ _ _=>List.setIfInBounds_toArray ..,fun _ _ _ _=>rfl,fun _ _ _ _ _=>rfl⟩
def TillEach (P:Program) (md:Region.Mode) (ops:Array Oper) (Q:Exit → Act → World → Prop) (S:World → Prop) (r n:Nat) (l:Array Bool) (a:Act) (w:World) (rs:List Nat):Prop :=
 ∀ j,j ∈ rs → wpOp P ops Q j (fun b v=>(j ≠ r → S v) ∧ Till P md ops Q S r n (l.setIfInBounds j true) b v) a w
theorem Till.ready {rs:List Nat} {n:Nat} {l:Array Bool} {a:Act} {w:World} (hr:Region.ready md ops l=rs) (hne:rs ≠ []) (h:TillEach P md ops Q S r n l a w rs):Till P md ops Q S r (n + 1) l a w :=
 ⟨fun e=>absurd (hr ▸ e) hne,hr ▸ h⟩
theorem TillEach.nil {n:Nat} {l:Array Bool} {a:Act} {w:World}:TillEach P md ops Q S r n l a w []:=fun _ h=>by cases h
theorem TillEach.cons {n:Nat} {l:Array Bool} {a:Act} {w:World} {i:Nat} {o:Oper} {rs:List Nat} (ho:ops.toList[i]?=some o)
  (h:∀ K':Act → World → Prop,Shut (∀ b v,S v → (S v → Till P md ops Q S r n (l.setIfInBounds i true) b v) → K' b v) → if Region.wanted o (yielded ops a.tmps)=true then Oper.wp P o a w K' Q else K' (a.put o.dst undef) w)
  (hs:TillEach P md ops Q S r n l a w rs):TillEach P md ops Q S r n l a w (i :: rs):=fun j hj=>by
 rcases List.mem_cons.1 hj with rfl | hj
 · exact wpOp_step (by rw [← Array.getElem?_toList]; exact ho) fun K' hK=>h K' fun b v hS hW=>hK b v ⟨fun _=>hS,hW hS⟩
 exact hs j hj
theorem TillEach.last {n:Nat} {l:Array Bool} {a:Act} {w:World} {o:Oper} (ho:ops.toList[r]?=some o)
  (h:∀ K':Act → World → Prop,Shut (∀ b v,Till P md ops Q S r n (l.setIfInBounds r true) b v → K' b v) → if Region.wanted o (yielded ops a.tmps)=true then Oper.wp P o a w K' Q else K' (a.put o.dst undef) w) :
  TillEach P md ops Q S r n l a w [r]:=fun j hj=>by
 obtain rfl:=List.mem_singleton.1 hj
 exact wpOp_step (by rw [← Array.getElem?_toList]; exact ho) fun K' hK=>h K' fun b v hW=>hK b v ⟨fun e=>absurd rfl e,hW⟩
theorem Till.done {l:Array Bool} {a:Act} {w:World} (hr:Region.ready md ops l=[]) (h:Q .normal a w):∀ n,Till P md ops Q S r n l a w
 | 0=>⟨hr,h⟩
 | _ + 1=>⟨fun _=>h,by rw [hr]; intro j hj; cases hj⟩
theorem wp_region_till {id:Nat} {a:Act} {w:World} (r:Nat) (hm:P.follows .mixedOrders=true) (hS:S w.drew)
  (h:S w.drew → Till P .any ops Q S r ops.size (Array.replicate ops.size false) a w.drew):(Code.region id ops true).wp P Q a w :=
 wp_region_any hm (Till.any _ (h hS))
end
end
section
section
variable {P:Program} {ops:Array Oper} {Q:Exit → Act → World → Prop} {md:Region.Mode} {S:World → Prop}
theorem held_take {i:Nat} {oi:Oper} {v:Value} {fuel:Nat} {listed:Array Bool} {a:Act} {w:World} (hl:ops.toList[i]?=some oi)
  (hs:Region.noSelect ops=true) (hf:Region.free md ops listed i=true) (hr:(Region.ready md ops listed).contains i=true)
  (hQ:∀ c a w,Q (.panic c) (a.put oi.dst v) w → Q (.panic c) a w) (hy:YieldsIf P ops S oi v a) (hS:S w)
  (h:wpAnyH P md ops Q S fuel (listed.setIfInBounds i true) (a.put oi.dst v) w):wpAnyH P md ops Q S (fuel + 1) listed a w :=
 wpAnyH_take (by rw [← Array.getElem?_toList]; exact hl) hs hf hr hQ hy hS h
theorem hKk (i:Nat) {oi:Oper} {v:Value} {fuel:Nat} {listed:Array Bool} {a:Act} {w:World}
  (h:wpAnyH P md ops Q S fuel (listed.setIfInBounds i true) (a.put oi.dst v) w) (hl:ops.toList[i]?=some oi:=by rfl) (hy:∀ w,S w → (execOp a.eval oi).run P w=.ok (.value v) w:=by (intro w h; (try dsimp only at h); go_simp; try with_reducible rfl)) (hg:Region.wanted oi (yielded ops a.tmps)=true:=by rfl)
  (hs:Region.noSelect ops=true:=by kernel_rfl) (hf:Region.free md ops listed i=true:=by kernel_rfl) (hr:(Region.ready md ops listed).contains i=true:=by kernel_rfl)
  (hQ:∀ c a w,Q (.panic c) (a.put oi.dst v) w → Q (.panic c) a w:=by exact fun _ _ _ h=>h) (hS:S w:=by assumption):wpAnyH P md ops Q S (fuel + 1) listed a w :=
 held_take hl hs hf hr hQ (Or.inl ⟨hg,hy⟩) hS h
theorem hRk (i:Nat) {oi:Oper} {fuel:Nat} {listed:Array Bool} {a:Act} {w:World} (h:wpAnyH P md ops Q S fuel (listed.setIfInBounds i true) (a.put oi.dst undef) w) (hl:ops.toList[i]?=some oi:=by rfl)
  (hg:Region.wanted oi (yielded ops a.tmps)=false:=by rfl)
  (hs:Region.noSelect ops=true:=by kernel_rfl) (hf:Region.free md ops listed i=true:=by kernel_rfl) (hr:(Region.ready md ops listed).contains i=true:=by kernel_rfl)
  (hQ:∀ c a w,Q (.panic c) (a.put oi.dst undef) w → Q (.panic c) a w:=by exact fun _ _ _ h=>h) (hS:S w:=by assumption):wpAnyH P md ops Q S (fuel + 1) listed a w :=
 held_take hl hs hf hr hQ (Or.inr ⟨hg,rfl⟩) hS h
theorem held_cons {fuel:Nat} {listed:Array Bool} {a:Act} {w:World} {i:Nat} {o:Oper} {rs:List Nat} (hl:ops.toList[i]?=some o)
  (h:∀ K':Act → World → Prop,Shut (∀ a w,S w → (S w → wpAnyH P md ops Q S fuel (listed.setIfInBounds i true) a w) → K' a w) → if Region.wanted o (yielded ops a.tmps)=true then Oper.wp P o a w K' Q else K' (a.put o.dst undef) w)
  (hs:AllReadyH P md ops Q S fuel listed a w rs):AllReadyH P md ops Q S fuel listed a w (i :: rs) :=
 AllReadyH.cons (by rw [← Array.getElem?_toList]; exact hl) h hs
end
end
section
def leastF (p:Nat → Bool):Nat → Nat → Option Nat
 | _,0=>none
 | k,m + 1=>if p k then some k else leastF p (k + 1) m
theorem leastF_some {p:Nat → Bool}:∀ {m k c:Nat},leastF p k m=some c → k ≤ c ∧ c < k + m ∧ p c=true ∧ ∀ i,k ≤ i → i < c → p i=false
 | 0,k,c,h=>by cases h
 | m + 1,k,c,h=>by
  unfold leastF at h
  split at h
  · injection h with h
    subst h
    exact ⟨by omega,by omega,by assumption,fun i h1 h2=>by omega⟩
  obtain ⟨h1,h2,h3,h4⟩:=leastF_some h
  refine ⟨by omega,by omega,h3,fun i h5 h6=>?_⟩
  by_cases hi:i=k
  · subst hi
    simpa using ‹¬ p i=true›
  exact h4 i (by omega) h6
theorem leastF_none {p:Nat → Bool}:∀ {m k:Nat},leastF p k m=none → ∀ i,k ≤ i → i < k + m → p i=false
 | 0,k,h,i,h1,h2=>by omega
 | m + 1,k,h,i,h1,h2=>by
  unfold leastF at h
  split at h
  · cases h
  by_cases hi:i=k
  · subst hi
    simpa using ‹¬ p i=true›
  exact leastF_none h i (by omega) (by omega)
theorem leastF_is {p:Nat → Bool} {m k c:Nat} (h1:k ≤ c) (h2:c < k + m) (h3:p c=true) (h4:∀ i,k ≤ i → i < c → p i=false):leastF p k m=some c:=by
 cases h:leastF p k m with
 | none =>
  have:=leastF_none h c h1 h2
  rw [h3] at this
  cases this
 | some d =>
  obtain ⟨g1,g2,g3,g4⟩:=leastF_some h
  rcases Nat.lt_trichotomy c d with h5 | h5 | h5
  · rw [g4 c h1 h5] at h3
    cases h3
  · rw [h5]
  rw [h4 d g1 h5] at g3
  cases g3
theorem leastF_step {p:Nat → Bool} {k n:Nat} (h:k < n):leastF p k (n - k)=if p k then some k else leastF p (k + 1) (n - (k + 1)):=by
 obtain ⟨m,hm⟩:∃ m,n - k=m + 1:=⟨n - k - 1,by omega⟩
 rw [hm,show n - (k + 1)=m by omega]
 rfl
def optI:Option Nat → Int
 | none=>-1
 | some c=>(c:Int)
def cv (T:List Tri) (c:Nat):Int:=cornerT (tri T (c / 3)) (c % 3)
def nxc (c:Nat):Nat:=c - c % 3 + (c + 1) % 3
def pvc (c:Nat):Nat:=c - c % 3 + (c + 2) % 3
def ce (T:List Tri) (c:Nat):Int × Int:=(cv T (nxc c),cv T (pvc c))
theorem nxc_lt {c n:Nat} (h:c < 3 * n):nxc c < 3 * n:=by unfold nxc; omega
theorem pvc_lt {c n:Nat} (h:c < 3 * n):pvc c < 3 * n:=by unfold pvc; omega
def facingF (T:List Tri) (e:Int × Int):Option Nat:=leastF (fun c=>decide (ce T c=e)) 0 (3 * T.length)
def cornerF (T:List Tri) (v:Int):Option Nat:=leastF (fun c=>decide (cv T c=v)) 0 (3 * T.length)
def isC (n:Nat) (c:Int):Prop:=0 ≤ c ∧ c < 3 * (n:Int)
instance (n:Nat) (c:Int):Decidable (isC n c):=inferInstanceAs (Decidable (_ ∧ _))
def vertexI (T:List Tri) (c:Int):Int:=if isC T.length c then cv T c.toNat else -1
def nextI (n:Nat) (c:Int):Int:=if isC n c then (nxc c.toNat:Int) else -1
def prevI (n:Nat) (c:Int):Int:=if isC n c then (pvc c.toNat:Int) else -1
def edgeI (T:List Tri) (c:Int):Int × Int:=(vertexI T (nextI T.length c),vertexI T (prevI T.length c))
def facingI (T:List Tri) (e:Int × Int):Int:=optI (facingF T e)
def oppI (T:List Tri) (c:Int):Int:=facingI T ((edgeI T c).2,(edgeI T c).1)
def cornerI (T:List Tri) (m:Nat) (v:Int):Int:=if 0 ≤ v ∧ v < (m:Int) then optI (cornerF T v) else -1
theorem vertexI_nat {T:List Tri} {c:Nat} (h:c < 3 * T.length):vertexI T (c:Int)=cv T c:=by
 unfold vertexI
 rw [if_pos ⟨by omega,by omega⟩]
 rfl
theorem nextI_nat {n c:Nat} (h:c < 3 * n):nextI n (c:Int)=(nxc c:Int):=by
 unfold nextI
 rw [if_pos ⟨by omega,by omega⟩]
 rfl
theorem prevI_nat {n c:Nat} (h:c < 3 * n):prevI n (c:Int)=(pvc c:Int):=by
 unfold prevI
 rw [if_pos ⟨by omega,by omega⟩]
 rfl
theorem edgeI_nat {T:List Tri} {c:Nat} (h:c < 3 * T.length):edgeI T (c:Int)=ce T c:=by
 unfold edgeI ce
 rw [nextI_nat h,prevI_nat h,vertexI_nat (nxc_lt h),vertexI_nat (pvc_lt h)]
open Classical in
noncomputable def facesV (T:List Tri) (k:Nat) (x:Value):Option Value:=(leastF (fun c=>decide (encE (ce T c)=x)) k (3 * T.length - k)).map fun c:Nat=>.int .i64 (c:Int)
open Classical in
theorem facesV_end (T:List Tri):facesV T (3 * T.length)=fun _=>none:=by
 funext x
 unfold facesV
 rw [Nat.sub_self]
 rfl
open Classical in
theorem facesV_step {T:List Tri} {k:Nat} (h:k < 3 * T.length):putV (facesV T (k + 1)) (encE (ce T k)) (.int .i64 (k:Int))=facesV T k:=by
 funext x
 by_cases hx:x=encE (ce T k)
 · subst hx
   rw [putV_same]
   unfold facesV
   rw [leastF_step h,if_pos (by simp)]
   rfl
 rw [putV_ne _ _ hx]
 unfold facesV
 rw [leastF_step h,if_neg (by simpa using fun e=>hx e.symm)]
open Classical in
theorem facesV_zero (T:List Tri) (e:Int × Int):facesV T 0 (encE e)=(facingF T e).map fun c:Nat=>.int .i64 (c:Int):=by
 have hp:(fun c=>decide (encE (ce T c)=encE e))=fun c=>decide (ce T c=e):=by
  funext c
  by_cases h:ce T c=e
  · simp [h]
  have:¬ encE (ce T c)=encE e:=fun h2=>h (encE_inj h2)
  simp [h,this]
 unfold facesV facingF
 rw [hp,Nat.sub_zero]
def ints (L:List Int):Array Value:=(L.map (Value.int .i64)).toArray
theorem ints_at {L:List Int} {k:Nat} {x:Int} (h:L[k]?=some x):(ints L)[k]?=some (.int .i64 x):=by simp [ints,h]
theorem ints_set (L:List Int) (k:Nat) (x:Int):(ints L).setIfInBounds k (.int .i64 x)=ints (L.set k x):=by simp [ints,List.map_set]
theorem madeInts (m:Nat):madeCells (Value.int .i64 0).cells m=ints (List.replicate m 0):=by
 apply Array.ext'
 refine List.ext_getElem? fun i=>?_
 by_cases hi:i < m
 · simp [madeCells,ints,hi,Value.cells,Nat.mod_one]
 simp [madeCells,ints,hi,Value.cells]
structure TabAt (w:World) (B g:Nat) (N:Int) (T:List Tri):Prop where
 at_:∃ (A:Option Addr) (c b n gf m:Nat) (L:List Int),Blk w g 68 #[.int .i64 N,.slice A T.length c,.map (some b),.slice (some ⟨gf,0,none⟩) m m] ∧ B ≤ g ∧ B ≤ b ∧ B ≤ gf ∧
  LRow w B A c T ∧ MapV Tryz.prog 70 w b n (facesV T 0) ∧ Blk w gf 3 (ints L) ∧ N=(m:Int) ∧ L.length=m ∧ ∀ v,v < m → L[v]?=some (optI (cornerF T (v:Int)))
theorem TabAt.below {w w':World} {B g:Nat} {N:Int} {T:List Tri} (h:TabAt w B g N T) (hb:Below w.heap.size w w'):TabAt w' B g N T:=by
 obtain ⟨A,c,b,n,gf,m,L,h1,h2,h3,h4,h5,h6,h7,h8,h9,h10⟩:=h.at_
 exact ⟨A,c,b,n,gf,m,L,blk_call h1 hb,h2,h3,h4,h5.below hb,h6.below hb h6.lt,blk_call h7 hb,h8,h9,h10⟩
theorem TabAt.alloc {w:World} {B g:Nat} {N:Int} {T:List Tri} (h:TabAt w B g N T) (o:Obj):TabAt (w.alloc o) B g N T:=h.below (bw_alloc (Below.refl _ _) o)
theorem TabAt.drew {w:World} {B g:Nat} {N:Int} {T:List Tri} (h:TabAt w B g N T):TabAt w.drew B g N T:=by
 obtain ⟨A,c,b,n,gf,m,L,h1,h2,h3,h4,h5,h6,h7,h8,h9,h10⟩:=h.at_
 exact ⟨A,c,b,n,gf,m,L,h1.drew,h2,h3,h4,h5.drew,h6.drew,h7.drew,h8,h9,h10⟩
theorem TabAt.base {w:World} {B B' g:Nat} {N:Int} {T:List Tri} (h:TabAt w B g N T) (hB:B' ≤ B):TabAt w B' g N T:=by
 obtain ⟨A,c,b,n,gf,m,L,h1,h2,h3,h4,h5,h6,h7,h8,h9,h10⟩:=h.at_
 exact ⟨A,c,b,n,gf,m,L,h1,by omega,by omega,by omega,h5.base hB,h6,h7,h8,h9,h10⟩
theorem TabAt.lt {w:World} {B g:Nat} {N:Int} {T:List Tri} (h:TabAt w B g N T):g < w.heap.size:=by
 obtain ⟨A,c,b,n,gf,m,L,h1,_⟩:=h.at_
 exact h1.lt
structure TabS (w:World) (B g:Nat) (N:Int) (T:List Tri):Prop where
 at_:∃ (A:Option Addr) (c:Nat) (x2 x3:Value),Blk w g 68 #[.int .i64 N,.slice A T.length c,x2,x3] ∧ LRow w B A c T
theorem TabS.below {w w':World} {B g:Nat} {N:Int} {T:List Tri} (h:TabS w B g N T) (hb:Below w.heap.size w w'):TabS w' B g N T:=by
 obtain ⟨A,c,x2,x3,h1,h2⟩:=h.at_
 exact ⟨A,c,x2,x3,blk_call h1 hb,h2.below hb⟩
theorem TabS.alloc {w:World} {B g:Nat} {N:Int} {T:List Tri} (h:TabS w B g N T) (o:Obj):TabS (w.alloc o) B g N T:=h.below (bw_alloc (Below.refl _ _) o)
theorem TabS.drew {w:World} {B g:Nat} {N:Int} {T:List Tri} (h:TabS w B g N T):TabS w.drew B g N T:=by
 obtain ⟨A,c,x2,x3,h1,h2⟩:=h.at_
 exact ⟨A,c,x2,x3,h1.drew,h2.drew⟩
theorem TabAt.s {w:World} {B g:Nat} {N:Int} {T:List Tri} (h:TabAt w B g N T):TabS w B g N T:=by
 obtain ⟨A,c,b,n,gf,m,L,h1,h2,h3,h4,h5,_⟩:=h.at_
 exact ⟨A,c,_,_,h1,h5⟩
def EdPost (w:World) (v:Int × Int) (e:Ending) (w':World):Prop:=e=.returned (.agg #[.int .i64 v.1,.int .i64 v.2]) ∧ Below w.heap.size w w'
theorem edge_facts {w:World} {g:Nat} {x y:Value} (h:Blk w g 70 #[x,y]):w.cell? ⟨g,0,none⟩=some x ∧ w.cell? ⟨g,1,none⟩=some y ∧ w.frozen? ⟨g,0,none⟩=false ∧ w.frozen? ⟨g,1,none⟩=false :=
 ⟨h.cell 0,h.cell 1,h.frozen 0,h.frozen 1⟩
theorem edge_set {w:World} {g:Nat} {x y:Value} (h:Blk w g 70 #[x,y]) (u v:Value):Blk ((w.setCell ⟨g,0,none⟩ u).setCell ⟨g,1,none⟩ v) g 70 #[u,v]:=by
 simpa using (h.set_ 0 u).set_ 1 v
def IntPost (w:World) (v:Int) (e:Ending) (w':World):Prop:=e=.returned (.int .i64 v) ∧ Below w.heap.size w w'
def IsPost (w:World) (v:Value) (e:Ending) (w':World):Prop:=e=.returned v ∧ w'=w
end
section
attribute [local irreducible] Blk LRow World.alloc World.setCell World.cell? World.frozen? MapV
theorem TabS.cells {w:World} {B g:Nat} {N:Int} {T:List Tri} (h:TabS w B g N T):∃ (A:Option Addr) (c:Nat),w.cell? ⟨g,0,none⟩=some (.int .i64 N) ∧ w.cell? ⟨g,1,none⟩=some (.slice A T.length c) ∧ LRow w B A c T:=by
 obtain ⟨A,c,x2,x3,h1,h2⟩:=h.at_
 exact ⟨A,c,h1.cell 0,h1.cell 1,h2⟩
theorem has_any (g B:Nat) (N:Int) (T:List Tri) (x:Int) (w:World) (hT:T.length ≤ 8192) (h:TabS w B g N T) :
  Calls Tryz.prog 33 #[.pointer (some ⟨g,0,none⟩),.int .i64 x] w (IsPost w (.bool (decide (isC T.length x)))):=by
 obtain ⟨A,c,t0,t1,hR⟩:=h.cells
 clear hR
 go_enter Tryz.func33,Tryz.ntmps33
 by_cases h0:x < 0
 · rw [decide_eq_false (fun hc=>by have:=hc.1; omega)]
   go_wp2_with fail
   go_ret
   exact ⟨rfl,rfl⟩
 by_cases h1:x < 3 * (T.length:Int)
 · rw [decide_eq_true (show isC T.length x from ⟨by omega,h1⟩)]
   go_wp2_with fail
   go_ret
   exact ⟨rfl,rfl⟩
 rw [decide_eq_false (fun hc=>h1 hc.2)]
 go_wp2_with fail
 go_ret
 exact ⟨rfl,rfl⟩
theorem turned1_any (k:Nat) (w:World) (hk:k < 100000):Calls Tryz.prog 34 #[.int .i64 (k:Int),.int .i64 1] w (IsPost w (.int .i64 (nxc k:Int))):=by
 have e1:Int.tmod (k:Int) 3=((k % 3:Nat):Int):=Int.ofNat_tmod k 3
 have e2:Int.tmod ((k:Int) + 1) 3=(((k + 1) % 3:Nat):Int):=Int.ofNat_tmod (k + 1) 3
 have e3:((nxc k:Nat):Int)=(k:Int) - ((k % 3:Nat):Int) + (((k + 1) % 3:Nat):Int):=by unfold nxc; omega
 have h1:k % 3 < 3:=Nat.mod_lt _ (by omega)
 have h2:(k + 1) % 3 < 3:=Nat.mod_lt _ (by omega)
 rw [e3]
 clear e3
 generalize k % 3=r1 at *
 generalize (k + 1) % 3=r2 at *
 go_enter Tryz.func34,Tryz.ntmps34
 go_wp2_with fail
 go_ret
 exact ⟨rfl,rfl⟩
theorem turned2_any (k:Nat) (w:World) (hk:k < 100000):Calls Tryz.prog 34 #[.int .i64 (k:Int),.int .i64 2] w (IsPost w (.int .i64 (pvc k:Int))):=by
 have e1:Int.tmod (k:Int) 3=((k % 3:Nat):Int):=Int.ofNat_tmod k 3
 have e2:Int.tmod ((k:Int) + 2) 3=(((k + 2) % 3:Nat):Int):=Int.ofNat_tmod (k + 2) 3
 have e3:((pvc k:Nat):Int)=(k:Int) - ((k % 3:Nat):Int) + (((k + 2) % 3:Nat):Int):=by unfold pvc; omega
 have h1:k % 3 < 3:=Nat.mod_lt _ (by omega)
 have h2:(k + 2) % 3 < 3:=Nat.mod_lt _ (by omega)
 rw [e3]
 clear e3
 generalize k % 3=r1 at *
 generalize (k + 2) % 3=r2 at *
 go_enter Tryz.func34,Tryz.ntmps34
 go_wp2_with fail
 go_ret
 exact ⟨rfl,rfl⟩
theorem next_any (g B:Nat) (N:Int) (T:List Tri) (x:Int) (w:World) (hT:T.length ≤ 8192) (h:TabS w B g N T) :
  Calls Tryz.prog 18 #[.pointer (some ⟨g,0,none⟩),.int .i64 x] w (IsPost w (.int .i64 (nextI T.length x))):=by
 have HH:=jJ (has_any g B N T x w hT h)
 unfold nextI
 by_cases hc:isC T.length x
 · rw [if_pos hc]
   rw [decide_eq_true hc] at HH
   obtain ⟨k,rfl⟩:=Int.eq_ofNat_of_zero_le hc.1
   have hk:k < 100000:=by have:=hc.2; omega
   clear hc
   go_enter Tryz.func18,Tryz.ntmps18
   go_wp2_with fail
   refine HH.out.mono ?_
   rintro e w' ⟨rfl,rfl⟩
   go_wp2_with fail
   refine (turned1_any k w' hk).mono ?_
   rintro e w2 ⟨rfl,rfl⟩
   go_wp2_with fail
   go_ret
   exact ⟨rfl,rfl⟩
 rw [if_neg hc]
 rw [decide_eq_false hc] at HH
 clear hc
 go_enter Tryz.func18,Tryz.ntmps18
 go_wp2_with fail
 refine HH.out.mono ?_
 rintro e w' ⟨rfl,rfl⟩
 go_wp2_with fail
 go_ret
 exact ⟨rfl,rfl⟩
theorem prev_any (g B:Nat) (N:Int) (T:List Tri) (x:Int) (w:World) (hT:T.length ≤ 8192) (h:TabS w B g N T) :
  Calls Tryz.prog 19 #[.pointer (some ⟨g,0,none⟩),.int .i64 x] w (IsPost w (.int .i64 (prevI T.length x))):=by
 have HH:=jJ (has_any g B N T x w hT h)
 unfold prevI
 by_cases hc:isC T.length x
 · rw [if_pos hc]
   rw [decide_eq_true hc] at HH
   obtain ⟨k,rfl⟩:=Int.eq_ofNat_of_zero_le hc.1
   have hk:k < 100000:=by have:=hc.2; omega
   clear hc
   go_enter Tryz.func19,Tryz.ntmps19
   go_wp2_with fail
   refine HH.out.mono ?_
   rintro e w' ⟨rfl,rfl⟩
   go_wp2_with fail
   refine (turned2_any k w' hk).mono ?_
   rintro e w2 ⟨rfl,rfl⟩
   go_wp2_with fail
   go_ret
   exact ⟨rfl,rfl⟩
 rw [if_neg hc]
 rw [decide_eq_false hc] at HH
 clear hc
 go_enter Tryz.func19,Tryz.ntmps19
 go_wp2_with fail
 refine HH.out.mono ?_
 rintro e w' ⟨rfl,rfl⟩
 go_wp2_with fail
 go_ret
 exact ⟨rfl,rfl⟩
theorem vertex_any (g B:Nat) (N:Int) (T:List Tri) (x:Int) (w:World) (hT:T.length ≤ 8192) (h:TabS w B g N T) :
  Calls Tryz.prog 17 #[.pointer (some ⟨g,0,none⟩),.int .i64 x] w (IsPost w (.int .i64 (vertexI T x))):=by
 have HH:=jJ (has_any g B N T x w hT h)
 obtain ⟨A,c,t0,t1,hR⟩:=h.cells
 have HR:=jJ hR
 clear hR
 unfold vertexI
 by_cases hc:isC T.length x
 · rw [if_pos hc]
   rw [decide_eq_true hc] at HH
   obtain ⟨k,rfl⟩:=Int.eq_ofNat_of_zero_le hc.1
   have hk3:k / 3 < T.length:=by have:=hc.2; omega
   clear hc
   rw [show ((k:Int)).toNat=k from rfl]
   obtain ⟨ad,t,rfl,ht,_,hadb,hc3⟩:=HR.out.tris.at_ hk3
   unfold cv
   rw [tri_of ht]
   obtain ⟨d0,d1,d2,d3,d4,d5⟩:=hc3
   have e1:Int.tmod (k:Int) 3=((k % 3:Nat):Int):=Int.ofNat_tmod k 3
   have e2:Int.tdiv (k:Int) 3=((k / 3:Nat):Int):=Int.ofNat_tdiv k 3
   have h1:k % 3 < 3:=Nat.mod_lt _ (by omega)
   clear ht hadb
   generalize k % 3=r at *
   generalize k / 3=q at *
   have hq0:(0:Int) ≤ (q:Int):=by omega
   have hq1:(q:Int) < (T.length:Int):=by omega
   rcases (by omega:r=0 ∨ r=1 ∨ r=2) with rfl | rfl | rfl
   · replace e1:Int.tmod (k:Int) 3=0:=e1
     rw [show cornerT t 0=t.a from rfl]
     go_enter Tryz.func17,Tryz.ntmps17
     go_wp2_with fail
     refine HH.out.mono ?_
     rintro e w' ⟨rfl,rfl⟩
     go_wp2_with fail
     go_ret
     exact ⟨rfl,rfl⟩
   · replace e1:Int.tmod (k:Int) 3=1:=e1
     rw [show cornerT t 1=t.b from rfl]
     go_enter Tryz.func17,Tryz.ntmps17
     go_wp2_with fail
     refine HH.out.mono ?_
     rintro e w' ⟨rfl,rfl⟩
     go_wp2_with fail
     go_ret
     exact ⟨rfl,rfl⟩
   replace e1:Int.tmod (k:Int) 3=2:=e1
   rw [show cornerT t 2=t.c from rfl]
   go_enter Tryz.func17,Tryz.ntmps17
   go_wp2_with fail
   refine HH.out.mono ?_
   rintro e w' ⟨rfl,rfl⟩
   go_wp2_with fail
   go_ret
   exact ⟨rfl,rfl⟩
 rw [if_neg hc]
 rw [decide_eq_false hc] at HH
 clear hc
 go_enter Tryz.func17,Tryz.ntmps17
 go_wp2_with fail
 refine HH.out.mono ?_
 rintro e w' ⟨rfl,rfl⟩
 go_wp2_with fail
 go_ret
 exact ⟨rfl,rfl⟩
theorem edge_any (g B:Nat) (N:Int) (T:List Tri) (x:Int) (w:World) (hT:T.length ≤ 8192) (h:TabS w B g N T) :
  Calls Tryz.prog 26 #[.pointer (some ⟨g,0,none⟩),.int .i64 x] w (EdPost w (edgeI T x)):=by
 obtain ⟨V,hV⟩:=jX (w.alloc (.cells #[.int .i64 0,.int .i64 0] 70))
 have GV:Hid (Blk V w.heap.size 70 #[.int .i64 0,.int .i64 0]):=by subst hV; exact jJ (Blk.new _ _ _)
 have HV:Hid (TabS V B g N T):=by subst hV; exact jJ (h.alloc _)
 have HB:Hid (Below w.heap.size w V):=by subst hV; exact jJ (bw_alloc (Below.refl _ _) _)
 clear h
 obtain ⟨a,ha⟩:=jY (vertexI T (nextI T.length x))
 obtain ⟨b,hb⟩:=jY (vertexI T (prevI T.length x))
 rw [show edgeI T x=(a,b) by unfold edgeI; rw [ha,hb]]
 have HVA:=jJ (vertex_any g B N T (nextI T.length x) V hT HV.out)
 have HVB:=jJ (vertex_any g B N T (prevI T.length x) V hT HV.out)
 rw [ha] at HVA
 rw [hb] at HVB
 clear ha hb
 go_enter Tryz.func26,Tryz.ntmps26
 go_upto_region 1 with (fail)
 rw [← hV]
 clear hV
 obtain ⟨ge,hge⟩:=jX w.heap.size
 have HGE:Hid (w.heap.size ≤ ge):=jJ (by omega)
 rw [← hge] at GV
 simp only [← hge]
 clear hge
 go_wp2_with fail
 refine (next_any g B N T x V hT HV.out).mono ?_
 rintro e w' ⟨rfl,rfl⟩
 go_wp2_with fail
 refine HVA.out.mono ?_
 rintro e w2 ⟨rfl,rfl⟩
 go_wp2_with fail
 refine (prev_any g B N T x w2 hT HV.out).mono ?_
 rintro e w3 ⟨rfl,rfl⟩
 go_wp2_with fail
 refine HVB.out.mono ?_
 rintro e w4 ⟨rfl,rfl⟩
 obtain ⟨f0,f1,f2,f3⟩:=edge_facts GV.out
 go_wp2_with fail
 obtain ⟨g0,g1,_,_⟩:=edge_facts (edge_set GV.out (.int .i64 a) (.int .i64 b))
 refine bodyPost_ret (v:=.agg #[.int .i64 a,.int .i64 b]) ?_ rfl ⟨rfl,bw_set (bw_set HB.out HGE.out _) HGE.out _⟩
 simp [results,Tryz.results26,go_sem,g0,g1]
theorem TabAt.cells {w:World} {B g:Nat} {N:Int} {T:List Tri} (h:TabAt w B g N T):∃ (A:Option Addr) (c b n gf m:Nat) (L:List Int),w.cell? ⟨g,0,none⟩=some (.int .i64 N) ∧ w.cell? ⟨g,1,none⟩=some (.slice A T.length c) ∧ w.cell? ⟨g,2,none⟩=some (.map (some b)) ∧ w.cell? ⟨g,3,none⟩=some (.slice (some ⟨gf,0,none⟩) m m) ∧
  LRow w B A c T ∧ MapV Tryz.prog 70 w b n (facesV T 0) ∧ Blk w gf 3 (ints L) ∧ N=(m:Int) ∧ L.length=m ∧ ∀ v,v < m → L[v]?=some (optI (cornerF T (v:Int))):=by
 obtain ⟨A,c,b,n,gf,m,L,h1,h2,h3,h4,h5,h6,h7,h8,h9,h10⟩:=h.at_
 exact ⟨A,c,b,n,gf,m,L,h1.cell 0,h1.cell 1,h1.cell 2,h1.cell 3,h5,h6,h7,h8,h9,h10⟩
theorem look_face {w:World} {b n:Nat} {T:List Tri} (h:MapV Tryz.prog 70 w b n (facesV T 0)) {x y:Int} (hw:wfE (x,y)) :
  (Instr.lookup 66 (.map (some b)) (.agg #[.int .i64 x,.int .i64 y]) true).run Tryz.prog w=.ok (.tuple #[.int .i64 (((facingF T (x,y)).map fun c:Nat=>(c:Int)).getD 0),.bool (facingF T (x,y)).isSome]) w:=by
 obtain ⟨l,hl⟩:=keyE hw
 have hz:∀ w,(zeroValue 3).run Tryz.prog w=.ok (.int .i64 0) w:=by intro w; kernel_rfl
 have h1:=h.look keyedE Tryz.underlying66 (hz w) hl true
 rw [facesV_zero] at h1
 cases hf:facingF T (x,y) with
 | none=>rw [hf] at h1; exact h1
 | some c=>rw [hf] at h1; exact h1
theorem facing_any (g B:Nat) (N:Int) (T:List Tri) (x y:Int) (w:World) (hT:T.length ≤ 8192) (hw:wfE (x,y)) (h:TabAt w B g N T) :
  Calls Tryz.prog 62 #[.pointer (some ⟨g,0,none⟩),.agg #[.int .i64 x,.int .i64 y]] w (IntPost w (facingI T (x,y))):=by
 obtain ⟨V,hV⟩:=jX (w.alloc (.cells #[.int .i64 x,.int .i64 y] 70))
 have GV:Hid (Blk V w.heap.size 70 #[.int .i64 x,.int .i64 y]):=by subst hV; exact jJ (Blk.new _ _ _)
 have HV:Hid (TabAt V B g N T):=by subst hV; exact jJ (h.alloc _)
 have HB:Hid (Below w.heap.size w V):=by subst hV; exact jJ (bw_alloc (Below.refl _ _) _)
 clear h
 obtain ⟨A,c,b,n,gf,m,L,t0,t1,t2,t3,hR,hM,hF,hN,hL,hVV⟩:=HV.out.cells
 have hlk:=fun k=>look_face (hM.drewN k) hw
 clear hR hM hF hN hL hVV
 unfold facingI
 generalize facingF T (x,y)=r at *
 cases r with
 | none =>
  simp only [Option.map_none,Option.getD_none,Option.isSome_none] at hlk
  go_enter Tryz.func62,Tryz.ntmps62
  go_upto_region 3 with (fail)
  rw [← hV]
  clear hV
  generalize w.heap.size=ge at GV ⊢
  obtain ⟨g0,g1,_,_⟩:=edge_facts GV.out
  go_quiet (fail)
  go_wp2_with fail
  go_ret
  exact ⟨rfl,below_drewN HB.out _⟩
 | some q =>
  simp only [Option.map_some,Option.getD_some,Option.isSome_some] at hlk
  go_enter Tryz.func62,Tryz.ntmps62
  go_upto_region 3 with (fail)
  rw [← hV]
  clear hV
  generalize w.heap.size=ge at GV ⊢
  obtain ⟨g0,g1,_,_⟩:=edge_facts GV.out
  go_quiet (fail)
  go_wp2_with fail
  go_ret
  exact ⟨rfl,below_drewN HB.out _⟩
end
section
attribute [local irreducible] Blk LRow World.alloc World.setCell World.cell? World.frozen? MapV
theorem opp_any (g B:Nat) (N:Int) (T:List Tri) (x:Int) (w:World) (hT:T.length ≤ 8192) (hw:wfE ((edgeI T x).2,(edgeI T x).1)) (h:TabAt w B g N T) :
  Calls Tryz.prog 58 #[.pointer (some ⟨g,0,none⟩),.int .i64 x] w (IntPost w (oppI T x)):=by
 have HED:=jJ (edge_any g B N T x w hT h.s)
 have HH:=jJ h
 have HWF:=jJ hw
 clear h hw
 unfold oppI
 obtain ⟨E,hE⟩:=jY (edgeI T x)
 rw [hE] at HED HWF ⊢
 clear hE
 obtain ⟨a,b⟩:=E
 go_enter Tryz.func58,Tryz.ntmps58
 go_wp2_with fail
 refine HED.out.mono ?_
 rintro e w1 ⟨rfl,hb⟩
 have HT1:=jJ (HH.out.below hb)
 have HB1:=jJ hb
 clear hb HED HH
 obtain ⟨V,hV⟩:=jX (w1.alloc (.cells #[.int .i64 a,.int .i64 b] 70))
 have GV:Hid (Blk V w1.heap.size 70 #[.int .i64 a,.int .i64 b]):=by subst hV; exact jJ (Blk.new _ _ _)
 have HV:Hid (TabAt V B g N T):=by subst hV; exact jJ (HT1.out.alloc _)
 have HB:Hid (Below w.heap.size w V):=by subst hV; exact jJ (bw_alloc HB1.out _)
 go_upto_region 2 with (fail)
 rw [← hV]
 clear hV
 generalize w1.heap.size=ge at GV ⊢
 obtain ⟨g0,g1,_,_⟩:=edge_facts GV.out
 go_wp2_with fail
 refine (facing_any g B N T b a V hT HWF.out HV.out).mono ?_
 rintro e w2 ⟨rfl,hb⟩
 have HB2:=jJ (bw_call HB.out hb)
 clear hb
 go_wp2_with fail
 go_ret
 exact ⟨rfl,HB2.out⟩
end
section
attribute [local irreducible] Blk LRow World.alloc World.setCell World.cell? World.frozen? MapV
theorem tris_any (g B:Nat) (N:Int) (T:List Tri) (w:World) (h:TabS w B g N T) :
  Calls Tryz.prog 31 #[.pointer (some ⟨g,0,none⟩)] w (IsPost w (.int .i64 T.length)):=by
 obtain ⟨A,c,t0,t1,hR⟩:=h.cells
 clear hR
 go_enter Tryz.func31,Tryz.ntmps31
 go_wp2_with fail
 go_ret
 exact ⟨rfl,rfl⟩
end
section
theorem tris_one8 (T:List Tri):∀ u ∈ T.flatMap Tri.cells,u.oneCell'=true:=by
 intro u hu
 obtain ⟨t,_,ht⟩:=List.mem_flatMap.1 hu
 simp [Tri.cells] at ht
 rcases ht with rfl | rfl | rfl <;> rfl
theorem run_nil_yes (n c:Nat) (w:World):(binOp .eql 22 (.slice none n c) (.slice none 0 0)).run Tryz.prog w=.ok (.bool true) w:=by kernel_rfl
theorem run_nil_no (ad:Addr) (n c:Nat) (w:World):(binOp .eql 22 (.slice (some ad) n c) (.slice none 0 0)).run Tryz.prog w=.ok (.bool false) w:=by kernel_rfl
def RowPost (w:World) (n:Nat) (T:List Tri) (e:Ending) (w':World):Prop:=∃ A c,e=.returned (.slice A n c) ∧ LRow w' w.heap.size A c T ∧ Below w.heap.size w w'
attribute [local irreducible] Blk LRow World.alloc World.setCell World.cell? World.frozen? MapV
theorem clone_any (A:Option Addr) (c:Nat) (T:List Tri) (w:World) (hn:T.length ≤ 8192) (ht:TrisAt w w.heap.size A T.length T) :
  Calls Tryz.prog 25 #[.slice A T.length c] w (RowPost w T.length T):=by
 obtain ⟨i0,hi0,hz0,hz1,hz2⟩:=info_parts ltri_info
 have HT:=jJ ht
 clear ht
 cases A with
 | none =>
  have hT:T=[]:=by
   cases T with
   | nil=>rfl
   | cons t T =>
    obtain ⟨ad,e,_⟩:=HT.out.row.2 (by simp)
    cases e
  subst hT
  have hnil:=fun w=>run_nil_yes 0 c w
  go_enter Tryz.func25,Tryz.ntmps25
  go_wp2_with fail
  go_ret
  exact ⟨none,0,rfl,LRow.nil _ _,Below.refl _ _⟩
 | some ad =>
  have hnil:=fun w=>run_nil_no ad T.length c w
  have HB:Hid (Below w.heap.size w (w.alloc (.cells #[] 65))):=jJ (bw_alloc (Below.refl _ _) _)
  go_enter Tryz.func25,Tryz.ntmps25
  go_wp2_with (at_builtin; go_must (refine wpList_append_sl _ rfl (.tmp 5) (.tmp 6) _ rfl w.heap.size 65 i0 _ 3 24 Tryz.underlying22 hi0 hz0 hz1 hz2 rfl (by omega) (.slice (some ⟨w.heap.size,0,none⟩) 0 0) 0 [] rfl (own_at (Blk.new _ _ _) (Nat.le_refl _)) w.heap.size (some ad) T.length c (T.flatMap Tri.cells) rfl (HT.out.row.below HB.out) (tris_one8 T) (by simp only [maxLen]; omega) (by omega) HB.out.size ?_); intro A5 c5 w4 hown5 hg5 hat5)
  have hB:Below w.heap.size w w4:=bw_grow HB.out hg5 (fun k hk=>by simp [Value.ownBlock] at hk; omega)
  go_ret
  simp only [Nat.zero_add,List.nil_append] at hown5 ⊢
  exact ⟨A5,c5,rfl,lrow_of hown5 rfl rfl,hB⟩
end
section
def NewPost (w:World) (N:Int) (T:List Tri) (e:Ending) (w':World):Prop :=
 (checkR N T=(0,0,0) ∧ ∃ g,e=.returned (.tuple #[.pointer (some ⟨g,0,none⟩),wv (0,0,0)]) ∧ TabAt w' w.heap.size g N T ∧ Below w.heap.size w w') ∨
 (checkR N T ≠ (0,0,0) ∧ e=.returned (.tuple #[.pointer none,wv (checkR N T)]) ∧ Below w.heap.size w w')
theorem new_yes {w w':World} {N:Int} {T:List Tri} {g:Nat} (h:checkR N T=(0,0,0)) (ht:TabAt w' w.heap.size g N T) (hb:Below w.heap.size w w'):NewPost w N T (.returned (.tuple #[.pointer (some ⟨g,0,none⟩),.agg #[.int .i64 0,.int .i64 0,.int .i64 0]])) w':=Or.inl ⟨h,g,rfl,ht,hb⟩
theorem new_no {w w':World} {N k a b:Int} {T:List Tri} (h:checkR N T ≠ (0,0,0)) (hx:checkR N T=(k,a,b)) (hb:Below w.heap.size w w'):NewPost w N T (.returned (.tuple #[.pointer none,.agg #[.int .i64 k,.int .i64 a,.int .i64 b]])) w':=Or.inr ⟨h,by rw [hx]; rfl,hb⟩
theorem int_infoC:(Tryz.prog.info? 3).map (fun i=>(i.zero,i.size,i.bytes))=some (some (.int .i64 0),1,8):=by kernel_rfl
theorem wit_facts {w:World} {g:Nat} {x y z:Value} (h:Blk w g 39 #[x,y,z]):w.cell? ⟨g,0,none⟩=some x ∧ w.cell? ⟨g,1,none⟩=some y ∧ w.cell? ⟨g,2,none⟩=some z ∧ w.frozen? ⟨g,0,none⟩=false ∧ w.frozen? ⟨g,1,none⟩=false ∧ w.frozen? ⟨g,2,none⟩=false :=
 ⟨h.cell 0,h.cell 1,h.cell 2,h.frozen 0,h.frozen 1,h.frozen 2⟩
theorem wit_set {w:World} {g:Nat} {x y z:Value} (h:Blk w g 39 #[x,y,z]) (u v t:Value):Blk (((w.setCell ⟨g,0,none⟩ u).setCell ⟨g,1,none⟩ v).setCell ⟨g,2,none⟩ t) g 39 #[u,v,t]:=by
 simpa using ((h.set_ 0 u).set_ 1 v).set_ 2 t
theorem checkR_zero {N:Int} {T:List Tri} (h:(checkR N T).1=0):refAll N T=[] ∧ checkR N T=(0,0,0):=by
 cases e:refAll N T with
 | nil=>exact ⟨rfl,by unfold checkR; rw [e]; rfl⟩
 | cons x l =>
  have h1:=ref_kind (N:=N) (T:=T) (x:=x) (by rw [e]; exact List.mem_cons_self ..)
  unfold checkR at h
  rw [e] at h
  have h2:x.1=0:=h
  omega
theorem cv_ok {m:Nat} {T:List Tri} (h:∀ t ∈ T,TriOk m t) {c:Nat} (hc:c < 3 * T.length):0 ≤ cv T c ∧ cv T c < m:=by
 have hq:c / 3 < T.length:=by omega
 have ht:tri T (c / 3) ∈ T:=by
  rw [tri_of (List.getElem?_eq_getElem hq)]
  exact List.getElem_mem hq
 have h1:=h _ ht
 unfold cv cornerT
 split
 · exact ⟨h1.a0,h1.a1⟩
 split
 · exact ⟨h1.b0,h1.b1⟩
 exact ⟨h1.c0,h1.c1⟩
theorem wf_small {x:Int} (h0:-1 ≤ x) (h1:x < 100000):(Lit.int .i64 x).wf=true:=WalkArith.wf_i64 (by omega)
def MapW (w:World) (b n:Nat) (T:List Tri) (k:Nat):Prop:=MapV Tryz.prog 70 w b n (facesV T k)
theorem MapW.below {w w':World} {b n:Nat} {T:List Tri} {k:Nat} (h:MapW w b n T k) (hb:Below w.heap.size w w'):MapW w' b n T k:=MapV.below h hb (MapV.lt h)
theorem MapW.drew {w:World} {b n:Nat} {T:List Tri} {k:Nat} (h:MapW w b n T k):MapW w.drew b n T k:=MapV.drew h
theorem MapW.store {w:World} {b n:Nat} {T:List Tri} {k:Nat} (h:MapW w b n T (k + 1)) (hk:k < 3 * T.length) (hn:n < maxLen) (hw:wfE (ce T k)) :
  ∃ es cl,(Instr.mapUpdate 66 (.map (some b)) (.agg #[.int .i64 (ce T k).1,.int .i64 (ce T k).2]) (.int .i64 (k:Int))).run Tryz.prog w=.ok () (ChangeMaps.setBlock w b (.map es cl)) ∧ ∃ n',n' ≤ n + 1 ∧ MapW (ChangeMaps.setBlock w b (.map es cl)) b n' T k:=by
 obtain ⟨l,hl⟩:=keyE hw
 obtain ⟨es,cl,h1,h2⟩:=MapV.store h keyedE Tryz.underlying66 hn hl (.int .i64 (k:Int))
 rw [facesV_step hk] at h2
 exact ⟨es,cl,h1,_,by split <;> omega,h2⟩
theorem MapW.set {w:World} {b n:Nat} {T:List Tri} {k:Nat} (h:MapW w b n T k) {p:Addr} {u0:Value} (hp:w.cell? p=some u0) (u:Value):MapW (w.setCell p u) b n T k:=MapV.setCell h hp u
theorem LRow.setBlock {w:World} {B:Nat} {A:Option Addr} {c b n:Nat} {L T:List Tri} {k:Nat} (h:LRow w B A c L) (hm:MapW w b n T k) (o:Obj):LRow (ChangeMaps.setBlock w b o) B A c L:=by
 refine own_same h fun j hj=>heap_setBlock_ne w b o fun e=>?_
 obtain ⟨cs,hb⟩:=own_blk h hj
 exact MapV.ne_blk hm hb e.symm
theorem LRow.setInt {w:World} {B:Nat} {A:Option Addr} {c g i:Nat} {L:List Tri} {cs:Array Value} (h:LRow w B A c L) (hb:Blk w g 3 cs) (u:Value):LRow (w.setCell ⟨g,i,none⟩ u) B A c L:=by
 refine own_same h fun k hk=>?_
 obtain ⟨ds,hd⟩:=own_blk h hk
 exact Below.heap_setCell _ _ _ _ (hd.ne_ hb (by decide))
theorem bw_setBlock {a w:World} {b:Nat} (h:Below a.heap.size a w) (hb:a.heap.size ≤ b) (o:Obj):Below a.heap.size a (ChangeMaps.setBlock w b o) :=
 ⟨h.os,h.tape,h.output,by simpa [ChangeMaps.setBlock] using h.size,fun i hi=>(heap_setBlock_ne w b o (by omega)).trans (h.block i hi)⟩
def firstV (T:List Tri) (k:Nat) (v:Nat):Int:=((leastF (fun c=>decide (cv T c=(v:Int))) k (3 * T.length - k)).map fun c:Nat=>(c:Int)).getD 0
theorem firstV_end (T:List Tri) (v:Nat):firstV T (3 * T.length) v=0:=by
 unfold firstV
 rw [Nat.sub_self]
 rfl
theorem firstV_step {T:List Tri} {k:Nat} (h:k < 3 * T.length) (v:Nat):firstV T k v=if cv T k=(v:Int) then (k:Int) else firstV T (k + 1) v:=by
 unfold firstV
 rw [leastF_step h]
 by_cases e:cv T k=(v:Int)
 · simp [e]
 simp [e]
theorem firstV_zero {T:List Tri} {v:Nat} (h:usedTo T T.length v=true):firstV T 0 v=optI (cornerF T (v:Int)):=by
 unfold firstV cornerF
 rw [Nat.sub_zero]
 cases e:leastF (fun c=>decide (cv T c=(v:Int))) 0 (3 * T.length) with
 | some c=>rfl
 | none =>
  exfalso
  have hn:=leastF_none e
  unfold usedTo at h
  rw [List.take_length,List.any_eq_true] at h
  obtain ⟨t,ht,hv⟩:=h
  obtain ⟨i,hi,rfl⟩:=List.mem_iff_getElem.1 ht
  have hti:tri T i=T[i]:=tri_of (List.getElem?_eq_getElem hi)
  unfold hasV at hv
  simp only [Bool.or_eq_true,beq_iff_eq] at hv
  have key:∀ r,r < 3 → cornerT T[i] r ≠ (v:Int):=fun r hr he=>by
   have h2:=hn (3 * i + r) (by omega) (by omega)
   unfold cv at h2
   rw [show (3 * i + r) / 3=i by omega,show (3 * i + r) % 3=r by omega,hti] at h2
   simp [he] at h2
  rcases hv with (hv | hv) | hv
  · exact key 0 (by omega) hv
  · exact key 1 (by omega) hv
  exact key 2 (by omega) hv
theorem tab_facts {w:World} {g:Nat} {x0 x1 x2 x3:Value} (h:Blk w g 68 #[x0,x1,x2,x3]):w.cell? ⟨g,0,none⟩=some x0 ∧ w.cell? ⟨g,1,none⟩=some x1 ∧ w.cell? ⟨g,2,none⟩=some x2 ∧ w.cell? ⟨g,3,none⟩=some x3:=⟨h.cell 0,h.cell 1,h.cell 2,h.cell 3⟩
theorem ints_cell {w:World} {g:Nat} {L:List Int} (h:Blk w g 3 (ints L)) {k:Nat} (hk:k < L.length):w.cell? ⟨g,k,none⟩=some (.int .i64 (L.getD k 0)):=by
 rw [h.cell]
 exact ints_at (by rw [List.getD_eq_getElem?_getD,List.getElem?_eq_getElem hk]; rfl)
theorem MapW.start {w:World} {b:Nat} {T:List Tri} (h:MapV Tryz.prog 70 w b 0 (fun _=>none)):MapW w b 0 T (3 * T.length):=MapV.congr h (fun x=>by rw [facesV_end])
theorem MapW.out {w:World} {b n:Nat} {T:List Tri} (h:MapW w b n T 0):MapV Tryz.prog 70 w b n (facesV T 0):=h
theorem MapW.ne_blk {w:World} {b n:Nat} {T:List Tri} {k g:Nat} {t:TypeId} {cs:Array Value} (h:MapW w b n T k) (hg:Blk w g t cs):g ≠ b:=(MapV.ne_blk h hg).symm
theorem LRow.setWit {w:World} {B:Nat} {A:Option Addr} {c g i:Nat} {L:List Tri} {cs:Array Value} (h:LRow w B A c L) (hb:Blk w g 39 cs) (u:Value):LRow (w.setCell ⟨g,i,none⟩ u) B A c L:=by
 refine own_same h fun k hk=>?_
 obtain ⟨ds,hd⟩:=own_blk h hk
 exact Below.heap_setCell _ _ _ _ (hd.ne_ hb (by decide))
theorem tab_wit {w:World} {B gt gm q gi gr m:Nat} {A:Option Addr} {c:Nat} {T:List Tri} {L:List Int} {x y z:Value} (hg:Blk w gt 68 #[.int .i64 (m:Int),.slice A T.length c,.map (some gm),.slice (some ⟨gi,0,none⟩) m m]) (hm:MapW w gm q T 0) (hi:Blk w gi 3 (ints L)) (hr:LRow w B A c T)
  (hw:Blk w gr 39 #[x,y,z]) (h1:B ≤ gt) (h2:B ≤ gm) (h3:B ≤ gi) (hl:L.length=m) (hv:∀ v,v < m → L[v]?=some (optI (cornerF T (v:Int)))) (u v t:Value) :
  TabAt (((w.setCell ⟨gr,0,none⟩ u).setCell ⟨gr,1,none⟩ v).setCell ⟨gr,2,none⟩ t) B gt m T:=by
 have n1:gt ≠ gr:=hg.ne_ hw (by decide)
 have n2:gi ≠ gr:=hi.ne_ hw (by decide)
 have w1:=hw.set_ 0 u
 have w2:=w1.set_ 1 v
 refine ⟨A,c,gm,q,gi,m,L,((hg.far n1 _).far n1 _).far n1 _,h1,h2,h3,((hr.setWit hw _).setWit w1 _).setWit w2 _,?_,((hi.far n2 _).far n2 _).far n2 _,rfl,hl,hv⟩
 exact (((hm.set (p:=⟨gr,0,none⟩) (hw.cell 0) u).set (p:=⟨gr,1,none⟩) (u0:=y) (by rw [w1.cell]; simp) v).set (p:=⟨gr,2,none⟩) (u0:=z) (by rw [w2.cell]; simp) t).out
attribute [local irreducible] MapW
attribute [local irreducible] Blk LRow World.alloc World.setCell World.cell? World.frozen? MapV
theorem new_any (N:Int) (A:Option Addr) (n c:Nat) (T:List Tri) (w:World) (hn:n ≤ 1000) (ht:TrisAt w w.heap.size A n T) :
  Calls Tryz.prog 11 #[.agg #[.int .i64 N,.slice A n c]] w (NewPost w N T):=by
 obtain rfl:n=T.length:=ht.len.symm
 have HT:=jJ ht
 clear ht
 obtain ⟨i1,hii,hy0,hy1,hy2⟩:=info_parts int_infoC
 have hmm:=@run_makeMap Tryz.prog
 go_enter Tryz.func11,Tryz.ntmps11
 go_upto_region 1 with (fail)
 obtain ⟨V,hV⟩:=jX ((w.alloc (.cells #[.int .i64 N,.slice A T.length c] 24)).alloc (.cells #[.int .i64 0,.int .i64 0,.int .i64 0] 39))
 have GA0:Hid (Blk V w.heap.size 24 #[.int .i64 N,.slice A T.length c]):=by subst hV; exact jJ ((Blk.new _ _ _).alloc _)
 have GR0:Hid (Blk V (w.heap.size + 1) 39 #[.int .i64 0,.int .i64 0,.int .i64 0]):=by subst hV; exact jJ (blk_new1 _ _ _ _)
 have HB0:Hid (Below w.heap.size w V):=by subst hV; exact jJ (bw_alloc (bw_alloc (Below.refl _ _) _) _)
 rw [← hV]
 clear hV
 obtain ⟨ga,hga⟩:=jX w.heap.size
 obtain ⟨gr,hgr⟩:=jX (w.heap.size + 1)
 have HGR:Hid (w.heap.size ≤ gr ∧ ga ≠ gr):=jJ ⟨by omega,by omega⟩
 rw [← hgr] at GR0 ⊢
 rw [← hga] at GA0
 simp only [← hga]
 clear hga hgr
 obtain ⟨s0,s1,_,_,_⟩:=soup_facts GA0.out
 go_wp2_with fail
 refine (check_any N A T.length c T V (by omega) ((HT.out.below HB0.out).more HB0.out.size)).mono ?_
 rintro e w3 ⟨rfl,hb⟩
 have GA3:=jJ (blk_call GA0.out hb)
 have GR3:=jJ (blk_call GR0.out hb)
 have HB3:=jJ (bw_call HB0.out hb)
 clear hb GA0 GR0 HB0 s0 s1
 obtain ⟨x,HX⟩:∃ x,Hid (checkR N T=x):=⟨_,jJ rfl⟩
 have HKS:=jJ (@checkR_zero N T)
 rw [HX.out] at HKS ⊢
 obtain ⟨k,a,b⟩:=x
 unfold wv
 simp only
 obtain ⟨w5,hw5⟩:=jX (w3.alloc (.cells #[.int .i64 k,.int .i64 a,.int .i64 b] 39))
 have GWw5:Hid (Blk w5 w3.heap.size 39 #[.int .i64 k,.int .i64 a,.int .i64 b]):=by subst hw5; exact jJ (Blk.new _ _ _)
 have GAw5:Hid (Blk w5 ga 24 #[.int .i64 N,.slice A T.length c]):=by subst hw5; exact jJ (GA3.out.alloc _)
 have GRw5:Hid (Blk w5 gr 39 #[.int .i64 0,.int .i64 0,.int .i64 0]):=by subst hw5; exact jJ (GR3.out.alloc _)
 have HBw5:Hid (Below w.heap.size w w5):=by subst hw5; exact jJ (bw_alloc HB3.out _)
 go_upto_region 2 with (fail)
 rw [← hw5]
 generalize w3.heap.size=gw at *
 clear hw5 GA3 GR3 HB3
 obtain ⟨x0,x1,x2,_,_,_⟩:=wit_facts GWw5.out
 by_cases hk:k=0
 · subst hk
   obtain ⟨hnil,h00⟩:=HKS.out rfl
   cases h00
   obtain ⟨m,hs⟩:=surf_of hnil
   obtain rfl:N=(m:Int):=hs.n
   have hm1:=hs.m1
   have hT8:T.length ≤ 8192:=hs.t1
   have HOK:=jJ hs.ok
   have HUS:=jJ hs.used
   clear hs hnil HKS
   have hmk:=fun W=>run_make_rowN (P:=Tryz.prog) 30 3 i1 (.int .i64 0) Tryz.underlying30 hii hy0 .i64 .i64 m m (Nat.le_refl _) (by rw [hy2]; omega) (by omega) W
   rw [hy1,Nat.mul_one,madeInts] at hmk
   go_upto_region 4 with (fail)
   clear GWw5 x0 x1 x2
   go_cut [5] (fun tv wx=>∃ (gt gm gi:Nat) (A1:Option Addr) (c1:Nat),tv=.pointer (some ⟨gt,0,none⟩) ∧ Hid (Blk wx gt 68 #[.int .i64 (m:Int),.slice A1 T.length c1,.map (some gm),.slice (some ⟨gi,0,none⟩) m m]) ∧ Hid (MapV Tryz.prog 70 wx gm 0 (fun _=>none)) ∧ Hid (Blk wx gi 3 (ints (List.replicate m 0))) ∧ Hid (LRow wx w.heap.size A1 c1 T) ∧ Hid (Blk wx ga 24 #[.int .i64 (m:Int),.slice A T.length c]) ∧ Hid (Blk wx gr 39 #[.int .i64 0,.int .i64 0,.int .i64 0]) ∧ Hid (Below w.heap.size w wx) ∧ Hid (w.heap.size ≤ gt ∧ w.heap.size ≤ gm ∧ w.heap.size ≤ gi))
   case first =>
    refine wp_region_till (S:=fun w'=>w'.cell? ⟨ga,0,none⟩=some (.int .i64 (m:Int)) ∧ w'.cell? ⟨ga,1,none⟩=some (.slice A T.length c)) 12 (by kernel_rfl) ⟨(soup_facts GAw5.out.drew).1,(soup_facts GAw5.out.drew).2.1⟩ (fun hHeld=>?_)
    refine tKk 0 ?_; (try simp only [zQ])
    refine tKk 1 ?_; (try simp only [zQ])
    refine tKk 2 ?_; (try simp only [zQ])
    refine tKk 3 ?_; (try simp only [zQ])
    refine tKk 7 ?_; (try simp only [zQ])
    refine tKk 8 ?_; (try simp only [zQ])
    refine Till.ready (rs:=[4,6,9]) (by kernel_rfl) (by simp) ?_
    refine TillEach.cons rfl (fun K hK=>?_) ?_
    · go_simp
      go_wp2_with (go_at_call 25; refine (clone_any A c T w5.drew hT8 ((HT.out.below (bw_drew HBw5.out)).more (bw_size (bw_drew HBw5.out)))).mono ?_; rintro e v1 ⟨A1,c1,rfl,hr,hb⟩)
      have GAv1:Hid (Blk v1 ga 24 #[.int .i64 (m:Int),.slice A T.length c]):=jJ (blk_call GAw5.out.drew hb)
      have GRv1:Hid (Blk v1 gr 39 #[.int .i64 0,.int .i64 0,.int .i64 0]):=jJ (blk_call GRw5.out.drew hb)
      have HBv1:Hid (Below w.heap.size w v1):=jJ (bw_call (bw_drew HBw5.out) hb)
      have RAv1:Hid (LRow v1 w.heap.size A1 c1 T):=jJ (LRow.base hr (bw_size (bw_drew HBw5.out)))
      clear hr hb
      refine hK.out _ _ ?_ (fun hHeld=>?_)
      · exact ⟨(soup_facts GAv1.out).1,(soup_facts GAv1.out).2.1⟩
      clear hK K
      (try simp only [zQ])
      clear GAw5 GRw5 HBw5
      refine tKk 5 ?_; (try simp only [zQ])
      refine Till.ready (rs:=[6,9]) (by kernel_rfl) (by simp) ?_
      refine TillEach.cons rfl (fun K hK=>?_) ?_
      · go_simp
        refine hK.out _ _ ?_ (fun hHeld=>?_)
        · exact ⟨(soup_facts (GAv1.out.alloc _)).1,(soup_facts (GAv1.out.alloc _)).2.1⟩
        clear hK K
        (try simp only [zQ])
        obtain ⟨v2,hv2⟩:=jX (v1.alloc (.map #[] 0))
        have GAv2:Hid (Blk v2 ga 24 #[.int .i64 (m:Int),.slice A T.length c]):=by subst hv2; exact jJ (GAv1.out.alloc _)
        have GRv2:Hid (Blk v2 gr 39 #[.int .i64 0,.int .i64 0,.int .i64 0]):=by subst hv2; exact jJ (GRv1.out.alloc _)
        have HBv2:Hid (Below w.heap.size w v2):=by subst hv2; exact jJ (bw_alloc HBv1.out _)
        have RAv2:Hid (LRow v2 w.heap.size A1 c1 T):=by subst hv2; exact jJ (RAv1.out.alloc _)
        have MBv2:Hid (MapV Tryz.prog 70 v2 v1.heap.size 0 (fun _=>none)):=by subst hv2; exact jJ ((MapV.made _ _ _))
        have hsgm:w.heap.size ≤ v1.heap.size:=HBv1.out.size
        have hHeld:v2.cell? ⟨ga,0,none⟩=some (.int .i64 (m:Int)) ∧ v2.cell? ⟨ga,1,none⟩=some (.slice A T.length c):=⟨(soup_facts GAv2.out).1,(soup_facts GAv2.out).2.1⟩
        rw [← hv2]
        generalize v1.heap.size=gm at *
        clear hv2 GAv1 GRv1 HBv1 RAv1
        refine Till.ready (rs:=[9]) (by kernel_rfl) (by simp) ?_
        refine TillEach.cons rfl (fun K hK=>?_) ?_
        · go_simp
          refine hK.out _ _ ?_ (fun hHeld=>?_)
          · exact ⟨(soup_facts (GAv2.out.alloc _)).1,(soup_facts (GAv2.out.alloc _)).2.1⟩
          clear hK K
          (try simp only [zQ])
          obtain ⟨v3,hv3⟩:=jX (v2.alloc (.cells (ints (List.replicate m 0)) 3))
          have GAv3:Hid (Blk v3 ga 24 #[.int .i64 (m:Int),.slice A T.length c]):=by subst hv3; exact jJ (GAv2.out.alloc _)
          have GRv3:Hid (Blk v3 gr 39 #[.int .i64 0,.int .i64 0,.int .i64 0]):=by subst hv3; exact jJ (GRv2.out.alloc _)
          have HBv3:Hid (Below w.heap.size w v3):=by subst hv3; exact jJ (bw_alloc HBv2.out _)
          have RAv3:Hid (LRow v3 w.heap.size A1 c1 T):=by subst hv3; exact jJ (RAv2.out.alloc _)
          have MBv3:Hid (MapV Tryz.prog 70 v3 gm 0 (fun _=>none)):=by subst hv3; exact jJ (MBv2.out.alloc _)
          have IBv3:Hid (Blk v3 v2.heap.size 3 (ints (List.replicate m 0))):=by subst hv3; exact jJ ((Blk.new _ _ _))
          have hsgi:w.heap.size ≤ v2.heap.size:=HBv2.out.size
          have hHeld:v3.cell? ⟨ga,0,none⟩=some (.int .i64 (m:Int)) ∧ v3.cell? ⟨ga,1,none⟩=some (.slice A T.length c):=⟨(soup_facts GAv3.out).1,(soup_facts GAv3.out).2.1⟩
          rw [← hv3]
          generalize v2.heap.size=gi at *
          clear hv3 GAv2 GRv2 HBv2 RAv2 MBv2
          refine tKk 10 ?_; (try simp only [zQ])
          refine Till.ready (rs:=[11]) (by kernel_rfl) (by simp) ?_
          refine TillEach.cons rfl (fun K hK=>?_) ?_
          · go_simp
            refine hK.out _ _ ?_ (fun hHeld=>?_)
            · exact ⟨(soup_facts (GAv3.out.alloc _)).1,(soup_facts (GAv3.out.alloc _)).2.1⟩
            clear hK K
            (try simp only [zQ])
            refine Till.ready (rs:=[12]) (by kernel_rfl) (by simp) ?_
            refine TillEach.last rfl (fun K hK=>?_)
            go_simp
            refine hK.out _ _ ?_
            clear hK K
            (try simp only [zQ])
            refine Till.done (by kernel_rfl) ?_ _
            go_wp2_with fail
            go_meet
            exact ⟨v3.heap.size,gm,gi,A1,c1,rfl,jJ (Blk.new _ _ _),jJ (MBv3.out.alloc _),jJ (IBv3.out.alloc _),jJ (RAv3.out.alloc _),jJ (GAv3.out.alloc _),jJ (GRv3.out.alloc _),jJ (bw_alloc HBv3.out _),jJ ⟨HBv3.out.size,hsgm,hsgi⟩⟩
          exact TillEach.nil
        exact TillEach.nil
      refine TillEach.cons rfl (fun K hK=>?_) ?_
      · go_simp
        refine hK.out _ _ ?_ (fun hHeld=>?_)
        · exact ⟨(soup_facts (GAv1.out.alloc _)).1,(soup_facts (GAv1.out.alloc _)).2.1⟩
        clear hK K
        (try simp only [zQ])
        obtain ⟨v4,hv4⟩:=jX (v1.alloc (.cells (ints (List.replicate m 0)) 3))
        have GAv4:Hid (Blk v4 ga 24 #[.int .i64 (m:Int),.slice A T.length c]):=by subst hv4; exact jJ (GAv1.out.alloc _)
        have GRv4:Hid (Blk v4 gr 39 #[.int .i64 0,.int .i64 0,.int .i64 0]):=by subst hv4; exact jJ (GRv1.out.alloc _)
        have HBv4:Hid (Below w.heap.size w v4):=by subst hv4; exact jJ (bw_alloc HBv1.out _)
        have RAv4:Hid (LRow v4 w.heap.size A1 c1 T):=by subst hv4; exact jJ (RAv1.out.alloc _)
        have IBv4:Hid (Blk v4 v1.heap.size 3 (ints (List.replicate m 0))):=by subst hv4; exact jJ ((Blk.new _ _ _))
        have hsgi:w.heap.size ≤ v1.heap.size:=HBv1.out.size
        have hHeld:v4.cell? ⟨ga,0,none⟩=some (.int .i64 (m:Int)) ∧ v4.cell? ⟨ga,1,none⟩=some (.slice A T.length c):=⟨(soup_facts GAv4.out).1,(soup_facts GAv4.out).2.1⟩
        rw [← hv4]
        generalize v1.heap.size=gi at *
        clear hv4 GAv1 GRv1 HBv1 RAv1
        refine Till.ready (rs:=[6]) (by kernel_rfl) (by simp) ?_
        refine TillEach.cons rfl (fun K hK=>?_) ?_
        · go_simp
          refine hK.out _ _ ?_ (fun hHeld=>?_)
          · exact ⟨(soup_facts (GAv4.out.alloc _)).1,(soup_facts (GAv4.out.alloc _)).2.1⟩
          clear hK K
          (try simp only [zQ])
          obtain ⟨v5,hv5⟩:=jX (v4.alloc (.map #[] 0))
          have GAv5:Hid (Blk v5 ga 24 #[.int .i64 (m:Int),.slice A T.length c]):=by subst hv5; exact jJ (GAv4.out.alloc _)
          have GRv5:Hid (Blk v5 gr 39 #[.int .i64 0,.int .i64 0,.int .i64 0]):=by subst hv5; exact jJ (GRv4.out.alloc _)
          have HBv5:Hid (Below w.heap.size w v5):=by subst hv5; exact jJ (bw_alloc HBv4.out _)
          have RAv5:Hid (LRow v5 w.heap.size A1 c1 T):=by subst hv5; exact jJ (RAv4.out.alloc _)
          have IBv5:Hid (Blk v5 gi 3 (ints (List.replicate m 0))):=by subst hv5; exact jJ (IBv4.out.alloc _)
          have MBv5:Hid (MapV Tryz.prog 70 v5 v4.heap.size 0 (fun _=>none)):=by subst hv5; exact jJ ((MapV.made _ _ _))
          have hsgm:w.heap.size ≤ v4.heap.size:=HBv4.out.size
          have hHeld:v5.cell? ⟨ga,0,none⟩=some (.int .i64 (m:Int)) ∧ v5.cell? ⟨ga,1,none⟩=some (.slice A T.length c):=⟨(soup_facts GAv5.out).1,(soup_facts GAv5.out).2.1⟩
          rw [← hv5]
          generalize v4.heap.size=gm at *
          clear hv5 GAv4 GRv4 HBv4 RAv4 IBv4
          refine tKk 10 ?_; (try simp only [zQ])
          refine Till.ready (rs:=[11]) (by kernel_rfl) (by simp) ?_
          refine TillEach.cons rfl (fun K hK=>?_) ?_
          · go_simp
            refine hK.out _ _ ?_ (fun hHeld=>?_)
            · exact ⟨(soup_facts (GAv5.out.alloc _)).1,(soup_facts (GAv5.out.alloc _)).2.1⟩
            clear hK K
            (try simp only [zQ])
            refine Till.ready (rs:=[12]) (by kernel_rfl) (by simp) ?_
            refine TillEach.last rfl (fun K hK=>?_)
            go_simp
            refine hK.out _ _ ?_
            clear hK K
            (try simp only [zQ])
            refine Till.done (by kernel_rfl) ?_ _
            go_wp2_with fail
            go_meet
            exact ⟨v5.heap.size,gm,gi,A1,c1,rfl,jJ (Blk.new _ _ _),jJ (MBv5.out.alloc _),jJ (IBv5.out.alloc _),jJ (RAv5.out.alloc _),jJ (GAv5.out.alloc _),jJ (GRv5.out.alloc _),jJ (bw_alloc HBv5.out _),jJ ⟨HBv5.out.size,hsgm,hsgi⟩⟩
          exact TillEach.nil
        exact TillEach.nil
      exact TillEach.nil
    refine TillEach.cons rfl (fun K hK=>?_) ?_
    · go_simp
      refine hK.out _ _ ?_ (fun hHeld=>?_)
      · exact ⟨(soup_facts ((GAw5.out.alloc _).drew)).1,(soup_facts ((GAw5.out.alloc _).drew)).2.1⟩
      clear hK K
      (try simp only [zQ])
      obtain ⟨v6,hv6⟩:=jX ((w5.alloc (.map #[] 0)).drew)
      have GAv6:Hid (Blk v6 ga 24 #[.int .i64 (m:Int),.slice A T.length c]):=by subst hv6; exact jJ ((GAw5.out.alloc _).drew)
      have GRv6:Hid (Blk v6 gr 39 #[.int .i64 0,.int .i64 0,.int .i64 0]):=by subst hv6; exact jJ ((GRw5.out.alloc _).drew)
      have HBv6:Hid (Below w.heap.size w v6):=by subst hv6; exact jJ (bw_drew (bw_alloc HBw5.out _))
      have MBv6:Hid (MapV Tryz.prog 70 v6 w5.heap.size 0 (fun _=>none)):=by subst hv6; exact jJ ((MapV.made _ _ _).drew)
      have hsgm:w.heap.size ≤ w5.heap.size:=HBw5.out.size
      have hHeld:v6.cell? ⟨ga,0,none⟩=some (.int .i64 (m:Int)) ∧ v6.cell? ⟨ga,1,none⟩=some (.slice A T.length c):=⟨(soup_facts GAv6.out).1,(soup_facts GAv6.out).2.1⟩
      rw [← hv6]
      generalize w5.heap.size=gm at *
      clear hv6 GAw5 GRw5 HBw5
      refine Till.ready (rs:=[4,9]) (by kernel_rfl) (by simp) ?_
      refine TillEach.cons rfl (fun K hK=>?_) ?_
      · go_simp
        go_wp2_with (go_at_call 25; refine (clone_any A c T v6 hT8 ((HT.out.below HBv6.out).more (bw_size HBv6.out))).mono ?_; rintro e v7 ⟨A1,c1,rfl,hr,hb⟩)
        have GAv7:Hid (Blk v7 ga 24 #[.int .i64 (m:Int),.slice A T.length c]):=jJ (blk_call GAv6.out hb)
        have GRv7:Hid (Blk v7 gr 39 #[.int .i64 0,.int .i64 0,.int .i64 0]):=jJ (blk_call GRv6.out hb)
        have HBv7:Hid (Below w.heap.size w v7):=jJ (bw_call HBv6.out hb)
        have MBv7:Hid (MapV Tryz.prog 70 v7 gm 0 (fun _=>none)):=jJ (MapV.below MBv6.out hb (MapV.lt MBv6.out))
        have RAv7:Hid (LRow v7 w.heap.size A1 c1 T):=jJ (LRow.base hr (bw_size HBv6.out))
        clear hr hb
        refine hK.out _ _ ?_ (fun hHeld=>?_)
        · exact ⟨(soup_facts GAv7.out).1,(soup_facts GAv7.out).2.1⟩
        clear hK K
        (try simp only [zQ])
        clear GAv6 GRv6 HBv6 MBv6
        refine tKk 5 ?_; (try simp only [zQ])
        refine Till.ready (rs:=[9]) (by kernel_rfl) (by simp) ?_
        refine TillEach.cons rfl (fun K hK=>?_) ?_
        · go_simp
          refine hK.out _ _ ?_ (fun hHeld=>?_)
          · exact ⟨(soup_facts (GAv7.out.alloc _)).1,(soup_facts (GAv7.out.alloc _)).2.1⟩
          clear hK K
          (try simp only [zQ])
          obtain ⟨v8,hv8⟩:=jX (v7.alloc (.cells (ints (List.replicate m 0)) 3))
          have GAv8:Hid (Blk v8 ga 24 #[.int .i64 (m:Int),.slice A T.length c]):=by subst hv8; exact jJ (GAv7.out.alloc _)
          have GRv8:Hid (Blk v8 gr 39 #[.int .i64 0,.int .i64 0,.int .i64 0]):=by subst hv8; exact jJ (GRv7.out.alloc _)
          have HBv8:Hid (Below w.heap.size w v8):=by subst hv8; exact jJ (bw_alloc HBv7.out _)
          have MBv8:Hid (MapV Tryz.prog 70 v8 gm 0 (fun _=>none)):=by subst hv8; exact jJ (MBv7.out.alloc _)
          have RAv8:Hid (LRow v8 w.heap.size A1 c1 T):=by subst hv8; exact jJ (RAv7.out.alloc _)
          have IBv8:Hid (Blk v8 v7.heap.size 3 (ints (List.replicate m 0))):=by subst hv8; exact jJ ((Blk.new _ _ _))
          have hsgi:w.heap.size ≤ v7.heap.size:=HBv7.out.size
          have hHeld:v8.cell? ⟨ga,0,none⟩=some (.int .i64 (m:Int)) ∧ v8.cell? ⟨ga,1,none⟩=some (.slice A T.length c):=⟨(soup_facts GAv8.out).1,(soup_facts GAv8.out).2.1⟩
          rw [← hv8]
          generalize v7.heap.size=gi at *
          clear hv8 GAv7 GRv7 HBv7 MBv7 RAv7
          refine tKk 10 ?_; (try simp only [zQ])
          refine Till.ready (rs:=[11]) (by kernel_rfl) (by simp) ?_
          refine TillEach.cons rfl (fun K hK=>?_) ?_
          · go_simp
            refine hK.out _ _ ?_ (fun hHeld=>?_)
            · exact ⟨(soup_facts (GAv8.out.alloc _)).1,(soup_facts (GAv8.out.alloc _)).2.1⟩
            clear hK K
            (try simp only [zQ])
            refine Till.ready (rs:=[12]) (by kernel_rfl) (by simp) ?_
            refine TillEach.last rfl (fun K hK=>?_)
            go_simp
            refine hK.out _ _ ?_
            clear hK K
            (try simp only [zQ])
            refine Till.done (by kernel_rfl) ?_ _
            go_wp2_with fail
            go_meet
            exact ⟨v8.heap.size,gm,gi,A1,c1,rfl,jJ (Blk.new _ _ _),jJ (MBv8.out.alloc _),jJ (IBv8.out.alloc _),jJ (RAv8.out.alloc _),jJ (GAv8.out.alloc _),jJ (GRv8.out.alloc _),jJ (bw_alloc HBv8.out _),jJ ⟨HBv8.out.size,hsgm,hsgi⟩⟩
          exact TillEach.nil
        exact TillEach.nil
      refine TillEach.cons rfl (fun K hK=>?_) ?_
      · go_simp
        refine hK.out _ _ ?_ (fun hHeld=>?_)
        · exact ⟨(soup_facts (GAv6.out.alloc _)).1,(soup_facts (GAv6.out.alloc _)).2.1⟩
        clear hK K
        (try simp only [zQ])
        obtain ⟨v9,hv9⟩:=jX (v6.alloc (.cells (ints (List.replicate m 0)) 3))
        have GAv9:Hid (Blk v9 ga 24 #[.int .i64 (m:Int),.slice A T.length c]):=by subst hv9; exact jJ (GAv6.out.alloc _)
        have GRv9:Hid (Blk v9 gr 39 #[.int .i64 0,.int .i64 0,.int .i64 0]):=by subst hv9; exact jJ (GRv6.out.alloc _)
        have HBv9:Hid (Below w.heap.size w v9):=by subst hv9; exact jJ (bw_alloc HBv6.out _)
        have MBv9:Hid (MapV Tryz.prog 70 v9 gm 0 (fun _=>none)):=by subst hv9; exact jJ (MBv6.out.alloc _)
        have IBv9:Hid (Blk v9 v6.heap.size 3 (ints (List.replicate m 0))):=by subst hv9; exact jJ ((Blk.new _ _ _))
        have hsgi:w.heap.size ≤ v6.heap.size:=HBv6.out.size
        have hHeld:v9.cell? ⟨ga,0,none⟩=some (.int .i64 (m:Int)) ∧ v9.cell? ⟨ga,1,none⟩=some (.slice A T.length c):=⟨(soup_facts GAv9.out).1,(soup_facts GAv9.out).2.1⟩
        rw [← hv9]
        generalize v6.heap.size=gi at *
        clear hv9 GAv6 GRv6 HBv6 MBv6
        refine Till.ready (rs:=[4]) (by kernel_rfl) (by simp) ?_
        refine TillEach.cons rfl (fun K hK=>?_) ?_
        · go_simp
          go_wp2_with (go_at_call 25; refine (clone_any A c T v9 hT8 ((HT.out.below HBv9.out).more (bw_size HBv9.out))).mono ?_; rintro e v10 ⟨A1,c1,rfl,hr,hb⟩)
          have GAv10:Hid (Blk v10 ga 24 #[.int .i64 (m:Int),.slice A T.length c]):=jJ (blk_call GAv9.out hb)
          have GRv10:Hid (Blk v10 gr 39 #[.int .i64 0,.int .i64 0,.int .i64 0]):=jJ (blk_call GRv9.out hb)
          have HBv10:Hid (Below w.heap.size w v10):=jJ (bw_call HBv9.out hb)
          have MBv10:Hid (MapV Tryz.prog 70 v10 gm 0 (fun _=>none)):=jJ (MapV.below MBv9.out hb (MapV.lt MBv9.out))
          have IBv10:Hid (Blk v10 gi 3 (ints (List.replicate m 0))):=jJ (blk_call IBv9.out hb)
          have RAv10:Hid (LRow v10 w.heap.size A1 c1 T):=jJ (LRow.base hr (bw_size HBv9.out))
          clear hr hb
          refine hK.out _ _ ?_ (fun hHeld=>?_)
          · exact ⟨(soup_facts GAv10.out).1,(soup_facts GAv10.out).2.1⟩
          clear hK K
          (try simp only [zQ])
          clear GAv9 GRv9 HBv9 MBv9 IBv9
          refine tKk 5 ?_; (try simp only [zQ])
          refine tKk 10 ?_; (try simp only [zQ])
          refine Till.ready (rs:=[11]) (by kernel_rfl) (by simp) ?_
          refine TillEach.cons rfl (fun K hK=>?_) ?_
          · go_simp
            refine hK.out _ _ ?_ (fun hHeld=>?_)
            · exact ⟨(soup_facts (GAv10.out.alloc _)).1,(soup_facts (GAv10.out.alloc _)).2.1⟩
            clear hK K
            (try simp only [zQ])
            refine Till.ready (rs:=[12]) (by kernel_rfl) (by simp) ?_
            refine TillEach.last rfl (fun K hK=>?_)
            go_simp
            refine hK.out _ _ ?_
            clear hK K
            (try simp only [zQ])
            refine Till.done (by kernel_rfl) ?_ _
            go_wp2_with fail
            go_meet
            exact ⟨v10.heap.size,gm,gi,A1,c1,rfl,jJ (Blk.new _ _ _),jJ (MBv10.out.alloc _),jJ (IBv10.out.alloc _),jJ (RAv10.out.alloc _),jJ (GAv10.out.alloc _),jJ (GRv10.out.alloc _),jJ (bw_alloc HBv10.out _),jJ ⟨HBv10.out.size,hsgm,hsgi⟩⟩
          exact TillEach.nil
        exact TillEach.nil
      exact TillEach.nil
    refine TillEach.cons rfl (fun K hK=>?_) ?_
    · go_simp
      refine hK.out _ _ ?_ (fun hHeld=>?_)
      · exact ⟨(soup_facts ((GAw5.out.alloc _).drew)).1,(soup_facts ((GAw5.out.alloc _).drew)).2.1⟩
      clear hK K
      (try simp only [zQ])
      obtain ⟨v11,hv11⟩:=jX ((w5.alloc (.cells (ints (List.replicate m 0)) 3)).drew)
      have GAv11:Hid (Blk v11 ga 24 #[.int .i64 (m:Int),.slice A T.length c]):=by subst hv11; exact jJ ((GAw5.out.alloc _).drew)
      have GRv11:Hid (Blk v11 gr 39 #[.int .i64 0,.int .i64 0,.int .i64 0]):=by subst hv11; exact jJ ((GRw5.out.alloc _).drew)
      have HBv11:Hid (Below w.heap.size w v11):=by subst hv11; exact jJ (bw_drew (bw_alloc HBw5.out _))
      have IBv11:Hid (Blk v11 w5.heap.size 3 (ints (List.replicate m 0))):=by subst hv11; exact jJ ((Blk.new _ _ _).drew)
      have hsgi:w.heap.size ≤ w5.heap.size:=HBw5.out.size
      have hHeld:v11.cell? ⟨ga,0,none⟩=some (.int .i64 (m:Int)) ∧ v11.cell? ⟨ga,1,none⟩=some (.slice A T.length c):=⟨(soup_facts GAv11.out).1,(soup_facts GAv11.out).2.1⟩
      rw [← hv11]
      generalize w5.heap.size=gi at *
      clear hv11 GAw5 GRw5 HBw5
      refine Till.ready (rs:=[4,6]) (by kernel_rfl) (by simp) ?_
      refine TillEach.cons rfl (fun K hK=>?_) ?_
      · go_simp
        go_wp2_with (go_at_call 25; refine (clone_any A c T v11 hT8 ((HT.out.below HBv11.out).more (bw_size HBv11.out))).mono ?_; rintro e v12 ⟨A1,c1,rfl,hr,hb⟩)
        have GAv12:Hid (Blk v12 ga 24 #[.int .i64 (m:Int),.slice A T.length c]):=jJ (blk_call GAv11.out hb)
        have GRv12:Hid (Blk v12 gr 39 #[.int .i64 0,.int .i64 0,.int .i64 0]):=jJ (blk_call GRv11.out hb)
        have HBv12:Hid (Below w.heap.size w v12):=jJ (bw_call HBv11.out hb)
        have IBv12:Hid (Blk v12 gi 3 (ints (List.replicate m 0))):=jJ (blk_call IBv11.out hb)
        have RAv12:Hid (LRow v12 w.heap.size A1 c1 T):=jJ (LRow.base hr (bw_size HBv11.out))
        clear hr hb
        refine hK.out _ _ ?_ (fun hHeld=>?_)
        · exact ⟨(soup_facts GAv12.out).1,(soup_facts GAv12.out).2.1⟩
        clear hK K
        (try simp only [zQ])
        clear GAv11 GRv11 HBv11 IBv11
        refine tKk 5 ?_; (try simp only [zQ])
        refine Till.ready (rs:=[6]) (by kernel_rfl) (by simp) ?_
        refine TillEach.cons rfl (fun K hK=>?_) ?_
        · go_simp
          refine hK.out _ _ ?_ (fun hHeld=>?_)
          · exact ⟨(soup_facts (GAv12.out.alloc _)).1,(soup_facts (GAv12.out.alloc _)).2.1⟩
          clear hK K
          (try simp only [zQ])
          obtain ⟨v13,hv13⟩:=jX (v12.alloc (.map #[] 0))
          have GAv13:Hid (Blk v13 ga 24 #[.int .i64 (m:Int),.slice A T.length c]):=by subst hv13; exact jJ (GAv12.out.alloc _)
          have GRv13:Hid (Blk v13 gr 39 #[.int .i64 0,.int .i64 0,.int .i64 0]):=by subst hv13; exact jJ (GRv12.out.alloc _)
          have HBv13:Hid (Below w.heap.size w v13):=by subst hv13; exact jJ (bw_alloc HBv12.out _)
          have IBv13:Hid (Blk v13 gi 3 (ints (List.replicate m 0))):=by subst hv13; exact jJ (IBv12.out.alloc _)
          have RAv13:Hid (LRow v13 w.heap.size A1 c1 T):=by subst hv13; exact jJ (RAv12.out.alloc _)
          have MBv13:Hid (MapV Tryz.prog 70 v13 v12.heap.size 0 (fun _=>none)):=by subst hv13; exact jJ ((MapV.made _ _ _))
          have hsgm:w.heap.size ≤ v12.heap.size:=HBv12.out.size
          have hHeld:v13.cell? ⟨ga,0,none⟩=some (.int .i64 (m:Int)) ∧ v13.cell? ⟨ga,1,none⟩=some (.slice A T.length c):=⟨(soup_facts GAv13.out).1,(soup_facts GAv13.out).2.1⟩
          rw [← hv13]
          generalize v12.heap.size=gm at *
          clear hv13 GAv12 GRv12 HBv12 IBv12 RAv12
          refine tKk 10 ?_; (try simp only [zQ])
          refine Till.ready (rs:=[11]) (by kernel_rfl) (by simp) ?_
          refine TillEach.cons rfl (fun K hK=>?_) ?_
          · go_simp
            refine hK.out _ _ ?_ (fun hHeld=>?_)
            · exact ⟨(soup_facts (GAv13.out.alloc _)).1,(soup_facts (GAv13.out.alloc _)).2.1⟩
            clear hK K
            (try simp only [zQ])
            refine Till.ready (rs:=[12]) (by kernel_rfl) (by simp) ?_
            refine TillEach.last rfl (fun K hK=>?_)
            go_simp
            refine hK.out _ _ ?_
            clear hK K
            (try simp only [zQ])
            refine Till.done (by kernel_rfl) ?_ _
            go_wp2_with fail
            go_meet
            exact ⟨v13.heap.size,gm,gi,A1,c1,rfl,jJ (Blk.new _ _ _),jJ (MBv13.out.alloc _),jJ (IBv13.out.alloc _),jJ (RAv13.out.alloc _),jJ (GAv13.out.alloc _),jJ (GRv13.out.alloc _),jJ (bw_alloc HBv13.out _),jJ ⟨HBv13.out.size,hsgm,hsgi⟩⟩
          exact TillEach.nil
        exact TillEach.nil
      refine TillEach.cons rfl (fun K hK=>?_) ?_
      · go_simp
        refine hK.out _ _ ?_ (fun hHeld=>?_)
        · exact ⟨(soup_facts (GAv11.out.alloc _)).1,(soup_facts (GAv11.out.alloc _)).2.1⟩
        clear hK K
        (try simp only [zQ])
        obtain ⟨v14,hv14⟩:=jX (v11.alloc (.map #[] 0))
        have GAv14:Hid (Blk v14 ga 24 #[.int .i64 (m:Int),.slice A T.length c]):=by subst hv14; exact jJ (GAv11.out.alloc _)
        have GRv14:Hid (Blk v14 gr 39 #[.int .i64 0,.int .i64 0,.int .i64 0]):=by subst hv14; exact jJ (GRv11.out.alloc _)
        have HBv14:Hid (Below w.heap.size w v14):=by subst hv14; exact jJ (bw_alloc HBv11.out _)
        have IBv14:Hid (Blk v14 gi 3 (ints (List.replicate m 0))):=by subst hv14; exact jJ (IBv11.out.alloc _)
        have MBv14:Hid (MapV Tryz.prog 70 v14 v11.heap.size 0 (fun _=>none)):=by subst hv14; exact jJ ((MapV.made _ _ _))
        have hsgm:w.heap.size ≤ v11.heap.size:=HBv11.out.size
        have hHeld:v14.cell? ⟨ga,0,none⟩=some (.int .i64 (m:Int)) ∧ v14.cell? ⟨ga,1,none⟩=some (.slice A T.length c):=⟨(soup_facts GAv14.out).1,(soup_facts GAv14.out).2.1⟩
        rw [← hv14]
        generalize v11.heap.size=gm at *
        clear hv14 GAv11 GRv11 HBv11 IBv11
        refine Till.ready (rs:=[4]) (by kernel_rfl) (by simp) ?_
        refine TillEach.cons rfl (fun K hK=>?_) ?_
        · go_simp
          go_wp2_with (go_at_call 25; refine (clone_any A c T v14 hT8 ((HT.out.below HBv14.out).more (bw_size HBv14.out))).mono ?_; rintro e v15 ⟨A1,c1,rfl,hr,hb⟩)
          have GAv15:Hid (Blk v15 ga 24 #[.int .i64 (m:Int),.slice A T.length c]):=jJ (blk_call GAv14.out hb)
          have GRv15:Hid (Blk v15 gr 39 #[.int .i64 0,.int .i64 0,.int .i64 0]):=jJ (blk_call GRv14.out hb)
          have HBv15:Hid (Below w.heap.size w v15):=jJ (bw_call HBv14.out hb)
          have IBv15:Hid (Blk v15 gi 3 (ints (List.replicate m 0))):=jJ (blk_call IBv14.out hb)
          have MBv15:Hid (MapV Tryz.prog 70 v15 gm 0 (fun _=>none)):=jJ (MapV.below MBv14.out hb (MapV.lt MBv14.out))
          have RAv15:Hid (LRow v15 w.heap.size A1 c1 T):=jJ (LRow.base hr (bw_size HBv14.out))
          clear hr hb
          refine hK.out _ _ ?_ (fun hHeld=>?_)
          · exact ⟨(soup_facts GAv15.out).1,(soup_facts GAv15.out).2.1⟩
          clear hK K
          (try simp only [zQ])
          clear GAv14 GRv14 HBv14 IBv14 MBv14
          refine tKk 5 ?_; (try simp only [zQ])
          refine tKk 10 ?_; (try simp only [zQ])
          refine Till.ready (rs:=[11]) (by kernel_rfl) (by simp) ?_
          refine TillEach.cons rfl (fun K hK=>?_) ?_
          · go_simp
            refine hK.out _ _ ?_ (fun hHeld=>?_)
            · exact ⟨(soup_facts (GAv15.out.alloc _)).1,(soup_facts (GAv15.out.alloc _)).2.1⟩
            clear hK K
            (try simp only [zQ])
            refine Till.ready (rs:=[12]) (by kernel_rfl) (by simp) ?_
            refine TillEach.last rfl (fun K hK=>?_)
            go_simp
            refine hK.out _ _ ?_
            clear hK K
            (try simp only [zQ])
            refine Till.done (by kernel_rfl) ?_ _
            go_wp2_with fail
            go_meet
            exact ⟨v15.heap.size,gm,gi,A1,c1,rfl,jJ (Blk.new _ _ _),jJ (MBv15.out.alloc _),jJ (IBv15.out.alloc _),jJ (RAv15.out.alloc _),jJ (GAv15.out.alloc _),jJ (GRv15.out.alloc _),jJ (bw_alloc HBv15.out _),jJ ⟨HBv15.out.size,hsgm,hsgi⟩⟩
          exact TillEach.nil
        exact TillEach.nil
      exact TillEach.nil
    exact TillEach.nil
   case rest =>
    obtain ⟨gt,gm,gi,A1,c1,rfl,GT6,MB6,IB6,RA6,GA6,GR6,HB6,HGE⟩:=hcut
    obtain ⟨w6,hw6⟩:=jX (wc:World)
    rw [← hw6] at GT6 MB6 IB6 RA6 GA6 GR6 HB6 ⊢
    clear hw6 GAw5 GRw5 HBw5
    obtain ⟨s0,s1,_,_,_⟩:=soup_facts GA6.out
    have MW6:Hid (MapW w6 gm 0 T (3 * T.length)):=jJ (MapW.start MB6.out)
    go_wp2_with fail
    clear GA6 s0 s1 MB6
    go_loopw [6] (fun iv wr=>∃ (k q:Nat) (i:Int) (L:List Int),k ≤ 3 * T.length ∧ iv=.int .i64 i ∧ i=(k:Int) - 1 ∧ q ≤ 3 * T.length - k ∧ Hid (Blk wr gt 68 #[.int .i64 (m:Int),.slice A1 T.length c1,.map (some gm),.slice (some ⟨gi,0,none⟩) m m]) ∧ Hid (MapW wr gm q T k) ∧ Hid (L.length=m ∧ ∀ v,v < m → L[v]?=some (firstV T k v)) ∧ Hid (Blk wr gi 3 (ints L)) ∧ Hid (LRow wr w.heap.size A1 c1 T) ∧ Hid (Blk wr gr 39 #[.int .i64 0,.int .i64 0,.int .i64 0]) ∧ Hid (Below w.heap.size w wr)) (fun iv _=>(intOf iv + 1).toNat)
    case atStart =>
     exact ⟨3 * T.length,0,_,List.replicate m 0,by omega,rfl,by go_num,by omega,GT6,MW6,jJ ⟨by simp,fun v hv=>by rw [firstV_end]; simp [hv]⟩,IB6,RA6,GR6,HB6⟩
    case round =>
     obtain ⟨k,q,i,L,hk,rfl,hi,hq,GTk,MBk,HLk,IBk,RAk,GRk,HBk⟩:=hrel
     obtain ⟨wB,hwB⟩:=jX (wr:World)
     rw [← hwB] at GTk MBk IBk RAk GRk HBk ⊢
     clear hwB GT6 MW6 IB6 RA6 GR6 HB6
     cases k with
     | zero =>
      obtain rfl:i=-1:=by omega
      clear hi
      obtain ⟨r0,r1,r2,r3,r4,r5⟩:=wit_facts GRk.out
      go_wp2_with fail
      obtain ⟨f0,f1,f2,_,_,_⟩:=wit_facts (wit_set GRk.out (.int .i64 0) (.int .i64 0) (.int .i64 0))
      have hg:=HGE.out
      have hr:=HGR.out.1
      refine bodyPost_ret (v:=.tuple #[.pointer (some ⟨gt,0,none⟩),.agg #[.int .i64 0,.int .i64 0,.int .i64 0]]) ?_ rfl (new_yes HX.out (tab_wit GTk.out MBk.out IBk.out RAk.out GRk.out hg.1 hg.2.1 hg.2.2 HLk.out.1 (fun v hv=>by rw [HLk.out.2 v hv,firstV_zero (HUS.out v hv)]) _ _ _) (bw_set (bw_set (bw_set HBk.out hr _) hr _) hr _))
      simp [results,Tryz.results11,go_sem,f0,f1,f2]
     | succ k =>
      obtain rfl:i=(k:Int):=by omega
      have hk':k < 3 * T.length:=by omega
      have o1:=cv_ok HOK.out (nxc_lt hk')
      have o2:=cv_ok HOK.out (pvc_lt hk')
      have o3:=cv_ok HOK.out hk'
      have hwf:wfE (ce T k):=⟨wf_small (show -1 ≤ cv T (nxc k) by omega) (show cv T (nxc k) < 100000 by omega),wf_small (show -1 ≤ cv T (pvc k) by omega) (show cv T (pvc k) < 100000 by omega)⟩
      have HWF:=jJ hwf
      obtain ⟨xn,hxn⟩:=Int.eq_ofNat_of_zero_le o3.1
      have hxm:xn < m:=by omega
      have HXN:=jJ hxn
      have HCE:Hid (∀ (W:World),Blk W gt 68 #[.int .i64 (m:Int),.slice A1 T.length c1,.map (some gm),.slice (some ⟨gi,0,none⟩) m m] → LRow W w.heap.size A1 c1 T → Calls Tryz.prog 26 #[.pointer (some ⟨gt,0,none⟩),.int .i64 (k:Int)] W (EdPost W (ce T k))):=jJ fun W h1 h2=>by
       have h:=edge_any gt w.heap.size m T k W hT8 (⟨A1,c1,_,_,h1,h2⟩:TabS W w.heap.size gt (m:Int) T)
       rwa [edgeI_nat hk'] at h
      have HCV:Hid (∀ (W:World),Blk W gt 68 #[.int .i64 (m:Int),.slice A1 T.length c1,.map (some gm),.slice (some ⟨gi,0,none⟩) m m] → LRow W w.heap.size A1 c1 T → Calls Tryz.prog 17 #[.pointer (some ⟨gt,0,none⟩),.int .i64 (k:Int)] W (IntPost W (xn:Int))):=jJ fun W h1 h2=>by
       have h:=vertex_any gt w.heap.size m T k W hT8 (⟨A1,c1,_,_,h1,h2⟩:TabS W w.heap.size gt (m:Int) T)
       rw [vertexI_nat hk',HXN.out] at h
       refine h.mono ?_
       rintro e w' ⟨rfl,rfl⟩
       exact ⟨rfl,Below.refl _ _⟩
      have hki:(0:Int) ≤ (k:Int):=by omega
      have hx0:(0:Int) ≤ (xn:Int):=by omega
      have hx1:(xn:Int) < (m:Int):=by omega
      clear hxn o1 o2 o3 hi hwf
      go_wp2_with fail
      refine wp_region_till (S:=fun w'=>w'.cell? ⟨gt,2,none⟩=some (.map (some gm))) 8 (by kernel_rfl) (tab_facts GTk.out.drew).2.2.1 (fun hHeld=>?_)
      refine tKk 0 ?_; (try simp only [zQ])
      refine tKk 1 ?_; (try simp only [zQ])
      refine tKk 2 ?_; (try simp only [zQ])
      refine tKk 3 ?_; (try simp only [zQ])
      refine tKk 4 ?_; (try simp only [zQ])
      refine tKk 5 ?_; (try simp only [zQ])
      refine tKk 7 ?_; (try simp only [zQ])
      refine Till.ready (rs:=[6]) (by kernel_rfl) (by simp) ?_
      refine TillEach.cons rfl (fun K hK=>?_) ?_
      · go_simp
        go_wp2_with (go_at_call 26; refine (HCE.out _ GTk.out.drew RAk.out.drew).mono ?_; rintro e v20 ⟨rfl,hb⟩)
        have GTv20:=jJ (blk_call GTk.out.drew hb)
        have IBv20:=jJ (blk_call IBk.out.drew hb)
        have GRv20:=jJ (blk_call GRk.out.drew hb)
        have RAv20:=jJ (RAk.out.drew.below hb)
        have MBv20:=jJ (MBk.out.drew.below hb)
        obtain ⟨es,cl,hst,q',hq',MB9⟩:=MapW.store MBv20.out hk' (by simp only [maxLen]; omega) HWF.out
        have HBv20:=jJ (bw_call (bw_drew HBk.out) hb)
        clear hb
        refine hK.out _ _ ?_ (fun hHeld=>?_)
        · exact (tab_facts GTv20.out).2.2.1
        clear hK K
        (try simp only [zQ])
        refine Till.ready (rs:=[8]) (by kernel_rfl) (by simp) ?_
        refine TillEach.last rfl (fun K hK=>?_)
        go_simp
        refine hK.out _ _ ?_
        clear hK K
        (try simp only [zQ])
        refine Till.done (by kernel_rfl) ?_ _
        go_wp2_with fail
        obtain ⟨w9,hw9⟩:=jX (ChangeMaps.setBlock v20 gm (.map es cl))
        rw [← hw9] at MB9
        have GTw9:Hid (Blk w9 gt 68 #[.int .i64 (m:Int),.slice A1 T.length c1,.map (some gm),.slice (some ⟨gi,0,none⟩) m m]):=by rw [hw9]; exact jJ (GTv20.out.setBlock (MBv20.out.ne_blk GTv20.out) _)
        have IBw9:Hid (Blk w9 gi 3 (ints L)):=by rw [hw9]; exact jJ (IBv20.out.setBlock (MBv20.out.ne_blk IBv20.out) _)
        have GRw9:Hid (Blk w9 gr 39 #[.int .i64 0,.int .i64 0,.int .i64 0]):=by rw [hw9]; exact jJ (GRv20.out.setBlock (MBv20.out.ne_blk GRv20.out) _)
        have RAw9:Hid (LRow w9 w.heap.size A1 c1 T):=by rw [hw9]; exact jJ (RAv20.out.setBlock MBv20.out _)
        have HBw9:Hid (Below w.heap.size w w9):=by rw [hw9]; exact jJ (bw_setBlock HBv20.out HGE.out.2.1 _)
        have MBw9:=jJ MB9
        rw [← hw9]
        clear hw9 MB9 hst GTv20 IBv20 GRv20 RAv20 HBv20 MBv20
        refine wp_region_till (S:=fun w'=>w'.cell? ⟨gt,3,none⟩=some (.slice (some ⟨gi,0,none⟩) m m)) 9 (by kernel_rfl) (tab_facts GTw9.out.drew).2.2.2 (fun hHeld=>?_)
        refine tKk 0 ?_; (try simp only [zQ])
        refine tKk 1 ?_; (try simp only [zQ])
        refine tKk 2 ?_; (try simp only [zQ])
        refine tKk 3 ?_; (try simp only [zQ])
        refine tKk 4 ?_; (try simp only [zQ])
        refine tKk 5 ?_; (try simp only [zQ])
        refine tKk 7 ?_; (try simp only [zQ])
        refine Till.ready (rs:=[6]) (by kernel_rfl) (by simp) ?_
        refine TillEach.cons rfl (fun K hK=>?_) ?_
        · go_simp
          go_wp2_with (go_at_call 17; refine (HCV.out _ GTw9.out.drew RAw9.out.drew).mono ?_; rintro e v30 ⟨rfl,hb⟩)
          have GTv30:=jJ (blk_call GTw9.out.drew hb)
          have IBv30:=jJ (blk_call IBw9.out.drew hb)
          have GRv30:=jJ (blk_call GRw9.out.drew hb)
          have RAv30:=jJ (RAw9.out.drew.below hb)
          have MBv30:=jJ (MBw9.out.drew.below hb)
          have b0:=ints_cell IBv30.out (k:=xn) (by rw [HLk.out.1]; exact hxm)
          have b1:=IBv30.out.frozen xn
          have HBv30:=jJ (bw_call (bw_drew HBw9.out) hb)
          clear hb
          refine hK.out _ _ ?_ (fun hHeld=>?_)
          · exact (tab_facts GTv30.out).2.2.2
          clear hK K
          (try simp only [zQ])
          refine tKk 8 ?_; (try simp only [zQ])
          refine Till.ready (rs:=[9]) (by kernel_rfl) (by simp) ?_
          refine TillEach.last rfl (fun K hK=>?_)
          go_simp
          refine hK.out _ _ ?_
          clear hK K
          (try simp only [zQ])
          refine Till.done (by kernel_rfl) ?_ _
          go_wp2_with fail
          have hg:=HGE.out
          have n1:gt ≠ gi:=GTv30.out.ne_ IBv30.out (by decide)
          have n2:gr ≠ gi:=GRv30.out.ne_ IBv30.out (by decide)
          have hs:=IBv30.out.set_ xn (.int .i64 (k:Int))
          rw [ints_set] at hs
          refine ⟨⟨k,q',_,L.set xn (k:Int),by omega,rfl,rfl,by omega,jJ (GTv30.out.far n1 _),jJ (MBv30.out.set b0 _),jJ ⟨by rw [List.length_set,HLk.out.1],fun v hv=>?_⟩,jJ hs,jJ (RAv30.out.setInt IBv30.out _),jJ (GRv30.out.far n2 _),jJ (bw_set HBv30.out hg.2.2 _)⟩,by simp [intOf]⟩
          rw [firstV_step hk',HXN.out]
          by_cases hxv:(xn:Int)=(v:Int)
          · obtain rfl:xn=v:=by omega
            rw [if_pos rfl,List.getElem?_set_self (by rw [HLk.out.1]; exact hv)]
          rw [if_neg hxv,List.getElem?_set_ne (by omega),HLk.out.2 v hv]
        exact TillEach.nil
      exact TillEach.nil
 have hkb:(k != 0)=true:=by simp [hk]
 have HNZ:Hid (checkR N T ≠ (0,0,0)):=jJ (fun h=>hk (by rw [HX.out] at h; cases h; rfl))
 obtain ⟨r0,r1,r2,r3,r4,r5⟩:=wit_facts GRw5.out
 clear HKS
 go_upto_region 3 with (fail)
 clear x0 x1 x2
 refine wp_region_till (S:=fun w'=>w'.cell? ⟨gw,0,none⟩=some (.int .i64 k) ∧ w'.cell? ⟨gw,1,none⟩=some (.int .i64 a) ∧ w'.cell? ⟨gw,2,none⟩=some (.int .i64 b)) 2 (by kernel_rfl) ⟨(wit_facts GWw5.out.drew).1,(wit_facts GWw5.out.drew).2.1,(wit_facts GWw5.out.drew).2.2.1⟩ (fun hHeld=>?_)
 refine tKk 0 ?_; (try simp only [zQ])
 refine tKk 1 ?_; (try simp only [zQ])
 refine Till.ready (rs:=[2]) (by kernel_rfl) (by simp) ?_
 refine TillEach.last rfl (fun K hK=>?_)
 go_simp
 refine hK.out _ _ ?_
 clear hK K
 (try simp only [zQ])
 refine Till.done (by kernel_rfl) ?_ _
 go_wp2_with fail
 obtain ⟨f0,f1,f2,_,_,_⟩:=wit_facts (wit_set GRw5.out (.int .i64 k) (.int .i64 a) (.int .i64 b)).drew
 refine bodyPost_ret (v:=.tuple #[.pointer none,.agg #[.int .i64 k,.int .i64 a,.int .i64 b]]) ?_ rfl (new_no HNZ.out HX.out (bw_drew (bw_set (bw_set (bw_set HBw5.out HGR.out.1 _) HGR.out.1 _) HGR.out.1 _)))
 simp [results,Tryz.results11,go_sem,f0,f1,f2]
end
end Go.Proofs.YtffmfhkiienmaaaGreat
