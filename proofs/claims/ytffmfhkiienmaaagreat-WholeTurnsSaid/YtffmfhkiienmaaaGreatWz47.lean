/- symmetry.All's rows, a path of choices each: plain. No condition. -/
import Derived.Test.YtffmfhkiienmaaaGreatAllP
import Derived.Test.YtffmfhkiienmaaaGreatWy47
set_option maxRecDepth 100000
set_option maxHeartbeats 16000000
set_option linter.all false
namespace Go.Proofs.YtffmfhkiienmaaaGreat
open Go.RowKit
section
abbrev Choice:=Nat × List Int
def plW (ks:List KindV) (i:Nat):List Int:=(kAt ks i).ws.getD 0 []
def pathsL (ks:List KindV):Nat → Nat → (Nat → Bool) → List (List Choice)
 | 0,_,_=>[[]]
 | d + 1,i,used=>(List.range ks.length).flatMap fun j=>if used j || !alikeK (kAt ks j) (kAt ks i) then [] else (kAt ks j).ws.flatMap fun way=>(pathsL ks d (i + 1) (updF used j true)).map fun p=>(j,way) :: p
def applyP (ks:List KindV):Nat → List Choice → List Int → List Int
 | _,[],ts=>ts
 | i,(_,way) :: p,ts=>applyP ks (i + 1) p (setW (plW ks i) way (plW ks i).length ts)
structure AgreeP (ks:List KindV) (i:Nat) (a b:List Int):Prop where
 len:a.length=b.length
 at_:∀ q,(∀ i',i ≤ i' → i' < ks.length → ∀ v ∈ plW ks i',v.toNat ≠ q) → a.getD q 0=b.getD q 0
section
variable {ks:List KindV}
theorem AgreeP.refl (i:Nat) (a:List Int):AgreeP ks i a a:=⟨rfl,fun _ _=>rfl⟩
theorem AgreeP.trans {i:Nat} {a b c:List Int} (h:AgreeP ks i a b) (h':AgreeP ks i b c):AgreeP ks i a c:=⟨h.len.trans h'.len,fun q hq=>(h.at_ q hq).trans (h'.at_ q hq)⟩
theorem AgreeP.symm {i:Nat} {a b:List Int} (h:AgreeP ks i a b):AgreeP ks i b a:=⟨h.len.symm,fun q hq=>(h.at_ q hq).symm⟩
theorem AgreeP.up {i:Nat} {a b:List Int} (h:AgreeP ks (i + 1) a b):AgreeP ks i a b:=⟨h.len,fun q hq=>h.at_ q fun i' hi=>hq i' (by omega)⟩
theorem getD_setN {l:List Int} {p q:Nat} {x:Int}:(l.set p x).getD q 0=if p=q ∧ p < l.length then x else l.getD q 0:=by
 rw [List.getD_eq_getElem?_getD,List.getD_eq_getElem?_getD,List.getElem?_set]
 by_cases h:p=q
 · subst h
   by_cases hl:p < l.length
   · simp [hl]
   simp [hl]
 simp [h]
theorem setW_off {V way ts:List Int} {q:Nat}:∀ n,n ≤ V.length → (∀ v ∈ V,v.toNat ≠ q) → (setW V way n ts).getD q 0=ts.getD q 0
 | 0,_,_=>rfl
 | n + 1,hn,h=>by
  rw [setW,getD_setN]
  have hm:V.getD n 0 ∈ V:=by rw [List.getD_eq_getElem?_getD,List.getElem?_eq_getElem (show n < V.length by omega)]; exact List.getElem_mem _
  rw [if_neg fun e=>h _ hm e.1]
  exact setW_off n (by omega) h
theorem setW_agree {V way a b:List Int} (hl:a.length=b.length) {q:Nat}:∀ n,n ≤ V.length → (a.getD q 0=b.getD q 0 ∨ ∃ k,k < n ∧ (V.getD k 0).toNat=q) → (setW V way n a).getD q 0=(setW V way n b).getD q 0
 | 0,_,h=>by
  rcases h with h | ⟨k,hk,_⟩
  · exact h
  omega
 | n + 1,hn,h=>by
  rw [setW,setW,getD_setN,getD_setN,setW_len,setW_len,hl]
  by_cases e:(V.getD n 0).toNat=q ∧ (V.getD n 0).toNat < b.length
  · rw [if_pos e,if_pos e]
  rw [if_neg e,if_neg e]
  by_cases hq:(V.getD n 0).toNat=q
  · have hb:b.length ≤ q:=by
     apply Nat.le_of_not_lt
     intro hlt
     exact e ⟨hq,by omega⟩
    rw [List.getD_eq_getElem?_getD,List.getD_eq_getElem?_getD,List.getElem?_eq_none (by rw [setW_len,hl]; exact hb),List.getElem?_eq_none (by rw [setW_len]; exact hb)]
  · refine setW_agree hl n (by omega) ?_
    rcases h with h | ⟨k,hk,e2⟩
    · exact .inl h
    rcases Nat.lt_succ_iff_lt_or_eq.1 hk with hk | rfl
    · exact .inr ⟨k,hk,e2⟩
    exact absurd e2 hq
theorem AgreeP.set {i:Nat} {a b way:List Int} (h:AgreeP ks i a b):AgreeP ks (i + 1) (setW (plW ks i) way (plW ks i).length a) (setW (plW ks i) way (plW ks i).length b):=by
 refine ⟨by rw [setW_len,setW_len,h.len],fun q hq=>setW_agree h.len _ (Nat.le_refl _) ?_⟩
 by_cases hv:∀ v ∈ plW ks i,v.toNat ≠ q
 · refine .inl (h.at_ q fun i' h1 h2=>?_)
   rcases Nat.eq_or_lt_of_le h1 with e | h1
   · rw [← e]; exact hv
   exact hq i' h1 h2
 right
 apply Classical.byContradiction
 intro hno
 refine hv fun v hm e=>hno ?_
 obtain ⟨k,hk,ek⟩:=List.getElem_of_mem hm
 exact ⟨k,hk,by rw [List.getD_eq_getElem?_getD,List.getElem?_eq_getElem hk,Option.getD_some,ek]; exact e⟩
theorem AgreeP.off (i:Nat) (hi:i < ks.length) (way ts:List Int):AgreeP ks i (setW (plW ks i) way (plW ks i).length ts) ts :=
 ⟨setW_len _ _ _ _,fun q hq=>setW_off _ (Nat.le_refl _) fun v hv=>hq i (Nat.le_refl _) hi v hv⟩
theorem apply_agree:∀ (p:List Choice) {i:Nat} {a b:List Int},AgreeP ks i a b → AgreeP ks (i + p.length) (applyP ks i p a) (applyP ks i p b)
 | [],i,a,b,h=>h
 | (j,way) :: p,i,a,b,h=>by
  have:=apply_agree p (h.set (way:=way))
  rw [show i + 1 + p.length=i + ((j,way) :: p).length by simp; omega] at this
  exact this
theorem apply_same {p:List Choice} {i:Nat} {a b:List Int} (h:AgreeP ks i a b) (hp:ks.length ≤ i + p.length):applyP ks i p a=applyP ks i p b:=by
 have h1:=apply_agree p h
 apply List.ext_getElem h1.len
 intro q h2 h3
 have:=h1.at_ q fun i' h4 h5=>by omega
 rw [List.getD_eq_getElem?_getD,List.getD_eq_getElem?_getD,List.getElem?_eq_getElem h2,List.getElem?_eq_getElem h3] at this
 exact this
theorem paths_len:∀ {d i:Nat} {used:Nat → Bool} {p:List Choice},p ∈ pathsL ks d i used → p.length=d
 | 0,i,used,p,h=>by
  rw [pathsL,List.mem_singleton] at h
  rw [h]; rfl
 | d + 1,i,used,p,h=>by
  rw [pathsL,List.mem_flatMap] at h
  obtain ⟨j,_,h⟩:=h
  split at h
  · cases h
  obtain ⟨way,_,h⟩:=List.mem_flatMap.1 h
  obtain ⟨p',h',rfl⟩:=List.mem_map.1 h
  rw [List.length_cons,paths_len h']
theorem ways_fold {d i j:Nat} {used:Nat → Bool} (hi:i < ks.length) (hd:ks.length ≤ i + 1 + d)
  (ih:∀ (o:List (List Int)) (ts:List Int),∃ ts',goR ks d (i + 1) used (o,ts)=(o ++ (pathsL ks d (i + 1) used).map (fun p=>applyP ks (i + 1) p ts),ts') ∧ AgreeP ks (i + 1) ts' ts) (ts:List Int) :
  ∀ (W:List (List Int)) (o:List (List Int)) (ts0:List Int),AgreeP ks i ts0 ts → ∃ ts',W.foldl (fun s way=>goR ks d (i + 1) used (s.1,setW ((kAt ks i).ws.getD 0 []) way ((kAt ks i).ws.getD 0 []).length s.2)) (o,ts0)=(o ++ (W.flatMap fun way=>(pathsL ks d (i + 1) used).map fun p=>(j,way) :: p).map (fun p=>applyP ks i p ts),ts') ∧ AgreeP ks i ts' ts
 | [],o,ts0,h=>⟨ts0,by simp,h⟩
 | way :: W,o,ts0,h=>by
  obtain ⟨ts1,e1,h1⟩:=ih o (setW (plW ks i) way (plW ks i).length ts0)
  have hrow:(pathsL ks d (i + 1) used).map (fun p=>applyP ks (i + 1) p (setW (plW ks i) way (plW ks i).length ts0))=((pathsL ks d (i + 1) used).map fun p=>(j,way) :: p).map (fun p=>applyP ks i p ts):=by
   rw [List.map_map]
   refine List.map_congr_left fun p hp=>?_
   show _=applyP ks (i + 1) p (setW (plW ks i) way (plW ks i).length ts)
   exact apply_same h.set (by rw [paths_len hp]; exact hd)
  obtain ⟨ts2,e2,h2⟩:=ways_fold hi hd ih ts W (o ++ (pathsL ks d (i + 1) used).map (fun p=>applyP ks (i + 1) p (setW (plW ks i) way (plW ks i).length ts0))) ts1 ((h1.up.trans (AgreeP.off i hi way ts0)).trans h)
  refine ⟨ts2,?_,h2⟩
  rw [List.foldl_cons]
  show List.foldl _ (goR ks d (i + 1) used (o,setW (plW ks i) way (plW ks i).length ts0)) W=_
  rw [e1,e2,hrow,List.flatMap_cons,List.map_append,List.append_assoc]
theorem goR_paths:∀ (d i:Nat) (used:Nat → Bool),i + d=ks.length → ∀ (o:List (List Int)) (ts:List Int),∃ ts',goR ks d i used (o,ts)=(o ++ (pathsL ks d i used).map (fun p=>applyP ks i p ts),ts') ∧ AgreeP ks i ts' ts
 | 0,i,used,h,o,ts=>⟨ts,rfl,AgreeP.refl _ _⟩
 | d + 1,i,used,h,o,ts=>by
  have key:∀ (J:List Nat) (o:List (List Int)) (ts0:List Int),AgreeP ks i ts0 ts → ∃ ts',J.foldl (fun s j=>if used j || !alikeK (kAt ks j) (kAt ks i) then s else (kAt ks j).ws.foldl (fun s way=>goR ks d (i + 1) (updF used j true) (s.1,setW ((kAt ks i).ws.getD 0 []) way ((kAt ks i).ws.getD 0 []).length s.2)) s) (o,ts0)=(o ++ (J.flatMap fun j=>if used j || !alikeK (kAt ks j) (kAt ks i) then [] else (kAt ks j).ws.flatMap fun way=>(pathsL ks d (i + 1) (updF used j true)).map fun p=>(j,way) :: p).map (fun p=>applyP ks i p ts),ts') ∧ AgreeP ks i ts' ts:=by
   intro J
   induction J with
   | nil=>exact fun o ts0 h=>⟨ts0,by simp,h⟩
   | cons j J ihJ =>
    intro o ts0 hts
    rw [List.foldl_cons,List.flatMap_cons]
    by_cases hu:(used j || !alikeK (kAt ks j) (kAt ks i))=true
    · rw [if_pos hu,if_pos hu,List.nil_append]
      exact ihJ o ts0 hts
    rw [if_neg hu,if_neg hu]
    obtain ⟨ts1,e1,h1⟩:=ways_fold (j:=j) (by omega) (by omega) (fun o ts=>goR_paths d (i + 1) (updF used j true) (by omega) o ts) ts (kAt ks j).ws o ts0 hts
    rw [e1]
    obtain ⟨ts2,e2,h2⟩:=ihJ (o ++ ((kAt ks j).ws.flatMap fun way=>(pathsL ks d (i + 1) (updF used j true)).map fun p=>(j,way) :: p).map (fun p=>applyP ks i p ts)) ts1 h1
    refine ⟨ts2,?_,h2⟩
    rw [e2,List.map_append,List.append_assoc]
  rw [goR]
  obtain ⟨ts',e,h'⟩:=key (List.range ks.length) o ts (AgreeP.refl _ _)
  exact ⟨ts',e,h'⟩
end
end
section
section
variable {ks:List KindV}
theorem mem_paths {d i j:Nat} {used:Nat → Bool} {way:List Int} {p:List Choice}:(j,way) :: p ∈ pathsL ks (d + 1) i used ↔ j < ks.length ∧ used j=false ∧ alikeK (kAt ks j) (kAt ks i)=true ∧ way ∈ (kAt ks j).ws ∧ p ∈ pathsL ks d (i + 1) (updF used j true):=by
 rw [pathsL,List.mem_flatMap]
 constructor
 · rintro ⟨j',hj',h⟩
   split at h
   · cases h
   rename_i hu
   obtain ⟨way',hw,h⟩:=List.mem_flatMap.1 h
   obtain ⟨p',hp,e⟩:=List.mem_map.1 h
   injection e with e1 e2
   injection e1 with e1 e3
   subst e1 e2 e3
   simp only [Bool.or_eq_true,Bool.not_eq_true',not_or,Bool.not_eq_true,Bool.not_eq_false] at hu
   exact ⟨List.mem_range.1 hj',hu.1,hu.2,hw,hp⟩
 rintro ⟨hj,h1,h2,hw,hp⟩
 refine ⟨j,List.mem_range.2 hj,?_⟩
 rw [if_neg (by rw [h1,h2]; decide)]
 exact List.mem_flatMap.2 ⟨way,hw,List.mem_map.2 ⟨p,hp,rfl⟩⟩
theorem paths_cons {d i:Nat} {used:Nat → Bool} {p:List Choice} (h:p ∈ pathsL ks (d + 1) i used):∃ j way p',p=(j,way) :: p':=by
 have:=paths_len h
 cases p with
 | nil=>simp at this
 | cons x p'=>exact ⟨x.1,x.2,p',rfl⟩
theorem nodup_flatMap {α β:Type} {f:α → List β}:∀ {l:List α},l.Nodup → (∀ a ∈ l,(f a).Nodup) → (∀ a ∈ l,∀ b ∈ l,a ≠ b → ∀ x,x ∈ f a → x ∈ f b → False) → (l.flatMap f).Nodup
 | [],_,_,_=>by simp
 | a :: l,hn,h1,h2=>by
  rw [List.flatMap_cons,List.nodup_append]
  rw [List.nodup_cons] at hn
  refine ⟨h1 a List.mem_cons_self,nodup_flatMap hn.2 (fun b hb=>h1 b (List.mem_cons_of_mem _ hb)) (fun b hb c hc=>h2 b (List.mem_cons_of_mem _ hb) c (List.mem_cons_of_mem _ hc)),fun x hx y hy e=>?_⟩
  subst e
  obtain ⟨b,hb,hxb⟩:=List.mem_flatMap.1 hy
  exact h2 a List.mem_cons_self b (List.mem_cons_of_mem _ hb) (fun e=>hn.1 (e ▸ hb)) x hx hxb
theorem nodup_mapI {α β:Type} {f:α → β} {l:List α} (hf:∀ a ∈ l,∀ b ∈ l,f a=f b → a=b) (h:l.Nodup):(l.map f).Nodup:=by
 unfold List.Nodup
 rw [List.pairwise_map]
 refine (List.Pairwise.and_mem.1 h).imp ?_
 rintro a b ⟨ha,hb,hab⟩ e
 exact hab (hf a ha b hb e)
theorem paths_nodup (hw:∀ j,j < ks.length → (kAt ks j).ws.Nodup):∀ d i used,(pathsL ks d i used).Nodup
 | 0,_,_=>by simp [pathsL]
 | d + 1,i,used=>by
  rw [pathsL]
  refine nodup_flatMap List.nodup_range (fun j hj=>?_) fun a ha b hb hab x hxa hxb=>?_
  · split
    · exact List.nodup_nil
    refine nodup_flatMap (hw j (List.mem_range.1 hj)) (fun way _=>nodup_mapI (fun p _ q _ e=>by injection e) (paths_nodup hw d _ _)) fun a _ b _ hab x hxa hxb=>?_
    obtain ⟨p,_,rfl⟩:=List.mem_map.1 hxa
    obtain ⟨q,_,e⟩:=List.mem_map.1 hxb
    injection e with e1 e2
    injection e1 with e1 e3
    exact hab e3.symm
  split at hxa
  · cases hxa
  split at hxb
  · cases hxb
  obtain ⟨w1,_,h1⟩:=List.mem_flatMap.1 hxa
  obtain ⟨w2,_,h2⟩:=List.mem_flatMap.1 hxb
  obtain ⟨p,_,rfl⟩:=List.mem_map.1 h1
  obtain ⟨q,_,e⟩:=List.mem_map.1 h2
  injection e with e1 e2
  injection e1 with e1 e3
  exact hab e1.symm
def cntK (k:KindV) (l:List KindV):Nat:=(l.filter fun o=>alikeK o k).length
def prodF:List KindV → Nat
 | []=>1
 | y :: l=>y.ws.length * (1 + cntK y l) * prodF l
theorem alike_eq {a b:KindV}:alikeK a b=true ↔ a.M=b.M ∧ a.L=b.L:=by unfold alikeK; rw [decide_eq_true_iff]
theorem cntK_same {a b:KindV} (h:alikeK a b=true) (l:List KindV):cntK a l=cntK b l:=by
 have:=alike_eq.1 h
 unfold cntK alikeK
 rw [this.1,this.2]
theorem cntK_snoc (k x:KindV) (l:List KindV):cntK k (l ++ [x])=cntK k l + if alikeK x k then 1 else 0:=by
 unfold cntK
 rw [List.filter_append,List.length_append]
 by_cases h:alikeK x k=true <;> simp [h]
theorem prodF_snoc (x:KindV):∀ l:List KindV,prodF (l ++ [x])=prodF l * (x.ws.length * (1 + cntK x l))
 | []=>by simp [prodF,cntK]
 | y :: l=>by
  rw [List.cons_append,prodF,prodF_snoc x l,prodF,cntK_snoc]
  have hc:cntK x (y :: l)=cntK x l + if alikeK y x then 1 else 0:=by
   unfold cntK
   rw [List.filter_cons]
   by_cases h:alikeK y x=true <;> simp [h]
  rw [hc]
  by_cases h:alikeK x y=true
  · have h':alikeK y x=true:=by rw [alike_eq] at h ⊢; exact ⟨h.1.symm,h.2.symm⟩
    rw [if_pos h,if_pos h',cntK_same h]
    generalize prodF l=A
    generalize cntK y l=C
    generalize y.ws.length=Y
    generalize x.ws.length=X
    rw [show Y * (1 + (C + 1)) * (A * (X * (1 + C)))=Y * (1 + C) * A * (X * (1 + (C + 1))) by ac_rfl]
  have h':¬ alikeK y x=true:=fun h2=>h (by rw [alike_eq] at h2 ⊢; exact ⟨h2.1.symm,h2.2.symm⟩)
  rw [if_neg h,if_neg h',Nat.add_zero,Nat.add_zero]
  generalize 1 + cntK y l=C
  generalize 1 + cntK x l=D
  ac_rfl
theorem flatMap_lenB {α β:Type} {f:α → List β} {b:α → Bool} {X:Nat}:∀ {L:List α},(∀ j ∈ L,(f j).length=if b j then X else 0) → (L.flatMap f).length=(L.filter b).length * X
 | [],_=>by simp
 | j :: L,h=>by
  rw [List.flatMap_cons,List.length_append,h j List.mem_cons_self,flatMap_lenB fun k hk=>h k (List.mem_cons_of_mem _ hk),List.filter_cons]
  by_cases hb:b j=true
  · rw [if_pos hb,if_pos hb,List.length_cons,Nat.succ_mul]; omega
  rw [if_neg hb,if_neg hb]; omega
theorem kAt_list (ks:List KindV):(List.range ks.length).map (kAt ks)=ks:=by
 apply List.ext_getElem (by simp)
 intro i h1 h2
 simp [kAt,List.getD,h2]
theorem cnt_all (k:KindV):((List.range ks.length).filter fun j=>alikeK (kAt ks j) k).length=cntK k ks:=by
 have:cntK k ((List.range ks.length).map (kAt ks))=((List.range ks.length).filter fun j=>alikeK (kAt ks j) k).length:=by
  unfold cntK
  rw [List.filter_map,List.length_map]
  rfl
 rw [← this,kAt_list]
def usedN (ks:List KindV) (used:Nat → Bool) (k:KindV):Nat:=((List.range ks.length).filter fun j=>used j && alikeK (kAt ks j) k).length
theorem filter_split {α:Type} (b c:α → Bool):∀ L:List α,(L.filter c).length=(L.filter fun j=>b j && c j).length + (L.filter fun j=>!b j && c j).length
 | []=>rfl
 | j :: L=>by
  have:=filter_split b c L
  simp only [List.filter_cons]
  cases b j <;> cases c j <;> simp <;> omega
theorem filter_one {b b':Nat → Bool} {j:Nat} {v:Bool} (hj:b j=false) (hv:b' j=v) (hne:∀ k,k ≠ j → b' k=b k):∀ {L:List Nat},L.Nodup → j ∈ L → (L.filter b').length=(L.filter b).length + if v then 1 else 0
 | x :: L,hn,hm=>by
  rw [List.nodup_cons] at hn
  rw [List.filter_cons,List.filter_cons]
  by_cases e:x=j
  · subst e
    have hs:L.filter b'=L.filter b:=List.filter_congr fun k hk=>hne k fun e=>hn.1 (e ▸ hk)
    rw [hj,hv,hs]
    cases v <;> simp
  have hm':j ∈ L:=by
   rcases List.mem_cons.1 hm with h | h
   · exact absurd h.symm e
   exact h
  have ih:=filter_one hj hv hne hn.2 hm'
  rw [hne x e]
  cases b x
  · simpa using ih
  simp only [if_true,List.length_cons,ih]
  omega
theorem paths_count (hw:∀ a ∈ ks,∀ b ∈ ks,alikeK a b=true → a.ws.length=b.ws.length):∀ (d i:Nat) (used:Nat → Bool),i + d=ks.length → (∀ k,usedN ks used k=cntK k (ks.take i)) → (pathsL ks d i used).length=prodF (ks.drop i)
 | 0,i,used,h,_=>by
  rw [List.drop_of_length_le (by omega)]
  rfl
 | d + 1,i,used,h,hu=>by
  have hi:i < ks.length:=by omega
  have hki:kAt ks i=ks[i]:=by simp [kAt,List.getD,hi]
  have hdrop:ks.drop i=ks[i] :: ks.drop (i + 1):=List.drop_eq_getElem_cons hi
  rw [pathsL,flatMap_lenB (b:=fun j=>!used j && alikeK (kAt ks j) (kAt ks i)) (X:=(kAt ks i).ws.length * prodF (ks.drop (i + 1)))]
  · have h1:=filter_split used (fun j=>alikeK (kAt ks j) (kAt ks i)) (List.range ks.length)
    rw [cnt_all] at h1
    have h2:=hu (kAt ks i)
    unfold usedN at h2
    have h3:cntK (kAt ks i) ks=cntK (kAt ks i) (ks.take i) + cntK (kAt ks i) (ks.drop i):=by
     unfold cntK
     rw [← List.length_append,← List.filter_append,List.take_append_drop]
    have h4:cntK (kAt ks i) (ks.drop i)=1 + cntK (kAt ks i) (ks.drop (i + 1)):=by
     rw [hdrop]
     unfold cntK
     rw [List.filter_cons,if_pos (by rw [hki,alike_eq]; exact ⟨rfl,rfl⟩),List.length_cons]
     omega
    have h5:((List.range ks.length).filter fun j=>!used j && alikeK (kAt ks j) (kAt ks i)).length=1 + cntK (kAt ks i) (ks.drop (i + 1)):=by omega
    rw [h5,hdrop,prodF,← hki]
    generalize 1 + cntK (kAt ks i) (ks.drop (i + 1))=C
    ac_rfl
  intro j hj
  have hj:=List.mem_range.1 hj
  have hkj:kAt ks j=ks[j]:=by simp [kAt,List.getD,hj]
  by_cases hb:(used j || !alikeK (kAt ks j) (kAt ks i))=true
  · rw [if_pos hb,if_neg (by simp at hb ⊢; intro h1; rcases hb with h2 | h2; (rw [h1] at h2; cases h2); exact h2)]
    rfl
  have hb':used j=false ∧ alikeK (kAt ks j) (kAt ks i)=true:=by simpa using hb
  rw [if_neg hb,if_pos (by rw [hb'.1,hb'.2]; rfl)]
  have hstep:∀ k,usedN ks (updF used j true) k=cntK k (ks.take (i + 1)):=fun k=>by
   have e1:usedN ks (updF used j true) k=usedN ks used k + if alikeK (kAt ks j) k then 1 else 0:=by
    unfold usedN
    refine filter_one (j:=j) (by rw [hb'.1]; rfl) (by rw [updF_at]; exact Bool.true_and _) (fun q hq=>by rw [updF_ne _ _ hq]) List.nodup_range (List.mem_range.2 hj)
   rw [e1,hu k,List.take_succ_eq_append_getElem hi,cntK_snoc,← hki]
   have:=alike_eq.1 hb'.2
   unfold alikeK
   rw [this.1,this.2]
  have ih:=paths_count hw d (i + 1) (updF used j true) (by omega) hstep
  have hlen:∀ W:List (List Int),(W.flatMap fun way=>(pathsL ks d (i + 1) (updF used j true)).map fun p=>((j,way) :: p:List Choice)).length=W.length * prodF (ks.drop (i + 1)):=by
   intro W
   induction W with
   | nil=>simp
   | cons w W ihW=>rw [List.flatMap_cons,List.length_append,ihW,List.length_map,ih,List.length_cons,Nat.succ_mul]; omega
  rw [hlen,hw _ (by rw [hkj]; exact List.getElem_mem _) _ (by rw [hki]; exact List.getElem_mem _) hb'.2]
theorem usedN_none (k:KindV):usedN ks (fun _=>false) k=cntK k (ks.take 0):=by
 unfold usedN cntK
 simp
theorem orderN_prod:∀ {i n:Nat},i ≤ ks.length → orderN ks i=some n → n=prodF (ks.take i)
 | 0,n,_,h=>by
  rw [orderN] at h
  injection h with h
  rw [← h]
  rfl
 | i + 1,n,hi,h=>by
  cases ho:orderN ks i with
  | none=>rw [orderN,ho] at h; cases h
  | some n0 =>
   have ih:=orderN_prod (show i ≤ ks.length by omega) ho
   have hk:ks[i]?=some ks[i]:=List.getElem?_eq_getElem (by omega)
   rw [orderN_succ ho hk] at h
   unfold timesN at h
   split at h
   · simp only [Option.bind_some] at h
     split at h
     · injection h with h
       rw [List.take_succ_eq_append_getElem (by omega),prodF_snoc,← ih,← h]
       have:likeN ks ks[i] i=1 + cntK ks[i] (ks.take i):=rfl
       rw [this,Nat.mul_assoc]
     cases h
   cases h
end
end
section
theorem len_sub {α:Type} [DecidableEq α]:∀ {A B:List α},A.Nodup → (∀ x ∈ A,x ∈ B) → A.length ≤ B.length
 | [],_,_,_=>Nat.zero_le _
 | a :: A,B,hn,h=>by
  rw [List.nodup_cons] at hn
  have hb:=h a List.mem_cons_self
  have:=len_sub (B:=B.erase a) hn.2 fun x hx=>(List.mem_erase_of_ne (fun e=>hn.1 (by rw [← e]; exact hx):x ≠ a)).2 (h x (List.mem_cons_of_mem _ hx))
  rw [List.length_erase_of_mem hb] at this
  have:=List.length_pos_of_mem hb
  rw [List.length_cons]
  omega
section
variable {m n:Nat} {T U:List Tri}
theorem conn_re (hs:SurfE m T) (h1:kN T=1) {x y:Nat} (hx:x < T.length) (hy:y < T.length):Re T x y:=by
 refine (ofN_re hs hx hy).1 ?_
 have a:=ofN_lt hx
 have b:=ofN_lt hy
 omega
theorem conn_rootO (hs:SurfE m T) (h1:kN T=1) {c:Nat} (hc:c < 3 * T.length) (v:Int):v ∈ rootO T c ↔ 0 ≤ v ∧ v < (m:Int):=by
 constructor
 · exact rootO_bd hs hc v
 rintro ⟨h0,h2⟩
 obtain ⟨t,ht,hv⟩:=hs.used v.toNat (by omega)
 obtain ⟨i,hi,rfl⟩:=tri_idx ht
 rw [Int.toNat_of_nonneg h0] at hv
 obtain ⟨r,hr,e⟩:=verts_corner.1 hv
 refine (rootO_iff hs hc v).2 ⟨3 * i + r,by omega,conn_re hs h1 (by omega) (by omega),?_⟩
 rw [cv_ct,show (3 * i + r) / 3=i by omega,show (3 * i + r) % 3=r by omega,e]
theorem nodup_full {L:List Int} (hn:L.Nodup) (h:∀ v,v ∈ L ↔ 0 ≤ v ∧ v < (m:Int)):L.length=m:=by
 have h1:(L.map Int.toNat).Nodup:=nodup_mapI (fun a ha b hb e=>by
  have:=(h a).1 ha
  have:=(h b).1 hb
  omega) hn
 have h2:=nodup_leN m h1 fun x hx=>by
  obtain ⟨v,hv,rfl⟩:=List.mem_map.1 hx
  have:=(h v).1 hv
  omega
 rw [List.length_map] at h2
 have h3:(List.range m).length ≤ L.length:=by
  have hs:∀ x ∈ (List.range m).map (fun (x:Nat)=>(x:Int)),x ∈ L:=fun x hx=>by
   obtain ⟨k,hk,rfl⟩:=List.mem_map.1 hx
   exact (h _).2 ⟨by omega,by have:=List.mem_range.1 hk; omega⟩
  have hnd:((List.range m).map (fun (x:Nat)=>(x:Int))).Nodup:=nodup_mapI (fun a _ b _ e=>by omega) List.nodup_range
  have:=len_sub hnd hs
  rwa [List.length_map] at this
 rw [List.length_range] at h3
 omega
theorem conn_len (hs:SurfE m T) (h1:kN T=1) {c:Nat} (hc:c < 3 * T.length):(rootO T c).length=m:=nodup_full (oldC_nd _) fun v=>conn_rootO hs h1 hc v
theorem conn_tri (hs:SurfE m T) (h1:kN T=1) {c:Nat} (hc:c < 3 * T.length):(rootC T c).length=T.length:=by
 have h2:=(rootC_fi hc).short
 have h3:(List.range T.length).length ≤ ((rootC T c).map (· / 3)).length:=by
  refine len_sub List.nodup_range fun x hx=>?_
  exact (rootC_re hs hc x).2 (conn_re hs h1 (by omega) (List.mem_range.1 hx))
 rw [List.length_range,List.length_map] at h3
 omega
def goesL (T U:List Tri) (m c d:Nat):List Int:=(List.range m).map fun (v:Nat)=>goesTo T U c d (v:Int)
theorem goesL_at {c d:Nat} {v:Int} (h:0 ≤ v ∧ v < (m:Int)):gS (goesL T U m c d) v=goesTo T U c d v:=by
 unfold gS goesL
 rw [List.getD_eq_getElem?_getD,List.getElem?_map,List.getElem?_range (show v.toNat < m by omega)]
 simp only [Option.map_some,Option.getD_some]
 rw [Int.toNat_of_nonneg h.1]
theorem conn_iso (hs:SurfE m T) (h1:kN T=1) (hu:SurfE n U) (h2:kN U=1) {c d:Nat} (hc:c < 3 * T.length) (hd:d < 3 * U.length) (h:rowC T c=rowC U d):m=n ∧ T.length=U.length ∧ IsoL m T U (goesL T U m c d):=by
 obtain ⟨e1,e2⟩:=rowC_eq.1 h
 have hmn:m=n:=by rw [← conn_len hs h1 hc,e1,conn_len hu h2 hd]
 have hl:T.length=U.length:=by rw [← conn_tri hs h1 hc,← rootT_len,e2,rootT_len,conn_tri hu h2 hd]
 refine ⟨hmn,hl,⟨by simp [goesL],?_,fun v hv=>?_,fun x hx=>?_⟩⟩
 · unfold goesL
   refine nodup_mapI (fun a ha b hb e=>?_) List.nodup_range
   have ha:=(conn_rootO hs h1 hc (a:Int)).2 ⟨by omega,by have:=List.mem_range.1 ha; omega⟩
   have hb:=(conn_rootO hs h1 hc (b:Int)).2 ⟨by omega,by have:=List.mem_range.1 hb; omega⟩
   have la:=List.idxOf_lt_length_iff.2 ha
   have lb:=List.idxOf_lt_length_iff.2 hb
   unfold goesTo at e
   rw [List.getD_eq_getElem?_getD,List.getD_eq_getElem?_getD,List.getElem?_eq_getElem (show _ < (rootO U d).length by omega),List.getElem?_eq_getElem (show _ < (rootO U d).length by omega)] at e
   simp only [Option.getD_some] at e
   have:=nodup_at (oldC_nd _) _ _ e
   have e3:=getD_idxOf ha
   rw [this,getD_idxOf hb] at e3
   omega
 · unfold goesL at hv
   obtain ⟨k,hk,rfl⟩:=List.mem_map.1 hv
   have ha:=(conn_rootO hs h1 hc (k:Int)).2 ⟨by omega,by have:=List.mem_range.1 hk; omega⟩
   have la:=List.idxOf_lt_length_iff.2 ha
   have:goesTo T U c d (k:Int) ∈ rootO U d:=by
    unfold goesTo
    rw [List.getD_eq_getElem?_getD,List.getElem?_eq_getElem (show _ < (rootO U d).length by omega),Option.getD_some]
    exact List.getElem_mem _
   rw [hmn]
   exact (conn_rootO hu h2 hd _).1 this
 obtain ⟨y,hy,_,g1,g2,g3⟩:=shape_tri hs hu hc hd e2 hx (conn_re hs h1 (by omega) (by omega))
 refine ⟨y,hy,?_,?_,?_⟩
 · rw [g1,goesL_at (cv_bd hs hx)]
 · rw [g2,goesL_at (cv_bd hs (nxc_lt hx))]
 rw [g3,goesL_at (cv_bd hs (pvc_lt hx))]
theorem good_iff {P:List Tri} {b c:Nat}:goodC P ((rootO P b).length:Int) (rootT P b) c=true ↔ rowC P c=rowC P b:=by
 unfold goodC
 rw [decide_eq_true_iff,rowC_eq]
 constructor
 · rintro ⟨a,b⟩; exact ⟨by omega,b⟩
 rintro ⟨a,b⟩; exact ⟨by omega,b⟩
theorem ways_le (hs:SurfE m T) {i j:Nat} (hi:i < kN T) (hj:j < kN T) (h:alikeK (kindV (partOf T i)) (kindV (partOf T j))=true):(kindV (partOf T i)).ws.length ≤ (kindV (partOf T j)).ws.length:=by
 obtain ⟨e1,e2⟩:=alike_eq.1 h
 have si:=(part_sub hs i).surf
 have sj:=(part_sub hs j).surf
 rw [← part_t] at si sj
 have ci:=part_conn hs hi
 have cj:=part_conn hs hj
 have bi:=(bestN_is (T:=(partOf T i).t) (k:=0) (by rw [ci]; omega)).2.lt
 have bj:=(bestN_is (T:=(partOf T j).t) (k:=0) (by rw [cj]; omega)).2.lt
 have hrow:rowC (partOf T i).t (bestN (partOf T i).t 0)=rowC (partOf T j).t (bestN (partOf T j).t 0):=by
  rw [rowC_eq]
  unfold kindV at e1 e2
  dsimp only at e1 e2
  exact ⟨by omega,e2⟩
 obtain ⟨hm,hl,hiso⟩:=conn_iso si ci sj cj bi bj hrow
 rw [← hm] at sj
 obtain ⟨f,hf,_,_⟩:=hiso.emb si sj hl
 unfold kindV waysTo
 dsimp only
 rw [List.length_map,List.length_map]
 have hsub:∀ x ∈ ((List.range (3 * (partOf T i).t.length)).filter (goodC (partOf T i).t (rootO (partOf T i).t (bestN (partOf T i).t 0)).length (rootT (partOf T i).t (bestN (partOf T i).t 0)))).map f,x ∈ (List.range (3 * (partOf T j).t.length)).filter (goodC (partOf T j).t (rootO (partOf T j).t (bestN (partOf T j).t 0)).length (rootT (partOf T j).t (bestN (partOf T j).t 0))):=fun x hx=>by
  obtain ⟨c,hc,rfl⟩:=List.mem_map.1 hx
  obtain ⟨hc,hg⟩:=List.mem_filter.1 hc
  have hc:=List.mem_range.1 hc
  refine List.mem_filter.2 ⟨List.mem_range.2 (hf.lt c hc),good_iff.2 ?_⟩
  rw [hf.rowC hc,good_iff.1 hg,hrow]
 have hnd:(((List.range (3 * (partOf T i).t.length)).filter (goodC (partOf T i).t (rootO (partOf T i).t (bestN (partOf T i).t 0)).length (rootT (partOf T i).t (bestN (partOf T i).t 0)))).map f).Nodup :=
  nodup_mapI (fun a ha b hb e=>hf.inj a b (List.mem_range.1 (List.mem_filter.1 ha).1) (List.mem_range.1 (List.mem_filter.1 hb).1) e) (List.Pairwise.filter _ List.nodup_range)
 have:=len_sub hnd hsub
 rw [List.length_map] at this
 exact this
theorem ways_same (hs:SurfE m T):∀ a ∈ kindsL T (kN T),∀ b ∈ kindsL T (kN T),alikeK a b=true → a.ws.length=b.ws.length:=fun a ha b hb h=>by
 obtain ⟨i,hi,rfl⟩:=kinds_mem.1 ha
 obtain ⟨j,hj,rfl⟩:=kinds_mem.1 hb
 exact Nat.le_antisymm (ways_le hs hi hj h) (ways_le hs hj hi (alike_eq.2 ⟨(alike_eq.1 h).1.symm,(alike_eq.1 h).2.symm⟩))
theorem allR_len (hs:SurfE m T) {o:Nat} (h:orderN (kindsL T (kN T)) (kN T)=some o):(allR m T).length=o:=by
 have hl:=kindsL_len T (kN T)
 obtain ⟨ts,e,_⟩:=goR_paths (ks:=kindsL T (kN T)) (kN T) 0 (fun _=>false) (by omega) [] (List.replicate m 0)
 have hp:=orderN_prod (ks:=kindsL T (kN T)) (by omega) h
 rw [show (kindsL T (kN T)).take (kN T)=kindsL T (kN T) from List.take_of_length_le (by omega)] at hp
 unfold allR
 rw [e]
 simp only [List.nil_append,List.length_map]
 rw [paths_count (ways_same hs) (kN T) 0 (fun _=>false) (by omega) (fun k=>usedN_none k),hp]
 rfl
end
end
section
section
variable {m:Nat} {T:List Tri}
theorem vertex_shell (hs:SurfE m T) {x y:Nat} (hx:x < 3 * T.length) (hy:y < 3 * T.length) (h:cv T x=cv T y):Re T (x / 3) (y / 3):=by
 have hb:=cv_bd hs hx
 have hvx:cv T x ∈ verts (tri T (x / 3)):=verts_corner.2 ⟨x % 3,Nat.mod_lt _ (by decide),rfl⟩
 have hvy:cv T x ∈ verts (tri T (y / 3)):=by rw [h]; exact verts_corner.2 ⟨y % 3,Nat.mod_lt _ (by decide),rfl⟩
 have hc:=hs.con (cv T x).toNat (by omega) (tri T (x / 3)) (tri T (y / 3)) (tri_mem (by omega)) (by rw [Int.toNat_of_nonneg hb.1]; exact hvx) (tri_mem (by omega)) (by rw [Int.toNat_of_nonneg hb.1]; exact hvy)
 rw [Int.toNat_of_nonneg hb.1] at hc
 have hne:∀ i j,i < T.length → j < T.length → tri T i=tri T j → i=j:=fun i j hi hj e=>by
  have e1:=ct_edge (tri T i) (r:=0) (by decide)
  have e2:=ct_edge (tri T j) (r:=0) (by decide)
  have:=ce_inj hs (c:=3 * i) (d:=3 * j) (by omega) (by omega) (by rw [ce_ct,ce_ct,show 3 * i / 3=i by omega,show 3 * j / 3=j by omega,e,show 3 * i % 3=0 by omega,show 3 * j % 3=0 by omega])
  omega
 obtain ⟨k,hk,e,hr⟩:=hc (fun t=>∃ k,k < T.length ∧ tri T k=t ∧ Re T (x / 3) k) ⟨x / 3,by omega,rfl,.refl _⟩ (by
  rintro t u ⟨k,hk,rfl,hr⟩ ⟨⟨_,h1⟩,⟨hu,h2⟩,w,hw,h3,h4⟩
  obtain ⟨j,hj,rfl⟩:=tri_idx hu
  by_cases e:k=j
  · exact ⟨j,hj,rfl,e ▸ hr⟩
  exact ⟨j,hj,rfl,hr.step (nbr_adj hs hk hj e hw h1 h3 h2 h4)⟩)
 rw [← hne k (y / 3) hk (by omega) e]
 exact hr
theorem setW_at {V way ts:List Int} (hn:V.Nodup) (h0:∀ v ∈ V,0 ≤ v) {k:Nat}:∀ n,n ≤ V.length → k < n → (V.getD k 0).toNat < ts.length → (setW V way n ts).getD (V.getD k 0).toNat 0=way.getD k 0
 | 0,_,hk,_=>by omega
 | n + 1,hl,hk,ht=>by
  rw [setW,getD_setN,setW_len]
  have e1:V.getD n 0=V[n]:=by rw [List.getD_eq_getElem?_getD,List.getElem?_eq_getElem (by omega)]; rfl
  have e2:V.getD k 0=V[k]:=by rw [List.getD_eq_getElem?_getD,List.getElem?_eq_getElem (by omega)]; rfl
  by_cases e:n=k
  · subst e
    rw [if_pos ⟨rfl,ht⟩]
  rw [if_neg,setW_at hn h0 n (by omega) (by omega) ht]
  rintro ⟨e3,_⟩
  rw [e1,e2] at e3
  have a:=h0 _ (List.getElem_mem (show n < V.length by omega))
  have b:=h0 _ (List.getElem_mem (show k < V.length by omega))
  exact e (nodup_at hn (by omega) (by omega) (by omega))
theorem apply_len {ks:List KindV}:∀ (p:List Choice) (i:Nat) (ts:List Int),(applyP ks i p ts).length=ts.length
 | [],_,_=>rfl
 | (_,w) :: p,i,ts=>by rw [applyP,apply_len p,setW_len]
structure Apart (ks:List KindV) (m:Nat):Prop where
 nd:∀ i,i < ks.length → (plW ks i).Nodup
 bd:∀ i,i < ks.length → ∀ v ∈ plW ks i,0 ≤ v ∧ v < (m:Int)
 ap:∀ i j,i < ks.length → j < ks.length → i ≠ j → ∀ v ∈ plW ks i,v ∉ plW ks j
theorem apply_off {ks:List KindV} {m:Nat} (h:Apart ks m) {v:Int} (hv:0 ≤ v):∀ (p:List Choice) (i:Nat) (ts:List Int),i + p.length ≤ ks.length → (∀ j,i ≤ j → j < ks.length → v ∉ plW ks j) → (applyP ks i p ts).getD v.toNat 0=ts.getD v.toNat 0
 | [],_,_,_,_=>rfl
 | (_,w) :: p,i,ts,hl,hno=>by
  rw [List.length_cons] at hl
  rw [applyP,apply_off h hv p (i + 1) _ (by omega) fun j hj=>hno j (by omega)]
  refine setW_off _ (Nat.le_refl _) fun u hu e=>hno i (Nat.le_refl _) (by omega) ?_
  have:=(h.bd i (by omega) u hu).1
  rw [show v=u by omega]
  exact hu
theorem apply_at {ks:List KindV} {m:Nat} (h:Apart ks m) {i' k:Nat}:∀ (p:List Choice) (i:Nat) (ts:List Int),ts.length=m → i + p.length ≤ ks.length → i ≤ i' → i' < i + p.length → k < (plW ks i').length →
  (applyP ks i p ts).getD ((plW ks i').getD k 0).toNat 0=((p.getD (i' - i) (0,[])).2).getD k 0
 | [],i,ts,_,_,h1,h2,_=>by simp at h2; omega
 | (j,w) :: p,i,ts,ht,hl,h1,h2,hk=>by
  rw [List.length_cons] at hl h2
  have hm:(plW ks i').getD k 0 ∈ plW ks i':=by rw [List.getD_eq_getElem?_getD,List.getElem?_eq_getElem hk]; exact List.getElem_mem _
  have hb:=h.bd i' (by omega) _ hm
  rw [applyP]
  rcases Nat.eq_or_lt_of_le h1 with e | h1
  · subst e
    rw [apply_off h hb.1 p (i + 1) _ (by omega) fun j' hj hj'=>h.ap i j' (by omega) hj' (by omega) _ hm]
    rw [setW_at (h.nd i (by omega)) (fun v hv=>(h.bd i (by omega) v hv).1) _ (Nat.le_refl _) hk (by rw [ht]; omega)]
    simp
  rw [apply_at h p (i + 1) _ (by rw [setW_len]; exact ht) (by omega) (by omega) (by omega) hk]
  rw [show i' - i=(i' - (i + 1)) + 1 by omega]
  rfl
theorem kAt_kinds {i K:Nat} (hi:i < K):kAt (kindsL T K) i=kindV (partOf T i):=by
 refine kAt_some ?_
 unfold kindsL
 rw [List.getElem?_map,List.getElem?_range hi]
 rfl
theorem plW_is (hs:SurfE m T) {i:Nat} (hi:i < kN T):∃ a,Good T i a ∧ plW (kindsL T (kN T)) i=rootO T a:=by
 unfold plW
 rw [kAt_kinds hi]
 have hp:=ways_pos hs hi
 have hm:(kindV (partOf T i)).ws.getD 0 [] ∈ (kindV (partOf T i)).ws:=by
  cases h:(kindV (partOf T i)).ws with
  | nil=>exact absurd h hp
  | cons x l=>exact List.mem_cons_self
 exact (mem_ways hs hi).1 hm
theorem rootO_apart (hs:SurfE m T) {c d:Nat} (hc:c < 3 * T.length) (hd:d < 3 * T.length) (hne:ofN T (c / 3) ≠ ofN T (d / 3)):∀ v ∈ rootO T c,v ∉ rootO T d:=fun v h1 h2=>by
 obtain ⟨x,hx,rx,rfl⟩:=(rootO_iff hs hc v).1 h1
 obtain ⟨y,hy,ry,e⟩:=(rootO_iff hs hd _).1 h2
 have:=vertex_shell hs hx hy e.symm
 exact hne ((ofN_re hs (by omega) (by omega)).2 ((rx.trans this).trans (ry.symm hs)))
theorem apart_kinds (hs:SurfE m T):Apart (kindsL T (kN T)) m:=by
 have hl:=kindsL_len T (kN T)
 refine ⟨fun i hi=>?_,fun i hi v hv=>?_,fun i j hi hj hij v h1 h2=>?_⟩
 · obtain ⟨a,_,e⟩:=plW_is hs (i:=i) (by omega)
   rw [e]
   exact oldC_nd _
 · obtain ⟨a,ha,e⟩:=plW_is hs (i:=i) (by omega)
   rw [e] at hv
   exact rootO_bd hs ha.1 v hv
 obtain ⟨a,ha,e⟩:=plW_is hs (i:=i) (by omega)
 obtain ⟨b,hb,e'⟩:=plW_is hs (i:=j) (by omega)
 rw [e] at h1
 rw [e'] at h2
 exact rootO_apart hs ha.1 hb.1 (by rw [ha.2.1,hb.2.1]; exact hij) v h1 h2
theorem path_at {ks:List KindV}:∀ {d i:Nat} {used:Nat → Bool} {p:List Choice},p ∈ pathsL ks d i used → ∀ n,n < d → (p.getD n (0,[])).1 < ks.length ∧ used (p.getD n (0,[])).1=false ∧ alikeK (kAt ks (p.getD n (0,[])).1) (kAt ks (i + n))=true ∧ (p.getD n (0,[])).2 ∈ (kAt ks (p.getD n (0,[])).1).ws
 | 0,_,_,_,_,n,hn=>by omega
 | d + 1,i,used,p,h,n,hn=>by
  obtain ⟨j,w,p',rfl⟩:=paths_cons h
  obtain ⟨h1,h2,h3,h4,h5⟩:=mem_paths.1 h
  cases n with
  | zero=>exact ⟨h1,h2,h3,h4⟩
  | succ n =>
   obtain ⟨g1,g2,g3,g4⟩:=path_at h5 n (by omega)
   rw [show i + 1 + n=i + (n + 1) by omega] at g3
   refine ⟨g1,?_,g3,g4⟩
   show used (p'.getD n (0,[])).1=false
   by_cases e:(p'.getD n (0,[])).1=j
   · rw [e]; exact h2
   rw [updF_ne _ _ e] at g2
   exact g2
theorem path_ne {ks:List KindV}:∀ {d i:Nat} {used:Nat → Bool} {p:List Choice},p ∈ pathsL ks d i used → ∀ n n',n < n' → n' < d → (p.getD n (0,[])).1 ≠ (p.getD n' (0,[])).1
 | 0,_,_,_,_,n,n',hn,hn'=>by omega
 | d + 1,i,used,p,h,n,n',hn,hn'=>by
  obtain ⟨j,w,p',rfl⟩:=paths_cons h
  obtain ⟨h1,h2,h3,h4,h5⟩:=mem_paths.1 h
  obtain ⟨q,rfl⟩:∃ q,n'=q + 1:=⟨n' - 1,by omega⟩
  cases n with
  | zero =>
   intro e
   have g2:=(path_at h5 q (by omega)).2.1
   change j=(p'.getD q (0,[])).1 at e
   rw [← e,updF_at] at g2
   cases g2
  | succ n=>exact path_ne h5 n q (by omega) (by omega)
theorem row_shell (hs:SurfE m T) {p:List Choice} (hp:p ∈ pathsL (kindsL T (kN T)) (kN T) 0 (fun _=>false)) {i:Nat} (hi:i < kN T) :
  ∃ a d,Good T i a ∧ Good T (p.getD i (0,[])).1 d ∧ (p.getD i (0,[])).2=rootO T d ∧ plW (kindsL T (kN T)) i=rootO T a ∧ rowC T a=rowC T d ∧ ∀ v ∈ rootO T a,gS (applyP (kindsL T (kN T)) 0 p (List.replicate m 0)) v=goesTo T T a d v:=by
 have hl:=kindsL_len T (kN T)
 have hpl:=paths_len hp
 obtain ⟨g1,_,g3,g4⟩:=path_at hp i hi
 rw [hl] at g1
 rw [Nat.zero_add,kAt_kinds g1,kAt_kinds hi] at g3
 rw [kAt_kinds g1] at g4
 obtain ⟨a,ha,ea⟩:=plW_is hs hi
 obtain ⟨d,hd,ed⟩:=(mem_ways hs g1).1 g4
 have hrow:rowC T a=rowC T d:=by
  rw [ha.2.2,hd.2.2,rowC_eq]
  obtain ⟨e1,e2⟩:=alike_eq.1 g3
  rw [(kind_form hs g1).1,(kind_form hs hi).1] at e1
  rw [(kind_form hs g1).2,(kind_form hs hi).2] at e2
  exact ⟨by omega,e2.symm⟩
 refine ⟨a,d,ha,hd,ed,ea,hrow,fun v hv=>?_⟩
 have hk:=List.idxOf_lt_length_iff.2 hv
 have:=apply_at (apart_kinds hs) (i':=i) (k:=(rootO T a).idxOf v) p 0 (List.replicate m 0) (by simp) (by omega) (Nat.zero_le _) (by omega) (by rw [ea]; exact hk)
 rw [ea,getD_idxOf hv,Nat.sub_zero,ed] at this
 exact this
theorem vertex_at (hs:SurfE m T) {v:Int} (hv:0 ≤ v ∧ v < (m:Int)):∃ x,x < 3 * T.length ∧ cv T x=v:=by
 obtain ⟨t,ht,h⟩:=hs.used v.toNat (by omega)
 obtain ⟨i,hi,rfl⟩:=tri_idx ht
 rw [Int.toNat_of_nonneg hv.1] at h
 obtain ⟨r,hr,e⟩:=verts_corner.1 h
 exact ⟨3 * i + r,by omega,by rw [cv_ct,show (3 * i + r) / 3=i by omega,show (3 * i + r) % 3=r by omega,e]⟩
theorem goesTo_mem {U:List Tri} {c d:Nat} (hl:(rootO T c).length=(rootO U d).length) {v:Int} (hv:v ∈ rootO T c):goesTo T U c d v ∈ rootO U d:=by
 unfold goesTo
 rw [List.getD_eq_getElem?_getD,List.getElem?_eq_getElem (by rw [← hl]; exact List.idxOf_lt_length_iff.2 hv),Option.getD_some]
 exact List.getElem_mem _
theorem goesTo_inj {U:List Tri} {c d:Nat} (hl:(rootO T c).length=(rootO U d).length) {v w:Int} (hv:v ∈ rootO T c) (hw:w ∈ rootO T c) (e:goesTo T U c d v=goesTo T U c d w):v=w:=by
 have la:=List.idxOf_lt_length_iff.2 hv
 have lb:=List.idxOf_lt_length_iff.2 hw
 unfold goesTo at e
 rw [List.getD_eq_getElem?_getD,List.getD_eq_getElem?_getD,List.getElem?_eq_getElem (show _ < (rootO U d).length by omega),List.getElem?_eq_getElem (show _ < (rootO U d).length by omega)] at e
 simp only [Option.getD_some] at e
 have:=nodup_at (oldC_nd _) _ _ e
 rw [← getD_idxOf hv,this,getD_idxOf hw]
theorem row_iso (hs:SurfE m T) {p:List Choice} (hp:p ∈ pathsL (kindsL T (kN T)) (kN T) 0 (fun _=>false)):IsoL m T T (applyP (kindsL T (kN T)) 0 p (List.replicate m 0)):=by
 obtain ⟨r,hr⟩:=jX (applyP (kindsL T (kN T)) 0 p (List.replicate m 0))
 have hrl:r.length=m:=by rw [hr,apply_len]; simp
 have key:∀ x,x < 3 * T.length → ∃ i a d,i < kN T ∧ i=ofN T (x / 3) ∧ Good T i a ∧ Good T (p.getD i (0,[])).1 d ∧ rowC T a=rowC T d ∧ cv T x ∈ rootO T a ∧ Re T (a / 3) (x / 3) ∧ ∀ v ∈ rootO T a,gS r v=goesTo T T a d v:=fun x hx=>by
  obtain ⟨a,d,h1,h2,_,_,h5,h6⟩:=row_shell hs hp (i:=ofN T (x / 3)) (ofN_lt (by omega))
  have hre:Re T (a / 3) (x / 3):=(ofN_re hs (by have:=h1.1; omega) (by omega)).1 h1.2.1
  exact ⟨_,a,d,ofN_lt (by omega),rfl,h1,h2,h5,(rootO_iff hs h1.1 _).2 ⟨x,hx,hre,rfl⟩,hre,by rw [hr]; exact h6⟩
 rw [← hr]
 refine ⟨hrl,?_,fun v hv=>?_,fun x hx=>?_⟩
 · unfold List.Nodup
   rw [List.pairwise_iff_getElem]
   intro q q' hq hq' hqq e
   obtain ⟨x,hx,ex⟩:=vertex_at hs (v:=(q:Int)) ⟨by omega,by omega⟩
   obtain ⟨y,hy,ey⟩:=vertex_at hs (v:=(q':Int)) ⟨by omega,by omega⟩
   obtain ⟨i,a,d,hi,ei,ga,gd,hrow,hm,hre,hv⟩:=key x hx
   obtain ⟨i',a',d',hi',ei',ga',gd',hrow',hm',hre',hv'⟩:=key y hy
   rw [ex] at hm
   rw [ey] at hm'
   have v1:=hv _ hm
   have v2:=hv' _ hm'
   have gq:gS r (q:Int)=r[q]:=by unfold gS; rw [Int.toNat_natCast,List.getD_eq_getElem?_getD,List.getElem?_eq_getElem hq]; rfl
   have gq':gS r (q':Int)=r[q']:=by unfold gS; rw [Int.toNat_natCast,List.getD_eq_getElem?_getD,List.getElem?_eq_getElem hq']; rfl
   rw [gq] at v1
   rw [gq'] at v2
   by_cases hii:i=i'
   · subst hii
     obtain ⟨a2,d2,b1,b2,b3,b4,b5,b6⟩:=row_shell hs hp hi
     have hma:∀ {z:Nat} {w:Int},Good T i z → w ∈ rootO T z → w ∈ rootO T a2:=fun {z w} hz hw=>by
      obtain ⟨u,hu,ru,rfl⟩:=(rootO_iff hs hz.1 _).1 hw
      refine (rootO_iff hs b1.1 _).2 ⟨u,hu,?_,rfl⟩
      exact ((ofN_re hs (by have:=b1.1; omega) (by have:=hz.1; omega)).1 (by rw [b1.2.1,hz.2.1])).trans ru
     have w1:=b6 _ (hma ga hm)
     have w2:=b6 _ (hma ga' hm')
     rw [← hr,gq] at w1
     rw [← hr,gq'] at w2
     have:=goesTo_inj (rowC_eq.1 b5).1 (hma ga hm) (hma ga' hm') (by rw [← w1,← w2,e])
     omega
   have n1:=goesTo_mem (rowC_eq.1 hrow).1 hm
   have n2:=goesTo_mem (rowC_eq.1 hrow').1 hm'
   rw [← v1,e,v2] at n1
   have hne:(p.getD i (0,[])).1 ≠ (p.getD i' (0,[])).1:=by
    rcases Nat.lt_or_gt_of_ne hii with h | h
    · exact path_ne hp i i' h hi'
    exact (path_ne hp i' i h hi).symm
   exact rootO_apart hs gd.1 gd'.1 (by rw [gd.2.1,gd'.2.1]; exact hne) _ n1 n2
 · obtain ⟨q,hq,e⟩:=List.getElem_of_mem hv
   obtain ⟨x,hx,ex⟩:=vertex_at hs (v:=(q:Int)) ⟨by omega,by omega⟩
   obtain ⟨i,a,d,hi,ei,ga,gd,hrow,hm,hre,hv'⟩:=key x hx
   rw [ex] at hm
   have v1:=hv' _ hm
   have gq:gS r (q:Int)=r[q]:=by unfold gS; rw [Int.toNat_natCast,List.getD_eq_getElem?_getD,List.getElem?_eq_getElem hq]; rfl
   rw [gq,e] at v1
   rw [v1]
   exact rootO_bd hs gd.1 _ (goesTo_mem (rowC_eq.1 hrow).1 hm)
 obtain ⟨i,a,d,hi,ei,ga,gd,hrow,hm,hre,hv⟩:=key x hx
 obtain ⟨y,hy,_,g1,g2,g3⟩:=shape_tri hs hs ga.1 gd.1 (rowC_eq.1 hrow).2 hx hre
 refine ⟨y,hy,?_,?_,?_⟩
 · rw [g1,hv _ hm]
 · rw [g2,hv _ ((rootO_iff hs ga.1 _).2 ⟨nxc x,nxc_lt hx,by rw [nxc_div]; exact hre,rfl⟩)]
 rw [g3,hv _ ((rootO_iff hs ga.1 _).2 ⟨pvc x,pvc_lt hx,by rw [pvc_div]; exact hre,rfl⟩)]
end
end
section
section
variable {m:Nat} {T:List Tri}
theorem path_mk {ks:List KindV}:∀ {d i:Nat} {used:Nat → Bool} {p:List Choice},p.length=d → (∀ n,n < d → (p.getD n (0,[])).1 < ks.length ∧ used (p.getD n (0,[])).1=false ∧ alikeK (kAt ks (p.getD n (0,[])).1) (kAt ks (i + n))=true ∧ (p.getD n (0,[])).2 ∈ (kAt ks (p.getD n (0,[])).1).ws) →
  (∀ n n',n < n' → n' < d → (p.getD n (0,[])).1 ≠ (p.getD n' (0,[])).1) → p ∈ pathsL ks d i used
 | 0,i,used,p,hl,_,_=>by
  have:p=[]:=List.eq_nil_of_length_eq_zero hl
  rw [this,pathsL]
  exact List.mem_singleton_self _
 | d + 1,i,used,[],hl,_,_=>by simp at hl
 | d + 1,i,used,(j,w) :: p,hl,h,hne=>by
  obtain ⟨h1,h2,h3,h4⟩:=h 0 (by omega)
  refine mem_paths.2 ⟨h1,h2,h3,h4,path_mk (by simpa using hl) (fun n hn=>?_) fun n n' h1 h2=>hne (n + 1) (n' + 1) (by omega) (by omega)⟩
  obtain ⟨g1,g2,g3,g4⟩:=h (n + 1) (by omega)
  have hn0:=hne 0 (n + 1) (by omega) (by omega)
  refine ⟨g1,?_,by rw [show i + 1 + n=i + (n + 1) by omega]; exact g3,g4⟩
  have hn1:(p.getD n (0,[])).1 ≠ j:=fun e=>hn0 e.symm
  rw [updF_ne _ _ hn1]
  exact g2
theorem iso_row (hs:SurfE m T) {rn:List Int} (h:IsoL m T T rn):∃ p ∈ pathsL (kindsL T (kN T)) (kN T) 0 (fun _=>false),applyP (kindsL T (kN T)) 0 p (List.replicate m 0)=rn:=by
 obtain ⟨f,hf,hg,honto⟩:=h.emb hs hs rfl
 have hl:=kindsL_len T (kN T)
 obtain ⟨a,ha⟩:∃ a:Nat → Nat,∀ i,i < kN T → Good T i (a i) ∧ plW (kindsL T (kN T)) i=rootO T (a i):=by
  refine ⟨fun i=>if hi:i < kN T then Classical.choose (plW_is hs hi) else 0,fun i hi=>?_⟩
  dsimp only
  rw [dif_pos hi]
  exact Classical.choose_spec (plW_is hs hi)
 obtain ⟨p,hp⟩:=jX ((List.range (kN T)).map fun i=>(ofN T (f (a i) / 3),rootO T (f (a i))):List Choice)
 have hpn:∀ n,n < kN T → p.getD n (0,[])=(ofN T (f (a n) / 3),rootO T (f (a n))):=fun n hn=>by
  rw [hp,List.getD_eq_getElem?_getD,List.getElem?_map,List.getElem?_range hn]
  rfl
 have hpl:p.length=kN T:=by rw [hp]; simp
 have hmem:p ∈ pathsL (kindsL T (kN T)) (kN T) 0 (fun _=>false):=by
  refine path_mk hpl (fun n hn=>?_) fun n n' h1 h2=>?_
  · obtain ⟨b1,b2⟩:=ha n hn
    have hfa:=hf.lt _ b1.1
    have hk:ofN T (f (a n) / 3) < kN T:=ofN_lt (by omega)
    rw [hpn n hn,hl,Nat.zero_add]
    refine ⟨hk,rfl,?_,?_⟩
    · dsimp only
      rw [kAt_kinds hk,kAt_kinds hn,alike_eq,(kind_form hs hk).1,(kind_form hs hk).2,(kind_form hs hn).1,(kind_form hs hn).2]
      have e:=emb_form hf hs hs honto b1.1
      rw [b1.2.1] at e
      obtain ⟨e1,e2⟩:=rowC_eq.1 e
      exact ⟨by omega,e2.symm⟩
    dsimp only
    rw [kAt_kinds hk]
    exact (mem_ways hs hk).2 ⟨_,emb_good hf hs hs honto b1,rfl⟩
  rw [hpn n (by omega),hpn n' h2]
  intro e
  obtain ⟨b1,_⟩:=ha n (by omega)
  obtain ⟨b2,_⟩:=ha n' h2
  have l1:=hf.lt _ b1.1
  have l2:=hf.lt _ b2.1
  have hr:=(hf.re b1.1 b2.1).1 ((ofN_re hs (by omega) (by omega)).1 e)
  have:=(ofN_re hs (by have:=b1.1; omega) (by have:=b2.1; omega)).2 hr
  rw [b1.2.1,b2.2.1] at this
  omega
 refine ⟨p,hmem,?_⟩
 apply List.ext_getElem (by rw [apply_len,h.len]; simp)
 intro q h1 h2
 have hqm:q < m:=by rw [h.len] at h2; exact h2
 obtain ⟨x,hx,ex⟩:=vertex_at hs (v:=(q:Int)) ⟨by omega,by omega⟩
 have hi:ofN T (x / 3) < kN T:=ofN_lt (by omega)
 obtain ⟨b1,b2⟩:=ha _ hi
 have hre:Re T (a (ofN T (x / 3)) / 3) (x / 3):=(ofN_re hs (by have:=b1.1; omega) (by omega)).1 b1.2.1
 have hv:(q:Int) ∈ rootO T (a (ofN T (x / 3))):=(rootO_iff hs b1.1 _).2 ⟨x,hx,hre,ex⟩
 have hk:=List.idxOf_lt_length_iff.2 hv
 have:=apply_at (apart_kinds hs) (i':=ofN T (x / 3)) (k:=(rootO T (a (ofN T (x / 3)))).idxOf (q:Int)) p 0 (List.replicate m 0) (by simp) (by omega) (Nat.zero_le _) (by omega) (by rw [b2]; exact hk)
 rw [b2,getD_idxOf hv,Nat.sub_zero,hpn _ hi,Int.toNat_natCast] at this
 dsimp only at this
 rw [hf.rootO b1.1,List.getD_eq_getElem?_getD,List.getElem?_eq_getElem h1,Option.getD_some] at this
 rw [this,List.getD_eq_getElem?_getD,List.getElem?_map,List.getElem?_eq_getElem hk]
 simp only [Option.map_some,Option.getD_some]
 rw [List.getElem_idxOf]
 unfold gS
 rw [Int.toNat_natCast,List.getD_eq_getElem?_getD,List.getElem?_eq_getElem h2,Option.getD_some]
theorem row_inj (hs:SurfE m T) {p q:List Choice} (hp:p ∈ pathsL (kindsL T (kN T)) (kN T) 0 (fun _=>false)) (hq:q ∈ pathsL (kindsL T (kN T)) (kN T) 0 (fun _=>false)) (e:applyP (kindsL T (kN T)) 0 p (List.replicate m 0)=applyP (kindsL T (kN T)) 0 q (List.replicate m 0)):p=q:=by
 have l1:=paths_len hp
 have l2:=paths_len hq
 apply List.ext_getElem (by omega)
 intro i h1 h2
 have hi:i < kN T:=by omega
 obtain ⟨a,d,ga,gd,ed,ea,hrow,hv⟩:=row_shell hs hp hi
 obtain ⟨a',d',ga',gd',ed',ea',hrow',hv'⟩:=row_shell hs hq hi
 have haa:a=a':=rootO_inj hs ga.1 ga'.1 (by rw [← ea,← ea'])
 subst haa
 have g1:p.getD i (0,[])=p[i]:=by rw [List.getD_eq_getElem?_getD,List.getElem?_eq_getElem h1,Option.getD_some]
 have g2:q.getD i (0,[])=q[i]:=by rw [List.getD_eq_getElem?_getD,List.getElem?_eq_getElem h2,Option.getD_some]
 have hdd:rootO T d=rootO T d':=by
  have n1:=(rowC_eq.1 hrow).1
  have n2:=(rowC_eq.1 hrow').1
  apply List.ext_getElem (by omega)
  intro n k1 k2
  have hn:n < (rootO T a).length:=by omega
  have hm:=List.getElem_mem hn
  have w1:=hv _ hm
  have w2:=hv' _ hm
  rw [e] at w1
  rw [w1] at w2
  unfold goesTo at w2
  have hix:(rootO T a).idxOf (rootO T a)[n]=n:=(oldC_nd _).idxOf_getElem n hn
  rw [hix,List.getD_eq_getElem?_getD,List.getD_eq_getElem?_getD,List.getElem?_eq_getElem k1,List.getElem?_eq_getElem k2] at w2
  exact w2
 have hdd':=rootO_inj hs gd.1 gd'.1 hdd
 rw [← g1,← g2]
 exact Prod.ext (by rw [← gd.2.1,← gd'.2.1,hdd']) (by rw [ed,ed',hdd])
theorem allR_iff (hs:SurfE m T) (rn:List Int):rn ∈ allR m T ↔ IsoL m T T rn:=by
 have hl:=kindsL_len T (kN T)
 obtain ⟨ts,e,_⟩:=goR_paths (ks:=kindsL T (kN T)) (kN T) 0 (fun _=>false) (by omega) [] (List.replicate m 0)
 unfold allR
 rw [e]
 simp only [List.nil_append,List.mem_map]
 constructor
 · rintro ⟨p,hp,rfl⟩
   exact row_iso hs hp
 intro h
 obtain ⟨p,hp,e⟩:=iso_row hs h
 exact ⟨p,hp,e⟩
theorem allR_nd (hs:SurfE m T):(allR m T).Nodup:=by
 have hl:=kindsL_len T (kN T)
 obtain ⟨ts,e,_⟩:=goR_paths (ks:=kindsL T (kN T)) (kN T) 0 (fun _=>false) (by omega) [] (List.replicate m 0)
 unfold allR
 rw [e]
 simp only [List.nil_append]
 refine nodup_mapI (fun p hp q hq h=>row_inj hs hp hq h) (paths_nodup (fun j hj=>?_) _ _ _)
 rw [kAt_kinds (by omega)]
 exact ways_nd hs (by omega)
end
end
section
def withF (T:List Tri) (a b:Int):Option Nat:=leastF (fun i=>edgeB (tri T i) a b) 0 T.length
def hasW (T:List Tri) (a b:Int):Bool:=(withF T a b).isSome
section
variable {m n:Nat} {T U:List Tri}
theorem nxc_pvcW (c:Nat):nxc (pvc c)=c:=by unfold pvc nxc; omega
theorem ce_makeW {i r:Nat} (hr:r < 3):ce T (3 * i + r)=ct (tri T i) r:=by
 rw [ce_ct,show (3 * i + r) / 3=i by omega,show (3 * i + r) % 3=r by omega]
theorem withF_some (hs:SurfE m T) {a b:Int} {c:Nat} (hc:c < 3 * T.length) (he:ce T c=(a,b)):withF T a b=some (c / 3):=by
 refine leastF_is (Nat.zero_le _) (by omega) ?_ fun i _ hi=>?_
 · have h1:=ct_edge (tri T (c / 3)) (Nat.mod_lt c (by omega:0 < 3))
   rw [← ce_ct,he] at h1
   exact h1
 cases hx:edgeB (tri T i) a b with
 | false=>rfl
 | true =>
  obtain ⟨r,hr,e⟩:=edge_ct hx
  have h1:ce T (3 * i + r)=ce T c:=by rw [ce_makeW hr,e,he]
  have:=ce_inj hs (by omega) hc h1
  omega
theorem withF_is {a b:Int} {i:Nat} (h:withF T a b=some i):∃ c,c < 3 * T.length ∧ c / 3=i ∧ ce T c=(a,b):=by
 obtain ⟨_,h1,h2,_⟩:=leastF_some h
 obtain ⟨r,hr,e⟩:=edge_ct h2
 exact ⟨3 * i + r,by omega,by omega,by rw [ce_makeW hr,e]⟩
theorem hasW_iff (hs:SurfE m T) {a b:Int}:hasW T a b=true ↔ ∃ c,c < 3 * T.length ∧ ce T c=(a,b):=by
 unfold hasW
 rw [Option.isSome_iff_exists]
 constructor
 · rintro ⟨i,h⟩
   obtain ⟨c,h1,_,h2⟩:=withF_is h
   exact ⟨c,h1,h2⟩
 rintro ⟨c,h1,h2⟩
 exact ⟨_,withF_some hs h1 h2⟩
def isT (U:List Tri) (a b c:Int):Bool:=match withF U a b with
 | none=>false
 | some i=>decide (withF U b c=some i)
theorem cv_same (hs:SurfE m T) {x y:Nat} (hx:x < 3 * T.length) (h:x / 3=y / 3) (e:cv T x=cv T y):x=y:=by
 have h0:=tri_ok hs (show x / 3 < T.length by omega)
 have h1:=h0.ab
 have h2:=h0.bc
 have h3:=h0.ca
 unfold cv at e
 rw [← h] at e
 have hr:=Nat.mod_lt x (show 0 < 3 by omega)
 have hq:=Nat.mod_lt y (show 0 < 3 by omega)
 have hm:3 * (x / 3) + x % 3=x:=by omega
 have hm':3 * (x / 3) + y % 3=y:=by omega
 generalize x % 3=r at *
 generalize y % 3=s at *
 generalize x / 3=q at *
 generalize tri T q=t at *
 have key:r=s:=by
  rcases (by omega:r=0 ∨ r=1 ∨ r=2) with rfl | rfl | rfl <;> rcases (by omega:s=0 ∨ s=1 ∨ s=2) with rfl | rfl | rfl <;> first | rfl | (exfalso; simp [cornerT] at e; first | exact h1 e | exact h1 e.symm | exact h2 e | exact h2 e.symm | exact h3 e | exact h3 e.symm)
 omega
theorem isT_iff (hs:SurfE m U) {a b c:Int}:isT U a b c=true ↔ ∃ y,y < 3 * U.length ∧ cv U y=a ∧ cv U (nxc y)=b ∧ cv U (pvc y)=c:=by
 constructor
 · intro h
   unfold isT at h
   split at h
   · cases h
   rename_i i hi
   rw [decide_eq_true_iff] at h
   obtain ⟨p,hp,hpi,hpe⟩:=withF_is hi
   obtain ⟨q,hq,hqi,hqe⟩:=withF_is h
   unfold ce at hpe hqe
   injection hpe with p1 p2
   injection hqe with q1 q2
   have h1:nxc q=pvc p:=cv_same hs (nxc_lt hq) (by unfold nxc pvc; omega) (by rw [q1,p2])
   refine ⟨nxc p,nxc_lt hp,p1,?_,?_⟩
   · rw [nxc_nxc]; exact p2
   rw [← q2]
   congr 1
   unfold nxc pvc at *
   omega
 rintro ⟨y,hy,rfl,rfl,rfl⟩
 unfold isT
 have h1:ce U (pvc y)=(cv U y,cv U (nxc y)):=by unfold ce; rw [nxc_pvcW,pvc_pvc]
 have h2:ce U y=(cv U (nxc y),cv U (pvc y)):=rfl
 rw [withF_some hs (pvc_lt hy) h1,withF_some hs hy h2]
 dsimp only
 rw [decide_eq_true_iff]
 congr 1
 unfold pvc
 omega
end
end
section
def pairFit (T U:List Tri) (to':List Int) (v:Nat) (w:Int) (u:Nat):Bool :=
 !(decide (to'.getD u 0=w)) && (hasW T u v == hasW U (to'.getD u 0) w) && (hasW T v u == hasW U w (to'.getD u 0))
def goX (to':List Int) (v:Nat) (w z:Int):Int:=if z < (v:Int) then to'.getD z.toNat 0 else w
def triOff (v:Nat) (t:Tri):Bool:=decide ((v:Int) < t.a ∨ (v:Int) < t.b ∨ (v:Int) < t.c ∨ (t.a ≠ (v:Int) ∧ t.b ≠ (v:Int) ∧ t.c ≠ (v:Int)))
def triFit (U:List Tri) (to':List Int) (v:Nat) (w:Int) (t:Tri):Bool :=
 triOff v t || isT U (goX to' v w t.a) (goX to' v w t.b) (goX to' v w t.c)
def fitsR (T U:List Tri) (to':List Int) (w:Int):Bool :=
 (List.range to'.length).all (pairFit T U to' to'.length w) && T.all (triFit U to' to'.length w)
def extR (T U:List Tri) (m:Nat):Nat → List Int → List (List Int)
 | 0,to'=>[to']
 | d + 1,to'=>(List.range m).flatMap fun (w:Nat)=>if fitsR T U to' (w:Int) then extR T U m d (to' ++ [(w:Int)]) else []
section
variable {m n:Nat} {T U:List Tri}
theorem ext_mem:∀ {d:Nat} {to' rn:List Int},rn ∈ extR T U m d to' ↔ (rn.length=to'.length + d ∧ rn.take to'.length=to' ∧ ∀ k,to'.length ≤ k → k < to'.length + d → ∃ w:Nat,w < m ∧ rn.getD k 0=(w:Int) ∧ fitsR T U (rn.take k) (w:Int)=true)
 | 0,to',rn=>by
  rw [extR,List.mem_singleton]
  constructor
  · rintro rfl
    exact ⟨rfl,List.take_length,fun k h1 h2=>by omega⟩
  rintro ⟨h1,h2,_⟩
  rw [← h2]
  exact (List.take_of_length_le (by omega)).symm
 | d + 1,to',rn=>by
  rw [extR,List.mem_flatMap]
  constructor
  · rintro ⟨w,hw,h⟩
    rw [List.mem_range] at hw
    split at h
    · rename_i hf
      obtain ⟨h1,h2,h3⟩:=ext_mem.1 h
      rw [List.length_append,List.length_singleton] at h1 h2 h3
      have h4:rn.take to'.length=to':=by
       have:=congrArg (List.take to'.length) h2
       rw [List.take_take,Nat.min_eq_left (by omega),List.take_append_of_le_length (Nat.le_refl _),List.take_length] at this
       exact this
      refine ⟨by omega,h4,fun k hk1 hk2=>?_⟩
      by_cases e:k=to'.length
      · subst e
        refine ⟨w,hw,?_,by rw [h4]; exact hf⟩
        have h5:(rn.take (to'.length + 1)).getD to'.length 0=(w:Int):=by rw [h2]; simp
        rw [List.getD_eq_getElem?_getD,List.getElem?_take_of_lt (by omega)] at h5
        exact h5
      exact h3 k (by omega) (by omega)
    cases h
  rintro ⟨h1,h2,h3⟩
  obtain ⟨w,hw,hr,hf⟩:=h3 to'.length (Nat.le_refl _) (by omega)
  refine ⟨w,List.mem_range.2 hw,?_⟩
  rw [h2] at hf
  rw [if_pos hf,ext_mem]
  refine ⟨by simp; omega,?_,fun k hk1 hk2=>?_⟩
  · rw [List.length_append,List.length_singleton,List.take_add_one,h2]
    have hl:to'.length < rn.length:=by omega
    rw [List.getElem?_eq_getElem hl]
    rw [List.getD_eq_getElem?_getD,List.getElem?_eq_getElem hl,Option.getD_some] at hr
    rw [hr]
    rfl
  rw [List.length_append,List.length_singleton] at hk1 hk2
  exact h3 k (by omega) (by omega)
theorem take_getD {l:List Int} {u v:Nat} (h:u < v):(l.take v).getD u 0=l.getD u 0:=by
 rw [List.getD_eq_getElem?_getD,List.getElem?_take_of_lt h,List.getD_eq_getElem?_getD]
theorem goX_take {rn:List Int} {v:Nat} {z:Int} (h0:0 ≤ z) (h1:z ≤ (v:Int)):goX (rn.take v) v (rn.getD v 0) z=gS rn z:=by
 unfold goX gS
 split
 · exact take_getD (by omega)
 rw [show z.toNat=v by omega]
theorem has_go {rn:List Int} (h:IsoL m T U rn) (hs:SurfE m T) (hu:SurfE m U) (hl:T.length=U.length) {u v:Nat} (hu':u < m) (hv:v < m):hasW T u v=hasW U (rn.getD u 0) (rn.getD v 0):=by
 obtain ⟨f,hf,hg,ho⟩:=h.emb hs hu hl
 have e1:∀ {k:Nat},rn.getD k 0=gS rn (k:Int):=fun {k}=>by unfold gS; rw [Int.toNat_natCast]
 rw [e1,e1,Bool.eq_iff_iff,hasW_iff hs,hasW_iff hu]
 constructor
 · rintro ⟨c,hc,e⟩
   refine ⟨f c,(hf.2 c hc),?_⟩
   rw [goes_ce (hg c hc),e]
 rintro ⟨y,hy,e⟩
 obtain ⟨c,hc,rfl⟩:=ho y hy
 refine ⟨c,hc,?_⟩
 rw [goes_ce (hg c hc)] at e
 injection e with e2 e3
 exact Prod.ext (h.inj (cv_bd hs (nxc_lt hc)) ⟨by omega,by omega⟩ e2) (h.inj (cv_bd hs (pvc_lt hc)) ⟨by omega,by omega⟩ e3)
theorem tri_goes (hu:SurfE n U) {g:Int → Int} {i:Nat}:isT U (g (tri T i).a) (g (tri T i).b) (g (tri T i).c)=true ↔ ∃ y,y < 3 * U.length ∧ GoesC T U g (3 * i) y:=by
 rw [isT_iff hu]
 have a0:cv T (3 * i)=(tri T i).a:=by rw [cv_ct,show 3 * i / 3=i by omega,show 3 * i % 3=0 by omega]; rfl
 have a1:cv T (nxc (3 * i))=(tri T i).b:=by rw [cv_ct,show nxc (3 * i) / 3=i by unfold nxc; omega,show nxc (3 * i) % 3=1 by unfold nxc; omega]; rfl
 have a2:cv T (pvc (3 * i))=(tri T i).c:=by rw [cv_ct,show pvc (3 * i) / 3=i by unfold pvc; omega,show pvc (3 * i) % 3=2 by unfold pvc; omega]; rfl
 unfold GoesC
 rw [a0,a1,a2]
theorem ext_iff (hs:SurfE m T) (hu:SurfE m U) (hl:T.length=U.length) (rn:List Int):rn ∈ extR T U m m [] ↔ IsoL m T U rn:=by
 rw [ext_mem]
 simp only [List.length_nil,Nat.zero_add,List.take_zero,Nat.zero_le,true_and,forall_const]
 constructor
 · rintro ⟨hlen,hk⟩
   refine ⟨hlen,?_,?_,?_⟩
   · refine List.pairwise_iff_getElem.2 fun i j hi hj hij e=>?_
     obtain ⟨w,hw,hr,hf⟩:=hk j (by omega)
     unfold fitsR at hf
     rw [Bool.and_eq_true,List.all_eq_true] at hf
     have h1:=hf.1 i (List.mem_range.2 (by rw [List.length_take]; omega))
     unfold pairFit at h1
     rw [take_getD (by rw [List.length_take] at *; omega)] at h1
     simp only [Bool.and_eq_true,Bool.not_eq_true',decide_eq_false_iff_not] at h1
     refine h1.1.1 ?_
     rw [← hr,List.getD_eq_getElem?_getD,List.getD_eq_getElem?_getD,List.getElem?_eq_getElem hi,List.getElem?_eq_getElem hj,e]
   · intro v hv
     obtain ⟨i,hi,rfl⟩:=List.getElem_of_mem hv
     obtain ⟨w,hw,hr,_⟩:=hk i (by omega)
     rw [List.getD_eq_getElem?_getD,List.getElem?_eq_getElem hi,Option.getD_some] at hr
     rw [hr]
     omega
   intro x hx
   have ht:=tri_ok hs (show x / 3 < T.length by omega)
   obtain ⟨v,hv⟩:∃ v:Nat,(v:Int)=max (max (tri T (x / 3)).a (tri T (x / 3)).b) (tri T (x / 3)).c:=⟨(max (max (tri T (x / 3)).a (tri T (x / 3)).b) (tri T (x / 3)).c).toNat,by have:=ht.a0; omega⟩
   have hvm:v < m:=by have:=ht.a1; have:=ht.b1; have:=ht.c1; omega
   obtain ⟨w,hw,hr,hf⟩:=hk v hvm
   unfold fitsR at hf
   rw [Bool.and_eq_true,List.all_eq_true,List.all_eq_true,List.length_take,Nat.min_eq_left (by omega)] at hf
   have h1:=hf.2 (tri T (x / 3)) (tri_mem (by omega))
   unfold triFit triOff at h1
   rw [← hr,goX_take ht.a0 (by omega),goX_take ht.b0 (by omega),goX_take ht.c0 (by omega),decide_eq_false (by omega),Bool.false_or,tri_goes hu] at h1
   obtain ⟨y,hy,hg⟩:=h1
   have hg1:=goes_nx hg
   have hg2:=goes_nx hg1
   rcases (by omega:x % 3=0 ∨ x % 3=1 ∨ x % 3=2) with h | h | h
   · refine ⟨y,hy,?_⟩
     rw [show 3 * (x / 3)=x by omega] at hg
     exact hg
   · refine ⟨nxc y,nxc_lt hy,?_⟩
     rw [show nxc (3 * (x / 3))=x by unfold nxc; omega] at hg1
     exact hg1
   refine ⟨nxc (nxc y),nxc_lt (nxc_lt hy),?_⟩
   rw [show nxc (nxc (3 * (x / 3)))=x by unfold nxc; omega] at hg2
   exact hg2
 intro h
 refine ⟨h.len,fun k hk=>?_⟩
 have hkl:k < rn.length:=by rw [h.len]; exact hk
 have hb:=h.bd rn[k] (List.getElem_mem hkl)
 have hr:rn.getD k 0=rn[k]:=by rw [List.getD_eq_getElem?_getD,List.getElem?_eq_getElem hkl,Option.getD_some]
 have hw:((rn[k].toNat:Nat):Int)=rn.getD k 0:=by rw [hr]; omega
 refine ⟨rn[k].toNat,by omega,hw.symm,?_⟩
 rw [hw]
 unfold fitsR
 rw [Bool.and_eq_true,List.all_eq_true,List.all_eq_true,List.length_take,Nat.min_eq_left (by omega)]
 refine ⟨fun u hu'=>?_,fun t ht=>?_⟩
 · rw [List.mem_range] at hu'
   unfold pairFit
   rw [take_getD hu',← has_go h hs hu hl (by omega) hk,← has_go h hs hu hl hk (by omega)]
   simp only [beq_self_eq_true,Bool.and_true,Bool.not_eq_true',decide_eq_false_iff_not]
   intro e
   have hul:u < rn.length:=by omega
   rw [hr,List.getD_eq_getElem?_getD,List.getElem?_eq_getElem hul,Option.getD_some] at e
   exact absurd (nodup_at h.nd hul hkl e) (by omega)
 obtain ⟨i,hi,rfl⟩:=tri_idx ht
 have hok:=tri_ok hs hi
 unfold triFit
 by_cases ho:triOff k (tri T i)=true
 · rw [ho]; rfl
 have ho':=ho
 unfold triOff at ho'
 rw [decide_eq_true_iff] at ho'
 rw [goX_take hok.a0 (by omega),goX_take hok.b0 (by omega),goX_take hok.c0 (by omega),Bool.or_eq_true]
 right
 rw [tri_goes hu]
 exact h.tri (3 * i) (by omega)
end
end
section
section
variable {m:Nat} {T:List Tri}
theorem ways_short (hs:SurfE m T) {i:Nat} (hi:i < kN T):(kindV (partOf T i)).ws.length ≤ 3 * (partOf T i).l.length:=by
 rw [kind_ways hs hi,List.length_map]
 exact Nat.le_trans (List.length_filter_le _ _) (by simp)
end
end
section
section
variable {m:Nat} {T U V:List Tri} {a b:List Int}
end
end
section
section
variable {m n:Nat} {T U:List Tri} {rn:List Int}
theorem iso_full (h:IsoL m T U rn) {v:Int} (hv:0 ≤ v ∧ v < (m:Int)):v ∈ rn:=by
 have hat:∀ x,x < m → ∃ hx:x < rn.length,rn.getD x 0=rn[x]:=fun x hx=>⟨by rw [h.len]; exact hx,by rw [List.getD_eq_getElem?_getD,List.getElem?_eq_getElem (by rw [h.len]; exact hx),Option.getD_some]⟩
 obtain ⟨x,hx,e⟩:=onto_of (N:=m) (f:=fun x=>(rn.getD x 0).toNat) (fun x hx=>by
  obtain ⟨h1,h2⟩:=hat x hx
  have:=h.bd _ (List.getElem_mem h1)
  try dsimp only
  omega) (fun x y hx hy e=>by
  obtain ⟨h1,h2⟩:=hat x hx
  obtain ⟨h3,h4⟩:=hat y hy
  have b1:=h.bd _ (List.getElem_mem h1)
  have b2:=h.bd _ (List.getElem_mem h3)
  try dsimp only at e
  exact nodup_at h.nd h1 h3 (by omega)) (y:=v.toNat) (by omega)
 obtain ⟨h1,h2⟩:=hat x hx
 have b1:=h.bd _ (List.getElem_mem h1)
 try dsimp only at e
 have:rn[x]=v:=by omega
 rw [← this]
 exact List.getElem_mem _
def invL (m:Nat) (rn:List Int):List Int:=(List.range m).map fun (v:Nat)=>(rn.idxOf (v:Int):Int)
theorem gS_inv (h:IsoL m T U rn) {z:Int} (hz:0 ≤ z ∧ z < (m:Int)):gS (invL m rn) (gS rn z)=z:=by
 obtain ⟨h1,e1⟩:=gS_at (rn:=rn) hz.1 (by rw [h.len]; exact hz.2)
 have hm:=List.getElem_mem h1
 have hb:=h.bd _ hm
 rw [e1]
 obtain ⟨v,hv⟩:=jX (rn[z.toNat])
 rw [← hv] at hm hb ⊢
 unfold gS invL
 rw [List.getD_eq_getElem?_getD,List.getElem?_map,List.getElem?_range (by omega),Option.map_some,Option.getD_some,show ((v.toNat:Nat):Int)=v by omega]
 have hl:=List.idxOf_lt_length_iff.2 hm
 have:=nodup_at h.nd hl h1 (by rw [List.getElem_idxOf]; exact hv)
 omega
theorem IsoL.inv (h:IsoL m T U rn) (hs:SurfE m T) (hu:SurfE m U) (hl:T.length=U.length):IsoL m U T (invL m rn):=by
 refine ⟨by simp [invL],?_,fun v hv=>?_,fun y hy=>?_⟩
 · unfold invL
   refine nodup_mapI (fun a ha b hb e=>?_) List.nodup_range
   have h1:=iso_full h (v:=(a:Int)) ⟨by omega,by have:=List.mem_range.1 ha; omega⟩
   have h2:=iso_full h (v:=(b:Int)) ⟨by omega,by have:=List.mem_range.1 hb; omega⟩
   have e1:=getD_idxOf h1
   have e2:=getD_idxOf h2
   have e':rn.idxOf (a:Int)=rn.idxOf (b:Int):=by (try dsimp only at e); omega
   rw [e',e2] at e1
   omega
 · unfold invL at hv
   obtain ⟨a,ha,rfl⟩:=List.mem_map.1 hv
   have h1:=iso_full h (v:=(a:Int)) ⟨by omega,by have:=List.mem_range.1 ha; omega⟩
   have:=List.idxOf_lt_length_iff.2 h1
   rw [h.len] at this
   omega
 obtain ⟨f,hf,hg,ho⟩:=h.emb hs hu hl
 obtain ⟨x,hx,rfl⟩:=ho y hy
 obtain ⟨h1,h2,h3⟩:=hg x hx
 refine ⟨x,hx,?_,?_,?_⟩
 · rw [h1,gS_inv h (cv_bd hs hx)]
 · rw [h2,gS_inv h (cv_bd hs (nxc_lt hx))]
 rw [h3,gS_inv h (cv_bd hs (pvc_lt hx))]
end
end
section
theorem div_class {α β:Type} [DecidableEq β] (f:α → β) {n:Nat}:∀ (k:Nat) (L:List α),L.length ≤ k → (∀ x ∈ L,(L.filter fun y=>decide (f y=f x)).length=n) → n ∣ L.length
 | 0,L,hk,_=>by
  rw [List.length_eq_zero_iff.1 (show L.length=0 by omega)]
  exact ⟨0,rfl⟩
 | k + 1,[],_,_=>⟨0,rfl⟩
 | k + 1,x :: L,hk,h=>by
  have hx:=h x List.mem_cons_self
  have hsplit:(x :: L).length=((x :: L).filter fun y=>decide (f y=f x)).length + ((x :: L).filter fun y=>!decide (f y=f x)).length:=by
   have:∀ (p:α → Bool) (M:List α),M.length=(M.filter p).length + (M.filter fun y=>!p y).length:=by
    intro p M
    induction M with
    | nil=>rfl
    | cons a M ih =>
     rw [List.filter_cons,List.filter_cons]
     cases hp:p a <;> simp [ih] <;> omega
   exact this _ _
  have hpos:0 < ((x :: L).filter fun y=>decide (f y=f x)).length:=by
   refine List.length_pos_of_mem (a:=x) (List.mem_filter.2 ⟨List.mem_cons_self,by simp⟩)
  have ih:=div_class f (n:=n) k ((x :: L).filter fun y=>!decide (f y=f x)) (by rw [hx] at hpos hsplit; omega) fun y hy=>by
   obtain ⟨hy1,hy2⟩:=List.mem_filter.1 hy
   have hne:f y ≠ f x:=by simpa using hy2
   rw [List.filter_filter,← h y hy1]
   congr 1
   refine List.filter_congr fun z hz=>?_
   by_cases hz:f z=f y
   · have:f z ≠ f x:=by rw [hz]; exact hne
     simp [hz,hne]
   simp [hz]
  rw [hsplit,hx]
  exact Nat.dvd_add ⟨1,by simp⟩ ih
section
variable {m:Nat} {T:List Tri}
theorem goes_emb (hs:SurfE m T) (h1:kN T=1) {rn:List Int} (h:IsoL m T T rn) {f:Nat → Nat} (hf:Emb T T f (gS rn)) {d:Nat} (hd:d < 3 * T.length):goesL T T m d (f d)=rn:=by
 have hr:=hf.rowC hd
 obtain ⟨_,_,hi⟩:=conn_iso hs h1 hs h1 hd (hf.lt d hd) hr.symm
 refine List.ext_getElem (by rw [hi.len,h.len]) fun i a1 a2=>?_
 have him:i < m:=by have:=h.len; omega
 have e1:=goesL_at (T:=T) (U:=T) (c:=d) (d:=f d) (v:=(i:Int)) (m:=m) ⟨by omega,by omega⟩
 have hm:=(conn_rootO hs h1 hd (i:Int)).2 ⟨by omega,by omega⟩
 have hl:=List.idxOf_lt_length_iff.2 hm
 have e2:goesTo T T d (f d) (i:Int)=gS rn (i:Int):=by
  unfold goesTo
  rw [hf.rootO hd,List.getD_eq_getElem?_getD,List.getElem?_map,List.getElem?_eq_getElem hl,Option.map_some,Option.getD_some,List.getElem_idxOf]
 rw [e2] at e1
 unfold gS at e1
 rw [Int.toNat_natCast,List.getD_eq_getElem?_getD,List.getElem?_eq_getElem a1,List.getD_eq_getElem?_getD,List.getElem?_eq_getElem a2] at e1
 exact e1
theorem class_len (hs:SurfE m T) (h1:kN T=1) {d:Nat} (hd:d < 3 * T.length):((List.range (3 * T.length)).filter fun c=>decide (rowC T c=rowC T d)).length=(allR m T).length:=by
 have hnd:((List.range (3 * T.length)).filter fun c=>decide (rowC T c=rowC T d)).Nodup:=List.nodup_range.filter _
 have hmem:∀ c,c ∈ ((List.range (3 * T.length)).filter fun c=>decide (rowC T c=rowC T d)) ↔ c < 3 * T.length ∧ rowC T c=rowC T d:=fun c=>by
  rw [List.mem_filter,List.mem_range,decide_eq_true_iff]
 have hnd2:(((List.range (3 * T.length)).filter fun c=>decide (rowC T c=rowC T d)).map fun c=>goesL T T m d c).Nodup:=by
  refine nodup_mapI (fun a ha b hb e=>?_) hnd
  obtain ⟨al,ar⟩:=(hmem a).1 ha
  obtain ⟨bl,br⟩:=(hmem b).1 hb
  refine rootO_inj hs al bl ?_
  have hla:=conn_len hs h1 al
  have hlb:=conn_len hs h1 bl
  have hld:=conn_len hs h1 hd
  refine List.ext_getElem (by rw [hla,hlb]) fun i a1 a2=>?_
  have hi:i < (rootO T d).length:=by omega
  have hv:=List.getElem_mem hi
  have hb':=(conn_rootO hs h1 hd _).1 hv
  have g1:=goesL_at (T:=T) (U:=T) (c:=d) (d:=a) (m:=m) hb'
  have g2:=goesL_at (T:=T) (U:=T) (c:=d) (d:=b) (m:=m) hb'
  try dsimp only at e
  rw [e,g2] at g1
  unfold goesTo at g1
  have hix:(rootO T d).idxOf (rootO T d)[i]=i:=by
   have hl:=List.idxOf_lt_length_iff.2 hv
   exact nodup_at (oldC_nd _) hl hi (List.getElem_idxOf _)
  rw [hix,List.getD_eq_getElem?_getD,List.getElem?_eq_getElem a2,List.getD_eq_getElem?_getD,List.getElem?_eq_getElem a1] at g1
  exact g1.symm
 have le1:=len_sub (B:=allR m T) hnd2 fun x hx=>by
  obtain ⟨c,hc,rfl⟩:=List.mem_map.1 hx
  obtain ⟨cl,cr⟩:=(hmem c).1 hc
  exact (allR_iff hs _).2 (conn_iso hs h1 hs h1 hd cl cr.symm).2.2
 have le2:=len_sub (B:=((List.range (3 * T.length)).filter fun c=>decide (rowC T c=rowC T d)).map fun c=>goesL T T m d c) (allR_nd hs) fun rn hrn=>by
  have h:=(allR_iff hs rn).1 hrn
  obtain ⟨f,hf,_,_⟩:=h.emb hs hs rfl
  exact List.mem_map.2 ⟨f d,(hmem _).2 ⟨hf.lt d hd,hf.rowC hd⟩,goes_emb hs h1 h hf hd⟩
 rw [List.length_map] at le1 le2
 omega
theorem conn_div (hs:SurfE m T) (h1:kN T=1):(allR m T).length ∣ 3 * T.length:=by
 have:=div_class (rowC T) (n:=(allR m T).length) (3 * T.length) (List.range (3 * T.length)) (by simp) fun x hx=>class_len hs h1 (List.mem_range.1 hx)
 rwa [List.length_range] at this
end
end
end Go.Proofs.YtffmfhkiienmaaaGreat
