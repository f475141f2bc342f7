/- Surfaces alike: corners that go to corners; a shell from a corner goes along. Plain. No condition. -/
import Derived.Test.YtffmfhkiienmaaaGreatRt47
import Derived.Test.YtffmfhkiienmaaaGreatPlB
import Derived.Test.YtffmfhkiienmaaaGreatSh47
import Derived.Test.YtffmfhkiienmaaaGreatSp47
import Derived.Test.YtffmfhkiienmaaaGreatAllP
set_option maxRecDepth 100000
set_option maxHeartbeats 16000000
set_option linter.all false
namespace Go.Proofs.YtffmfhkiienmaaaGreat
open Go.RowKit
section
structure Emb (T U:List Tri) (f:Nat → Nat) (g:Int → Int):Prop where
 le:T.length ≤ U.length
 lt:∀ c,c < 3 * T.length → f c < 3 * U.length
 nx:∀ c,c < 3 * T.length → f (nxc c)=nxc (f c)
 op:∀ c,c < 3 * T.length → oppF U (f c)=(oppF T c).map f
 inj:∀ c d,c < 3 * T.length → d < 3 * T.length → f c=f d → c=d
 cv:∀ c,c < 3 * T.length → cv U (f c)=g (cv T c)
 gi:∀ c d,c < 3 * T.length → d < 3 * T.length → g (Go.Proofs.YtffmfhkiienmaaaGreat.cv T c)=g (Go.Proofs.YtffmfhkiienmaaaGreat.cv T d) → Go.Proofs.YtffmfhkiienmaaaGreat.cv T c=Go.Proofs.YtffmfhkiienmaaaGreat.cv T d
theorem same_tri {c d:Nat}:c / 3=d / 3 ↔ d=c ∨ d=nxc c ∨ d=pvc c:=by unfold nxc pvc; omega
section
variable {T U:List Tri} {f:Nat → Nat} {g:Int → Int}
theorem Emb.pv (h:Emb T U f g) (c:Nat) (hc:c < 3 * T.length):f (pvc c)=pvc (f c):=by
 rw [← nxc_nxc,h.nx _ (nxc_lt hc),h.nx _ hc,nxc_nxc]
theorem Emb.tri (h:Emb T U f g) {c d:Nat} (hc:c < 3 * T.length) (hd:d < 3 * T.length):f c / 3=f d / 3 ↔ c / 3=d / 3:=by
 rw [same_tri,same_tri,← h.nx c hc,← h.pv c hc]
 constructor
 · rintro (e | e | e)
   · exact Or.inl (h.inj _ _ hd hc e)
   · exact Or.inr (Or.inl (h.inj _ _ hd (nxc_lt hc) e))
   exact Or.inr (Or.inr (h.inj _ _ hd (pvc_lt hc) e))
 rintro (rfl | rfl | rfl)
 · exact Or.inl rfl
 · exact Or.inr (Or.inl rfl)
 exact Or.inr (Or.inr rfl)
theorem Emb.over (h:Emb T U f g) {s:List Nat} (hs:RFi T s) {d:Nat} (hd:d < 3 * T.length):overR U (f d) (s.map f)=(overR T d s).map f:=by
 unfold overR
 rw [h.op d hd]
 cases ho:oppF T d with
 | none=>rfl
 | some o =>
  have hol:=(facing_some ho).1
  simp only [Option.map_some]
  have hm:(f o / 3 ∈ (s.map f).map (· / 3)) ↔ o / 3 ∈ s.map (· / 3):=by
   rw [List.map_map,List.mem_map,List.mem_map]
   constructor
   · rintro ⟨x,hx,e⟩
     exact ⟨x,hx,(h.tri (hs.lt x hx) hol).1 e⟩
   rintro ⟨x,hx,e⟩
   exact ⟨x,hx,(h.tri (hs.lt x hx) hol).2 e⟩
  by_cases hin:o / 3 ∈ s.map (· / 3)
  · rw [if_pos hin,if_pos (hm.2 hin)]
  rw [if_neg hin,if_neg (mt hm.1 hin),List.map_append]
  rfl
theorem Emb.step (h:Emb T U f g) {s:List Nat} (hs:RFi T s) {c:Nat} (hc:c < 3 * T.length):stepR U (f c) (s.map f)=(stepR T c s).map f:=by
 unfold stepR
 rw [← h.nx c hc,← h.pv c hc,h.over hs (nxc_lt hc),h.over (overR_fi hs _) (pvc_lt hc)]
theorem Emb.bfs (h:Emb T U f g):∀ (n i:Nat) {s:List Nat},RFi T s → bfsR U n i (s.map f)=(bfsR T n i s).map f
 | 0,_,_,_=>rfl
 | n + 1,i,s,hs=>by
  by_cases hi:i < s.length
  · have hx:s[i]?=some s[i]:=List.getElem?_eq_getElem hi
    have h1:s.getD i 0=s[i]:=by simp [List.getD,hx]
    have h2:(s.map f).getD i 0=f s[i]:=by simp [List.getD,hx]
    have hlt:=hs.lt _ (List.getElem_mem hi)
    rw [bfsR_step hi,bfsR_step (by rw [List.length_map]; exact hi),h1,h2,h.step hs hlt,h.bfs n (i + 1) (stepR_fi hs _)]
  have h1:(s.map f).length ≤ i:=by rw [List.length_map]; omega
  rw [bfsR_stop h1,bfsR_stop (show s.length ≤ i by omega)]
theorem bfsR_fuel:∀ (n i k:Nat) {s:List Nat},RFi T s → T.length + 1 ≤ n + i → bfsR T (n + k) i s=bfsR T n i s
 | 0,i,k,s,hs,hn=>by
  have:=hs.short
  have h1:s.length ≤ i:=by omega
  rw [bfsR_stop h1,bfsR_stop h1]
 | n + 1,i,k,s,hs,hn=>by
  by_cases hi:i < s.length
  · rw [show n + 1 + k=(n + k) + 1 by omega,bfsR_step hi,bfsR_step hi]
    exact bfsR_fuel n (i + 1) k (stepR_fi hs _) (by omega)
  have h1:s.length ≤ i:=by omega
  rw [bfsR_stop h1,bfsR_stop h1]
theorem Emb.rootC (h:Emb T U f g) {c:Nat} (hc:c < 3 * T.length):rootC U (f c)=(rootC T c).map f:=by
 unfold Go.Proofs.YtffmfhkiienmaaaGreat.rootC
 have h1:overR U (f c) [f c]=(overR T c [c]).map f:=by
  have:=h.over (s:=[c]) ⟨fun x hx=>by rw [List.mem_singleton.1 hx]; exact hc,by simp⟩ hc
  simpa using this
 rw [h1,h.bfs _ _ (start_fi hc)]
 congr 1
 obtain ⟨k,hk⟩:=Nat.le.dest h.le
 rw [show U.length + 1=(T.length + 1) + k by omega]
 exact bfsR_fuel _ _ _ (start_fi hc) (by omega)
def CvL (T:List Tri) (o:List Int):Prop:=∀ v ∈ o,∃ c,c < 3 * T.length ∧ v=cv T c
theorem CvL.put {o:List Int} (h:CvL T o) {c:Nat} (hc:c < 3 * T.length):CvL T (putW o (cv T c)):=by
 unfold putW
 split
 · exact h
 intro v hv
 rcases List.mem_append.1 hv with hv | hv
 · exact h v hv
 exact ⟨c,hc,List.mem_singleton.1 hv⟩
theorem CvL.putX {o:List Int} (h:CvL T o) {c:Nat} (hc:c < 3 * T.length):CvL T (putX T o c):=((h.put hc).put (nxc_lt hc)).put (pvc_lt hc)
theorem CvL.old {cs:List Nat} (h:∀ c ∈ cs,c < 3 * T.length):CvL T (oldC T cs):=by
 unfold oldC
 have:∀ (cs:List Nat) (o:List Int),CvL T o → (∀ c ∈ cs,c < 3 * T.length) → CvL T (cs.foldl (Go.Proofs.YtffmfhkiienmaaaGreat.putX T) o):=by
  intro cs
  induction cs with
  | nil=>exact fun o ho _=>ho
  | cons c cs ih=>exact fun o ho hc=>ih _ (ho.putX (hc c List.mem_cons_self)) fun x hx=>hc x (List.mem_cons_of_mem _ hx)
 exact this cs [] (fun v hv=>by cases hv) h
theorem Emb.mem (h:Emb T U f g) {o:List Int} (ho:CvL T o) {c:Nat} (hc:c < 3 * T.length):g (Go.Proofs.YtffmfhkiienmaaaGreat.cv T c) ∈ o.map g ↔ Go.Proofs.YtffmfhkiienmaaaGreat.cv T c ∈ o:=by
 constructor
 · intro hm
   obtain ⟨v,hv,e⟩:=List.mem_map.1 hm
   obtain ⟨d,hd,rfl⟩:=ho v hv
   rw [← h.gi d c hd hc e]
   exact hv
 exact fun hm=>List.mem_map_of_mem hm
theorem Emb.put (h:Emb T U f g) {o:List Int} (ho:CvL T o) {c:Nat} (hc:c < 3 * T.length):putW (o.map g) (Go.Proofs.YtffmfhkiienmaaaGreat.cv U (f c))=(putW o (Go.Proofs.YtffmfhkiienmaaaGreat.cv T c)).map g:=by
 unfold putW
 rw [h.cv c hc]
 by_cases hm:Go.Proofs.YtffmfhkiienmaaaGreat.cv T c ∈ o
 · rw [if_pos hm,if_pos ((h.mem ho hc).2 hm)]
 rw [if_neg hm,if_neg (mt (h.mem ho hc).1 hm),List.map_append]
 rfl
theorem Emb.putX (h:Emb T U f g) {o:List Int} (ho:CvL T o) {c:Nat} (hc:c < 3 * T.length):putX U (o.map g) (f c)=(putX T o c).map g:=by
 unfold Go.Proofs.YtffmfhkiienmaaaGreat.putX
 rw [← h.nx c hc,← h.pv c hc,h.put ho hc,h.put (ho.put hc) (nxc_lt hc),h.put ((ho.put hc).put (nxc_lt hc)) (pvc_lt hc)]
theorem Emb.old (h:Emb T U f g) {cs:List Nat} (hcs:∀ c ∈ cs,c < 3 * T.length):oldC U (cs.map f)=(oldC T cs).map g:=by
 unfold oldC
 have:∀ (cs:List Nat) (o:List Int),CvL T o → (∀ c ∈ cs,c < 3 * T.length) → (cs.map f).foldl (Go.Proofs.YtffmfhkiienmaaaGreat.putX U) (o.map g)=(cs.foldl (Go.Proofs.YtffmfhkiienmaaaGreat.putX T) o).map g:=by
  intro cs
  induction cs with
  | nil=>exact fun o _ _=>rfl
  | cons c cs ih =>
   intro o ho hc
   rw [List.map_cons,List.foldl_cons,List.foldl_cons,h.putX ho (hc c List.mem_cons_self)]
   exact ih _ (ho.putX (hc c List.mem_cons_self)) fun x hx=>hc x (List.mem_cons_of_mem _ hx)
 exact this cs [] (fun v hv=>by cases hv) hcs
theorem Emb.rootO (h:Emb T U f g) {c:Nat} (hc:c < 3 * T.length):rootO U (f c)=(rootO T c).map g:=by
 unfold Go.Proofs.YtffmfhkiienmaaaGreat.rootO
 rw [h.rootC hc,h.old (rootC_fi hc).lt]
theorem idxOf_map {o:List Int} {v:Int} (hi:∀ x ∈ o,g x=g v → x=v):(o.map g).idxOf (g v)=o.idxOf v:=by
 induction o with
 | nil=>rfl
 | cons x o ih =>
  rw [List.map_cons,List.idxOf_cons,List.idxOf_cons]
  by_cases hx:x=v
  · subst hx; simp
  have:¬ g x=g v:=fun e=>hx (hi x List.mem_cons_self e)
  rw [ih fun y hy=>hi y (List.mem_cons_of_mem _ hy),show (g x == g v)=false by simpa using this,show (x == v)=false by simpa using hx]
theorem Emb.idx (h:Emb T U f g) {o:List Int} (ho:CvL T o) {c:Nat} (hc:c < 3 * T.length):(o.map g).idxOf (Go.Proofs.YtffmfhkiienmaaaGreat.cv U (f c))=o.idxOf (Go.Proofs.YtffmfhkiienmaaaGreat.cv T c):=by
 rw [h.cv c hc]
 refine idxOf_map fun x hx e=>?_
 obtain ⟨d,hd,rfl⟩:=ho x hx
 exact h.gi d c hd hc e
theorem Emb.rootT (h:Emb T U f g) {c:Nat} (hc:c < 3 * T.length):rootT U (f c)=rootT T c:=by
 unfold Go.Proofs.YtffmfhkiienmaaaGreat.rootT
 rw [h.rootC hc,h.old (rootC_fi hc).lt,List.map_map]
 refine List.map_congr_left fun d hd=>?_
 have hdl:=(rootC_fi hc).lt d hd
 have ho:=CvL.old (rootC_fi hc).lt
 show triR U _ (f d)=triR T _ d
 unfold triR
 rw [← h.nx d hdl,← h.pv d hdl,h.idx ho hdl,h.idx ho (nxc_lt hdl),h.idx ho (pvc_lt hdl)]
theorem Emb.rowC (h:Emb T U f g) {c:Nat} (hc:c < 3 * T.length):rowC U (f c)=rowC T c:=by
 unfold Go.Proofs.YtffmfhkiienmaaaGreat.rowC
 rw [h.rootT hc,h.rootO hc,List.length_map]
end
end
section
def Adj (T:List Tri) (x y:Nat):Prop:=∃ d o,d < 3 * T.length ∧ d / 3=x ∧ oppF T d=some o ∧ o / 3=y
inductive Re (T:List Tri):Nat → Nat → Prop
 | refl (x:Nat):Re T x x
 | step {x y z:Nat}:Re T x y → Adj T y z → Re T x z
section
variable {m:Nat} {T:List Tri}
theorem Adj.lt {x y:Nat} (h:Adj T x y):x < T.length ∧ y < T.length:=by
 obtain ⟨d,o,hd,rfl,ho,rfl⟩:=h
 exact ⟨by omega,opp_tri ho⟩
theorem Adj.symm (hs:SurfE m T) {x y:Nat} (h:Adj T x y):Adj T y x:=by
 obtain ⟨d,o,hd,rfl,ho,rfl⟩:=h
 obtain ⟨h1,_,h2,_⟩:=opp_back hs hd ho
 exact ⟨o,d,h1,rfl,h2,rfl⟩
theorem Re.trans {x y z:Nat} (h1:Re T x y) (h2:Re T y z):Re T x z:=by
 induction h2 with
 | refl=>exact h1
 | step _ h ih=>exact ih.step h
theorem Re.symm (hs:SurfE m T) {x y:Nat} (h:Re T x y):Re T y x:=by
 induction h with
 | refl=>exact .refl _
 | step _ h ih=>exact (Re.step (.refl _) (h.symm hs)).trans ih
theorem Re.lt {x y:Nat} (h:Re T x y) (hx:x < T.length):y < T.length:=by
 cases h with
 | refl=>exact hx
 | step _ h=>exact h.lt.2
structure BJ (T:List Tri) (n k:Nat) (O:List Int) (i:Nat) (s:List Int × List Nat):Prop where
 bf:BFi T n s
 q:∀ x ∈ s.2,Re T k x ∧ s.1.getD x 0=(n:Int) ∧ O.getD x 0 < 0
 o:∀ x,x ∉ s.2 → s.1.getD x 0=O.getD x 0
 il:i ≤ s.2.length
 done:∀ j,j < i → ∀ y,Adj T (s.2.getD j 0) y → y ∈ s.2
 k:k ∈ s.2
theorem getD_mem {l:List Nat} {i:Nat} (h:i < l.length):l.getD i 0 ∈ l:=by
 rw [List.getD_eq_getElem?_getD,List.getElem?_eq_getElem h]
 exact List.getElem_mem h
theorem BJ.over (hs:SurfE m T) {n k i:Nat} {O:List Int} {s:List Int × List Nat} (h:BJ T n k O i s) (hO:∀ x y,0 ≤ O.getD x 0 → Adj T x y → 0 ≤ O.getD y 0) {t:Nat} (ht:t ∈ s.2) {d:Nat} (hd:d < 3 * T.length) (hdt:d / 3=t) :
  BJ T n k O i (overS T n d s) ∧ (∀ x ∈ s.2,x ∈ (overS T n d s).2) ∧ ∀ o,oppF T d=some o → o / 3 ∈ (overS T n d s).2:=by
 have hbf:=overS_bf h.bf d
 unfold overS at hbf ⊢
 cases ho:oppF T d with
 | none=>exact ⟨h,fun x hx=>hx,fun o h=>by cases h⟩
 | some o =>
  rw [ho] at hbf
  dsimp only at hbf ⊢
  have hadj:Adj T t (o / 3):=⟨d,o,hd,hdt,ho,rfl⟩
  have hol:=opp_tri ho
  by_cases hn:s.1.getD (o / 3) 0 < 0
  · rw [if_pos hn] at hbf ⊢
    have hl':o / 3 < s.1.length:=by rw [h.bf.len]; exact hol
    have hnm:o / 3 ∉ s.2:=fun hm=>by have:=h.bf.ge _ hm; omega
    refine ⟨⟨hbf,fun x hx=>?_,fun x hx=>?_,by have:=h.il; rw [List.length_append]; omega,fun j hj y hy=>?_,List.mem_append_left _ h.k⟩,fun x hx=>List.mem_append_left _ hx,fun o' e=>?_⟩
    · dsimp only
      rw [getD_set hl']
      rcases List.mem_append.1 hx with hx | hx
      · have hne:o / 3 ≠ x:=fun e=>hnm (e ▸ hx)
        rw [if_neg hne]
        exact h.q x hx
      rw [List.mem_singleton.1 hx,if_pos rfl]
      exact ⟨(h.q t ht).1.step hadj,rfl,by rw [← h.o _ hnm]; exact hn⟩
    · dsimp only
      have hne:o / 3 ≠ x:=fun e=>hx (List.mem_append_right _ (by rw [e]; exact List.mem_singleton_self _))
      rw [getD_set hl',if_neg hne]
      exact h.o x fun hm=>hx (List.mem_append_left _ hm)
    · have hjl:j < s.2.length:=Nat.lt_of_lt_of_le hj h.il
      dsimp only at hy ⊢
      rw [List.getD_eq_getElem?_getD,List.getElem?_append_left hjl,← List.getD_eq_getElem?_getD] at hy
      exact List.mem_append_left _ (h.done j hj y hy)
    injection e with e
    subst e
    exact List.mem_append_right _ (List.mem_singleton_self _)
  rw [if_neg hn] at hbf ⊢
  refine ⟨h,fun x hx=>hx,fun o' e=>?_⟩
  injection e with e
  subst e
  apply Classical.byContradiction
  intro hm
  have h1:=h.o _ hm
  have h2:=hO (o / 3) t (by omega) (hadj.symm hs)
  have h3:=(h.q t ht).2.2
  omega
theorem BJ.next (hs:SurfE m T) {n k i:Nat} {O:List Int} {s:List Int × List Nat} (h:BJ T n k O i s) (hO:∀ x y,0 ≤ O.getD x 0 → Adj T x y → 0 ≤ O.getD y 0) (hi:i < s.2.length):BJ T n k O (i + 1) (overN T n (s.2.getD i 0) 3 s):=by
 have ht:=getD_mem hi
 have htl:=h.bf.lt _ ht
 have key:∀ j,j ≤ 3 → BJ T n k O i (overN T n (s.2.getD i 0) j s) ∧ (∀ x ∈ s.2,x ∈ (overN T n (s.2.getD i 0) j s).2) ∧ ∀ r,r < j → ∀ o,oppF T (3 * s.2.getD i 0 + r)=some o → o / 3 ∈ (overN T n (s.2.getD i 0) j s).2:=by
  intro j
  induction j with
  | zero=>exact fun _=>⟨h,fun x hx=>hx,fun r hr=>absurd hr (Nat.not_lt_zero r)⟩
  | succ j ih =>
   intro hj
   obtain ⟨h1,h2,h3⟩:=ih (by omega)
   obtain ⟨g1,g2,g3⟩:=h1.over hs hO (h2 _ ht) (d:=3 * s.2.getD i 0 + j) (by omega) (by omega)
   refine ⟨g1,fun x hx=>g2 x (h2 x hx),fun r hr o ho=>?_⟩
   rcases Nat.lt_succ_iff_lt_or_eq.1 hr with hr | rfl
   · exact g2 _ (h3 r hr o ho)
   exact g3 o ho
 obtain ⟨h1,h2,h3⟩:=key 3 (Nat.le_refl _)
 obtain ⟨hl,he⟩:=overN_at (T:=T) (n:=n) (t:=s.2.getD i 0) (j:=3) hi
 refine ⟨h1.bf,h1.q,h1.o,hl,fun j hj y hy=>?_,h1.k⟩
 rcases Nat.lt_succ_iff_lt_or_eq.1 hj with hj | rfl
 · exact h1.done j hj y hy
 rw [he] at hy
 obtain ⟨d,o,hd,e,ho,rfl⟩:=hy
 refine h3 (d % 3) (Nat.mod_lt _ (by decide)) o ?_
 rw [show 3 * s.2.getD j 0 + d % 3=d by omega]
 exact ho
theorem BJ.whole (hs:SurfE m T) {n k:Nat} {O:List Int} (hO:∀ x y,0 ≤ O.getD x 0 → Adj T x y → 0 ≤ O.getD y 0):∀ (f i:Nat) {s:List Int × List Nat},T.length + 1 ≤ f + i → BJ T n k O i s → ∃ i',(bfsS T n f i s).2.length ≤ i' ∧ BJ T n k O i' (bfsS T n f i s)
 | 0,i,s,hf,h=>⟨i,by have:=h.bf.short; show s.2.length ≤ i; omega,h⟩
 | f + 1,i,s,hf,h=>by
  unfold bfsS
  by_cases hi:i < s.2.length
  · rw [if_pos hi]
    exact BJ.whole hs hO f (i + 1) (by omega) (h.next hs hO hi)
  rw [if_neg hi]
  exact ⟨i,by omega,h⟩
open Classical in
theorem shell_next (hs:SurfE m T) {k:Nat} {st:List Int × Nat} (h:Ofi T k st) (hk:k < T.length) (hO:∀ x y,0 ≤ st.1.getD x 0 → Adj T x y → 0 ≤ st.1.getD y 0) (x:Nat) :
  (shellS T k st).1.getD x 0=if st.1.getD k 0 < 0 ∧ Re T k x then (st.2:Int) else st.1.getD x 0:=by
 unfold shellS
 by_cases h0:0 ≤ st.1.getD k 0
 · rw [if_pos h0,if_neg (by omega)]
 rw [if_neg h0]
 have hb:=first_bf h hk
 have hkl:k < st.1.length:=by rw [h.len]; exact hk
 have hj:BJ T st.2 k st.1 0 (st.1.set k (st.2:Int),[k]):=by
  refine ⟨hb,fun x hx=>?_,fun x hx=>?_,Nat.zero_le _,fun j hj=>absurd hj (Nat.not_lt_zero j),by simp⟩
  · rw [List.mem_singleton.1 hx]
    exact ⟨.refl _,by dsimp only; rw [getD_set hkl,if_pos rfl],by omega⟩
  dsimp only
  rw [getD_set hkl,if_neg fun e=>hx (by rw [e]; exact List.mem_singleton_self _)]
 obtain ⟨i',hi',hJ⟩:=BJ.whole hs hO (T.length + 1) 0 (by omega) hj
 have hall:∀ y,Re T k y → y ∈ (bfsS T st.2 (T.length + 1) 0 (st.1.set k (st.2:Int),[k])).2:=fun y hy=>by
  induction hy with
  | refl=>exact hJ.k
  | step _ ha ih =>
   obtain ⟨j,hj,e⟩:=List.getElem_of_mem ih
   refine hJ.done j (by omega) _ ?_
   rw [List.getD_eq_getElem?_getD,List.getElem?_eq_getElem hj,Option.getD_some,e]
   exact ha
 dsimp only
 by_cases hx:Re T k x
 · rw [if_pos ⟨by omega,hx⟩]
   exact (hJ.q x (hall x hx)).2.1
 rw [if_neg fun h=>hx h.2]
 exact hJ.o x fun hm=>hx (hJ.q x hm).1
structure OfR (T:List Tri) (k:Nat) (st:List Int × Nat):Prop where
 i:Ofi T k st
 a:∀ x,x < T.length → (0 ≤ st.1.getD x 0 ↔ ∃ r,r < k ∧ Re T r x)
 b:∀ x y,0 ≤ st.1.getD x 0 → Adj T x y → st.1.getD y 0=st.1.getD x 0
 c:∀ x y,x < T.length → y < T.length → 0 ≤ st.1.getD x 0 → st.1.getD x 0=st.1.getD y 0 → Re T x y
theorem of_re (hs:SurfE m T):∀ k,k ≤ T.length → OfR T k (ofS T k)
 | 0,h=>by
  have hn:∀ x,x < T.length → (ofS T 0).1.getD x 0 < 0:=fun x hx=>by
   show (List.replicate T.length (-1:Int)).getD x 0 < 0
   rw [List.getD_eq_getElem?_getD,List.getElem?_replicate,if_pos hx]
   decide
  refine ⟨of_inv 0 h,fun x hx=>⟨fun h=>?_,fun ⟨r,hr,_⟩=>absurd hr (Nat.not_lt_zero r)⟩,fun x y hx ha=>?_,fun x y hx _ h0 _=>?_⟩
  · have:=hn x hx; omega
  · have:=hn x ha.lt.1; omega
  have:=hn x hx; omega
 | k + 1,hk=>by
  have h:=of_re hs k (by omega)
  have hO:∀ x y,0 ≤ (ofS T k).1.getD x 0 → Adj T x y → 0 ≤ (ofS T k).1.getD y 0:=fun x y hx ha=>by rw [h.b x y hx ha]; exact hx
  have hn:=fun x=>shell_next hs h.i (show k < T.length by omega) hO x
  have hi:=of_inv (T:=T) (k + 1) hk
  show OfR T (k + 1) (shellS T k (ofS T k))
  replace hi:Ofi T (k + 1) (shellS T k (ofS T k)):=hi
  have hbnd:∀ x,x < T.length → (ofS T k).1.getD x 0 < ((ofS T k).2:Int):=fun x hx=>by
   rcases h.i.val x with h1 | h1
   · exact h1
   omega
  by_cases h0:(ofS T k).1.getD k 0 < 0
  · have hnew:∀ x,Re T k x → (ofS T k).1.getD x 0 < 0:=fun x hx=>by
     apply Int.lt_of_not_ge
     intro hge
     obtain ⟨r,hr,hre⟩:=(h.a x (hx.lt (by omega))).1 hge
     have:=(h.a k (by omega)).2 ⟨r,hr,hre.trans (hx.symm hs)⟩
     omega
    refine ⟨hi,fun x hx=>?_,fun x y hx ha=>?_,fun x y hx hy hge he=>?_⟩
    · rw [hn x]
      by_cases hr:Re T k x
      · rw [if_pos ⟨h0,hr⟩]
        exact ⟨fun _=>⟨k,by omega,hr⟩,fun _=>by omega⟩
      rw [if_neg fun h=>hr h.2,h.a x hx]
      constructor
      · rintro ⟨r,h1,h2⟩
        exact ⟨r,by omega,h2⟩
      rintro ⟨r,h1,h2⟩
      rcases Nat.lt_succ_iff_lt_or_eq.1 h1 with h1 | rfl
      · exact ⟨r,h1,h2⟩
      exact absurd h2 hr
    · rw [hn x] at hx ⊢
      rw [hn y]
      by_cases hr:Re T k x
      · rw [if_pos ⟨h0,hr.step ha⟩,if_pos ⟨h0,hr⟩]
      have hry:¬ Re T k y:=fun h=>hr (h.step (ha.symm hs))
      rw [if_neg fun h=>hr h.2] at hx
      rw [if_neg fun h=>hry h.2,if_neg fun h=>hr h.2]
      exact h.b x y hx ha
    rw [hn x] at hge he
    rw [hn y] at he
    by_cases hr:Re T k x
    · by_cases hry:Re T k y
      · exact (hr.symm hs).trans hry
      rw [if_pos ⟨h0,hr⟩,if_neg fun h=>hry h.2] at he
      have:=hbnd y hy
      omega
    rw [if_neg fun h=>hr h.2] at hge he
    by_cases hry:Re T k y
    · rw [if_pos ⟨h0,hry⟩] at he
      have:=hbnd x hx
      omega
    rw [if_neg fun h=>hry h.2] at he
    exact h.c x y hx hy hge he
  · have hn2:∀ x,(shellS T k (ofS T k)).1.getD x 0=(ofS T k).1.getD x 0:=fun x=>by rw [hn x,if_neg fun h=>h0 h.1]
    refine ⟨hi,fun x hx=>?_,fun x y hx ha=>?_,fun x y hx hy hge he=>?_⟩
    · rw [hn2,h.a x hx]
      constructor
      · rintro ⟨r,h1,h2⟩
        exact ⟨r,by omega,h2⟩
      rintro ⟨r,h1,h2⟩
      rcases Nat.lt_succ_iff_lt_or_eq.1 h1 with h1 | rfl
      · exact ⟨r,h1,h2⟩
      obtain ⟨q,hq,hq2⟩:=(h.a r (by omega)).1 (by omega)
      exact ⟨q,hq,hq2.trans h2⟩
    · rw [hn2] at hx
      rw [hn2,hn2]
      exact h.b x y hx ha
    rw [hn2] at hge he
    rw [hn2] at he
    exact h.c x y hx hy hge he
theorem ofN_re (hs:SurfE m T) {x y:Nat} (hx:x < T.length) (hy:y < T.length):ofN T x=ofN T y ↔ Re T x y:=by
 have h:=of_re hs T.length (Nat.le_refl _)
 have h1:=ofN_eq hx
 have h2:=ofN_eq hy
 have hx0:0 ≤ (ofS T T.length).1.getD x 0:=h.i.ge x hx hx
 constructor
 · intro e
   refine h.c x y hx hy hx0 ?_
   show (ofL T).getD x 0=(ofL T).getD y 0
   rw [h1,h2,e]
 intro hr
 have key:(ofL T).getD y 0=(ofL T).getD x 0:=by
  clear h2 hy
  induction hr with
  | refl=>rfl
  | step h3 ha ih =>
   have hy1:=h3.lt hx
   rw [← ih]
   exact h.b _ _ (by show 0 ≤ (ofL T).getD _ 0; rw [ih]; exact hx0) ha
 rw [h1,h2] at key
 omega
end
end
section
structure SubOk (m:Nat) (T:List Tri) (l:List Nat) (V:List Int):Prop where
 s:SurfE m T
 up:l.Pairwise (· < ·)
 lt:∀ x ∈ l,x < T.length
 cl:∀ x y,x ∈ l → Adj T x y → y ∈ l
 nd:V.Nodup
 mem:∀ z,z ∈ V ↔ z ∈ vtx T l
def subT (T:List Tri) (V:List Int) (l:List Nat):List Tri:=l.map fun x=>renT V (tri T x)
def fS (l:List Nat) (c:Nat):Nat:=3 * l.getD (c / 3) 0 + c % 3
def gS (V:List Int) (v:Int):Int:=V.getD v.toNat 0
theorem subT_len (T:List Tri) (V:List Int) (l:List Nat):(subT T V l).length=l.length:=List.length_map _
theorem verts_corner {t:Tri} {v:Int}:v ∈ verts t ↔ ∃ r,r < 3 ∧ cornerT t r=v:=by
 rw [verts_mem]
 constructor
 · rintro (h | h | h)
   · exact ⟨0,by omega,h.symm⟩
   · exact ⟨1,by omega,h.symm⟩
   exact ⟨2,by omega,h.symm⟩
 rintro ⟨r,hr,h⟩
 rcases (by omega:r=0 ∨ r=1 ∨ r=2) with rfl | rfl | rfl
 · exact .inl h.symm
 · exact .inr (.inl h.symm)
 exact .inr (.inr h.symm)
theorem ren_corner (V:List Int) (t:Tri) {r:Nat} (hr:r < 3):cornerT (renT V t) r=(V.idxOf (cornerT t r):Int):=by
 rcases (by omega:r=0 ∨ r=1 ∨ r=2) with rfl | rfl | rfl <;> rfl
theorem gS_idx {V:List Int} {v:Int} (h:v ∈ V):gS V (V.idxOf v:Int)=v:=by
 unfold gS
 have hl:=List.idxOf_lt_length_iff.2 h
 rw [Int.toNat_natCast,List.getD_eq_getElem?_getD,List.getElem?_eq_getElem hl,Option.getD_some]
 exact List.getElem_idxOf hl
section
variable {m:Nat} {T:List Tri} {l:List Nat} {V:List Int}
theorem vtx_iff {z:Int}:z ∈ vtx T l ↔ ∃ x ∈ l,z ∈ verts (tri T x):=by
 unfold vtx verts
 rw [List.mem_flatMap]
theorem SubOk.at_ (h:SubOk m T l V) {i:Nat} (hi:i < l.length):l.getD i 0 ∈ l ∧ l.getD i 0 < T.length ∧ tri (subT T V l) i=renT V (tri T (l.getD i 0)):=by
 have hm:=getD_mem hi
 refine ⟨hm,h.lt _ hm,tri_of ?_⟩
 unfold subT
 rw [List.getElem?_map,List.getElem?_eq_getElem hi,List.getD_eq_getElem?_getD,List.getElem?_eq_getElem hi]
 rfl
theorem SubOk.inV (h:SubOk m T l V) {x:Nat} (hx:x ∈ l) {z:Int} (hz:z ∈ verts (tri T x)):z ∈ V:=(h.mem z).2 (vtx_iff.2 ⟨x,hx,hz⟩)
theorem SubOk.idx (h:SubOk m T l V) {x y:Nat} {a b:Int} (hx:x ∈ l) (hy:y ∈ l) (ha:a ∈ verts (tri T x)) (hb:b ∈ verts (tri T y)):(V.idxOf a:Int)=(V.idxOf b:Int) ↔ a=b:=by
 constructor
 · intro e
   rw [← gS_idx (h.inV hx ha),← gS_idx (h.inV hy hb),e]
 rintro rfl; rfl
theorem ren_verts {t:Tri} {v:Int}:v ∈ verts (renT V t) ↔ ∃ z ∈ verts t,v=(V.idxOf z:Int):=by
 simp only [verts_mem,renT]
 constructor
 · rintro (h | h | h)
   · exact ⟨_,.inl rfl,h⟩
   · exact ⟨_,.inr (.inl rfl),h⟩
   exact ⟨_,.inr (.inr rfl),h⟩
 rintro ⟨z,rfl | rfl | rfl,h⟩
 · exact .inl h
 · exact .inr (.inl h)
 exact .inr (.inr h)
theorem SubOk.edge (h:SubOk m T l V) {x y:Nat} (hx:x ∈ l) (hy:y ∈ l) {a b:Int} (ha:a ∈ verts (tri T y)) (hb:b ∈ verts (tri T y)):edgeB (renT V (tri T x)) (V.idxOf a:Int) (V.idxOf b:Int)=edgeB (tri T x) a b:=by
 have key:∀ z ∈ verts (tri T x),∀ c ∈ verts (tri T y),(((V.idxOf z:Int) == (V.idxOf c:Int))=(z == c)):=fun z hz c hc=>by
  rw [Bool.eq_iff_iff,beq_iff_eq,beq_iff_eq]
  exact h.idx hx hy hz hc
 have v0:(tri T x).a ∈ verts (tri T x):=by simp [verts]
 have v1:(tri T x).b ∈ verts (tri T x):=by simp [verts]
 have v2:(tri T x).c ∈ verts (tri T x):=by simp [verts]
 simp only [edgeB,renT,key _ v0 _ ha,key _ v1 _ ha,key _ v2 _ ha,key _ v0 _ hb,key _ v1 _ hb,key _ v2 _ hb]
theorem SubOk.has (h:SubOk m T l V) {x y:Nat} (hx:x ∈ l) (hy:y ∈ l) {a:Int} (ha:a ∈ verts (tri T y)):(V.idxOf a:Int) ∈ verts (renT V (tri T x)) ↔ a ∈ verts (tri T x):=by
 rw [ren_verts]
 constructor
 · rintro ⟨z,hz,e⟩
   rw [(h.idx hy hx ha hz).1 e]
   exact hz
 exact fun hz=>⟨a,hz,rfl⟩
theorem SubOk.twice (h:SubOk m T l V) {x y:Nat} (hx:x ∈ l) (hy:y ∈ l):twiceB (renT V (tri T x)) (renT V (tri T y))=twiceB (tri T x) (tri T y):=by
 have v0:(tri T x).a ∈ verts (tri T x):=by simp [verts]
 have v1:(tri T x).b ∈ verts (tri T x):=by simp [verts]
 have v2:(tri T x).c ∈ verts (tri T x):=by simp [verts]
 unfold twiceB
 have e:renT V (tri T x)=⟨(V.idxOf (tri T x).a:Int),(V.idxOf (tri T x).b:Int),(V.idxOf (tri T x).c:Int)⟩:=rfl
 rw [e]
 simp only [h.edge hy hx v0 v1,h.edge hy hx v1 v2,h.edge hy hx v2 v0]
theorem SubOk.mirr (h:SubOk m T l V) {x y:Nat} (hx:x ∈ l) (hy:y ∈ l):mirrB (renT V (tri T x)) (renT V (tri T y))=mirrB (tri T x) (tri T y):=by
 rw [Bool.eq_iff_iff,mirrB_iff',mirrB_iff']
 constructor
 · intro h1 v hv
   exact (h.has hy hx hv).1 (h1 _ (ren_verts.2 ⟨v,hv,rfl⟩))
 intro h1 v hv
 obtain ⟨z,hz,rfl⟩:=ren_verts.1 hv
 exact ren_verts.2 ⟨z,h1 z hz,rfl⟩
theorem nbr_adj (hs:SurfE m T) {x y:Nat} (hx:x < T.length) (hy:y < T.length) (hxy:x ≠ y) {v w:Int} (hvw:w ≠ v) (h1:v ∈ verts (tri T x)) (h2:w ∈ verts (tri T x)) (h3:v ∈ verts (tri T y)) (h4:w ∈ verts (tri T y)):Adj T x y:=by
 have key:∀ t:Tri,∀ a b:Int,a ∈ verts t → b ∈ verts t → a ≠ b → edgeB t a b=true ∨ edgeB t b a=true:=by
  intro t a b ha hb hab
  rw [verts_mem] at ha hb
  simp only [edgeB,Bool.or_eq_true,Bool.and_eq_true,beq_iff_eq]
  omega
 have no:∀ a b,edgeB (tri T x) a b=true → edgeB (tri T y) a b=true → False:=fun a b e1 e2=>by
  rcases Nat.lt_or_gt_of_ne hxy with h | h
  · have:=pair_no hs.tw h hy
    rw [(twice_edges _ _).2 ⟨_,_,e1,e2⟩] at this
    cases this
  have:=pair_no hs.tw h hx
  rw [(twice_edges _ _).2 ⟨_,_,e2,e1⟩] at this
  cases this
 have yes:∀ a b,edgeB (tri T x) a b=true → edgeB (tri T y) b a=true → Adj T x y:=fun a b e1 e2=>by
  obtain ⟨r,hr,er⟩:=edge_ct e1
  obtain ⟨q,hq,eq⟩:=edge_ct e2
  have c1:ce T (3 * x + r)=(a,b):=by rw [ce_ct,show (3 * x + r) / 3=x by omega,show (3 * x + r) % 3=r by omega,er]
  have c2:ce T (3 * y + q)=(b,a):=by rw [ce_ct,show (3 * y + q) / 3=y by omega,show (3 * y + q) % 3=q by omega,eq]
  refine ⟨3 * x + r,3 * y + q,by omega,by omega,?_,by omega⟩
  unfold oppF
  rw [c1]
  exact facing_is hs (by omega) c2
 rcases key _ v w h1 h2 (Ne.symm hvw) with e1 | e1 <;> rcases key _ v w h3 h4 (Ne.symm hvw) with e2 | e2
 · exact (no _ _ e1 e2).elim
 · exact yes _ _ e1 e2
 · exact yes _ _ e1 e2
 exact (no _ _ e1 e2).elim
theorem SubOk.len (h:SubOk m T l V):l.length ≤ T.length:=nodup_leN _ (h.up.imp fun {a b} hab=>Nat.ne_of_lt hab) h.lt
theorem SubOk.vbound (h:SubOk m T l V):∀ v ∈ V,0 ≤ v ∧ v < m:=fun v hv=>by
 obtain ⟨x,hx,hz⟩:=vtx_iff.1 ((h.mem v).1 hv)
 exact ok_verts (tri_ok h.s (h.lt x hx)) hz
theorem SubOk.vlen (h:SubOk m T l V):V.length ≤ m:=by
 have h1:(V.map Int.toNat).Nodup:=by
  unfold List.Nodup
  rw [List.pairwise_map]
  refine (List.Pairwise.and_mem.1 h.nd).imp ?_
  rintro a b ⟨ha,hb,hab⟩ e
  have:=h.vbound a ha
  have:=h.vbound b hb
  exact hab (by omega)
 have:=nodup_leN m h1 fun x hx=>by
  obtain ⟨v,hv,rfl⟩:=List.mem_map.1 hx
  have:=h.vbound v hv
  omega
 rw [List.length_map] at this
 exact this
theorem SubOk.surf (h:SubOk m T l V):SurfE V.length (subT T V l):=by
 have hmem:∀ t,t ∈ subT T V l ↔ ∃ x ∈ l,renT V (tri T x)=t:=fun t=>by unfold subT; rw [List.mem_map]
 have hup:l.Pairwise fun x y=>x < y ∧ x ∈ l ∧ y ∈ l:=(List.Pairwise.and_mem.1 h.up).imp fun {a b} hab=>⟨hab.2.2,hab.1,hab.2.1⟩
 refine ⟨Nat.le_trans h.vlen h.s.m1,by rw [subT_len]; exact Nat.le_trans h.len h.s.t1,fun t ht=>?_,?_,?_,fun v hv=>?_,fun v hv t u ht h1 hu h2=>?_⟩
 · obtain ⟨x,hx,rfl⟩:=(hmem t).1 ht
   have ok:=tri_ok h.s (h.lt x hx)
   have v0:(tri T x).a ∈ verts (tri T x):=by simp [verts]
   have v1:(tri T x).b ∈ verts (tri T x):=by simp [verts]
   have v2:(tri T x).c ∈ verts (tri T x):=by simp [verts]
   have l0:=List.idxOf_lt_length_iff.2 (h.inV hx v0)
   have l1:=List.idxOf_lt_length_iff.2 (h.inV hx v1)
   have l2:=List.idxOf_lt_length_iff.2 (h.inV hx v2)
   unfold renT
   exact ⟨by simp only; omega,by simp only; omega,by simp only; omega,by simp only; omega,by simp only; omega,by simp only; omega,fun e=>ok.ab ((h.idx hx hx v0 v1).1 e),fun e=>ok.bc ((h.idx hx hx v1 v2).1 e),fun e=>ok.ca ((h.idx hx hx v2 v0).1 e)⟩
 · unfold subT
   rw [List.pairwise_map]
   refine hup.imp ?_
   rintro x y ⟨hxy,hx,hy⟩
   rw [h.twice hx hy]
   exact pair_no h.s.tw hxy (h.lt y hy)
 · unfold subT
   rw [List.pairwise_map]
   refine hup.imp ?_
   rintro x y ⟨hxy,hx,hy⟩
   rw [h.mirr hx hy]
   exact pair_no h.s.mi hxy (h.lt y hy)
 · obtain ⟨x,hx,hz⟩:=vtx_iff.1 ((h.mem V[v]).1 (List.getElem_mem hv))
   refine ⟨_,(hmem _).2 ⟨x,hx,rfl⟩,ren_verts.2 ⟨_,hz,?_⟩⟩
   rw [h.nd.idxOf_getElem v hv]
 obtain ⟨x,hx,rfl⟩:=(hmem t).1 ht
 obtain ⟨y,hy,rfl⟩:=(hmem u).1 hu
 obtain ⟨z,hz,e⟩:=ren_verts.1 h1
 have hvz:(v:Int)=(V.idxOf z:Int):=e
 rw [hvz] at h2
 have hzy:=(h.has hy hx hz).1 h2
 have hzb:=ok_verts (tri_ok h.s (h.lt x hx)) hz
 have hc:=h.s.con z.toNat (by omega) (tri T x) (tri T y) (tri_mem (h.lt x hx)) (by rw [Int.toNat_of_nonneg hzb.1]; exact hz) (tri_mem (h.lt y hy)) (by rw [Int.toNat_of_nonneg hzb.1]; exact hzy)
 rw [Int.toNat_of_nonneg hzb.1] at hc
 rw [hvz]
 obtain ⟨k,hk,hkt,hkr⟩:=hc (fun t=>∃ k ∈ l,tri T k=t ∧ ReachE (NbrE (subT T V l) (V.idxOf z:Int)) (renT V (tri T x)) (renT V t)) ⟨x,hx,rfl,ReachE.refl _ _⟩ (by
  rintro t u ⟨k,hk,rfl,hr⟩ ⟨⟨_,hz1⟩,⟨hu,hz2⟩,w,hw,hw1,hw2⟩
  obtain ⟨j,hj,rfl⟩:=tri_idx hu
  have hjl:j ∈ l:=by
   by_cases e:k=j
   · exact e ▸ hk
   exact h.cl k j hk (nbr_adj h.s (h.lt k hk) hj e hw hz1 hw1 hz2 hw2)
  refine ⟨j,hjl,rfl,hr.step ⟨⟨(hmem _).2 ⟨k,hk,rfl⟩,ren_verts.2 ⟨z,hz1,rfl⟩⟩,⟨(hmem _).2 ⟨j,hjl,rfl⟩,ren_verts.2 ⟨z,hz2,rfl⟩⟩,(V.idxOf w:Int),fun e=>hw ((h.idx hk hk hw1 hz1).1 e),ren_verts.2 ⟨w,hw1,rfl⟩,ren_verts.2 ⟨w,hw2,rfl⟩⟩⟩)
 exact hkr
theorem SubOk.cv (h:SubOk m T l V) {c:Nat} (hc:c < 3 * l.length):cv (subT T V l) c=(V.idxOf (Go.Proofs.YtffmfhkiienmaaaGreat.cv T (fS l c)):Int) ∧ Go.Proofs.YtffmfhkiienmaaaGreat.cv T (fS l c) ∈ V ∧ fS l c < 3 * T.length:=by
 obtain ⟨h1,h2,h3⟩:=h.at_ (i:=c / 3) (by omega)
 have e1:fS l c / 3=l.getD (c / 3) 0:=by unfold fS; omega
 have e2:fS l c % 3=c % 3:=by unfold fS; omega
 have hr:=Nat.mod_lt c (show 3 > 0 by decide)
 refine ⟨?_,?_,by unfold fS; omega⟩
 · rw [cv_ct,cv_ct,h3,e1,e2,ren_corner V _ hr]
 rw [cv_ct,e1,e2]
 exact h.inV h1 (verts_corner.2 ⟨_,hr,rfl⟩)
theorem fS_nxc (l:List Nat) (c:Nat):fS l (nxc c)=nxc (fS l c):=by
 have e:nxc c / 3=c / 3:=nxc_div c
 unfold fS
 rw [e]
 unfold nxc
 omega
theorem fS_pvc (l:List Nat) (c:Nat):fS l (pvc c)=pvc (fS l c):=by
 have e:pvc c / 3=c / 3:=pvc_div c
 unfold fS
 rw [e]
 unfold pvc
 omega
theorem SubOk.inj (h:SubOk m T l V) {c d:Nat} (hc:c < 3 * l.length) (hd:d < 3 * l.length) (e:fS l c=fS l d):c=d:=by
 unfold fS at e
 have e1:l.getD (c / 3) 0=l.getD (d / 3) 0:=by omega
 rw [List.getD_eq_getElem?_getD,List.getD_eq_getElem?_getD,List.getElem?_eq_getElem (show c / 3 < l.length by omega),List.getElem?_eq_getElem (show d / 3 < l.length by omega)] at e1
 simp only [Option.getD_some] at e1
 have hp:=List.pairwise_iff_getElem.1 h.up
 rcases Nat.lt_trichotomy (c / 3) (d / 3) with h1 | h1 | h1
 · have:=hp _ _ (by omega) (by omega) h1; omega
 · omega
 have:=hp _ _ (by omega) (by omega) h1; omega
theorem SubOk.ce (h:SubOk m T l V) {c d:Nat} (hc:c < 3 * l.length) (hd:d < 3 * l.length):ce (subT T V l) d=((ce (subT T V l) c).2,(ce (subT T V l) c).1) ↔ Go.Proofs.YtffmfhkiienmaaaGreat.ce T (fS l d)=((Go.Proofs.YtffmfhkiienmaaaGreat.ce T (fS l c)).2,(Go.Proofs.YtffmfhkiienmaaaGreat.ce T (fS l c)).1):=by
 unfold Go.Proofs.YtffmfhkiienmaaaGreat.ce
 rw [(h.cv (nxc_lt hc)).1,(h.cv (pvc_lt hc)).1,(h.cv (nxc_lt hd)).1,(h.cv (pvc_lt hd)).1,← fS_nxc,← fS_pvc,← fS_nxc,← fS_pvc]
 have a1:=(h.cv (nxc_lt hc)).2.1
 have a2:=(h.cv (pvc_lt hc)).2.1
 have a3:=(h.cv (nxc_lt hd)).2.1
 have a4:=(h.cv (pvc_lt hd)).2.1
 have key:∀ a b,a ∈ V → b ∈ V → ((V.idxOf a:Int)=(V.idxOf b:Int) ↔ a=b):=fun a b ha hb =>
  ⟨fun e=>by rw [← gS_idx ha,← gS_idx hb,e],fun e=>by rw [e]⟩
 simp only [Prod.mk.injEq,key _ _ a3 a2,key _ _ a4 a1]
theorem SubOk.emb (h:SubOk m T l V):Emb (subT T V l) T (fS l) (gS V):=by
 have hl:=subT_len T V l
 have hs:=h.surf
 refine ⟨by rw [hl]; exact h.len,fun c hc=>?_,fun c _=>fS_nxc l c,fun c hc=>?_,fun c d hc hd e=>?_,fun c hc=>?_,fun c d hc hd e=>?_⟩
 · rw [hl] at hc
   exact (h.cv hc).2.2
 · rw [hl] at hc
   cases ho:oppF (subT T V l) c with
   | some o =>
    have h1:=(facing_some ho).1
    rw [hl] at h1
    have h2:=(h.ce hc h1).1 (facing_some ho).2
    show facingF T _=some (fS l o)
    exact facing_is h.s (h.cv h1).2.2 h2
   | none =>
    cases hT:oppF T (fS l c) with
    | none=>rfl
    | some o =>
     exfalso
     have h1:=facing_some hT
     have hm:=(h.at_ (i:=c / 3) (by omega)).1
     have hol:o / 3 ∈ l:=h.cl _ _ hm ⟨fS l c,o,(h.cv hc).2.2,by unfold fS; omega,hT,rfl⟩
     obtain ⟨i,hi,e⟩:=List.getElem_of_mem hol
     have e':fS l (3 * i + o % 3)=o:=by
      unfold fS
      rw [show (3 * i + o % 3) / 3=i by omega,List.getD_eq_getElem?_getD,List.getElem?_eq_getElem hi,Option.getD_some,e]
      omega
     have hd:3 * i + o % 3 < 3 * l.length:=by omega
     have h2:=(h.ce hc hd).2 (by rw [e']; exact h1.2)
     have h3:=facing_is hs (by rw [hl]; exact hd) h2
     unfold oppF at ho
     rw [h3] at ho
     cases ho
 · rw [hl] at hc hd
   exact h.inj hc hd e
 · rw [hl] at hc
   rw [(h.cv hc).1,gS_idx (h.cv hc).2.1]
 rw [hl] at hc hd
 rw [(h.cv hc).1,(h.cv hd).1,gS_idx (h.cv hc).2.1,gS_idx (h.cv hd).2.1] at e
 rw [(h.cv hc).1,(h.cv hd).1,e]
end
end
section
section
variable {m:Nat} {T:List Tri}
theorem lst_iff {k x:Nat}:x ∈ lstOf (ofL T) T.length k ↔ x < T.length ∧ ofN T x=k:=by
 unfold lstOf
 rw [List.mem_filter,List.mem_range,decide_eq_true_iff]
 constructor
 · rintro ⟨h1,h2⟩
   rw [ofN_eq h1] at h2
   exact ⟨h1,by omega⟩
 rintro ⟨h1,h2⟩
 refine ⟨h1,?_⟩
 rw [ofN_eq h1,h2]
theorem part_eq (T:List Tri) (k:Nat):partOf T k=⟨((vsL (vtx T (lstOf (ofL T) T.length k))).length:Int),subT T (vsL (vtx T (lstOf (ofL T) T.length k))) (lstOf (ofL T) T.length k),vsL (vtx T (lstOf (ofL T) T.length k)),lstOf (ofL T) T.length k⟩:=rfl
theorem part_sub (hs:SurfE m T) (k:Nat):SubOk m T (partOf T k).l (partOf T k).v:=by
 rw [part_eq]
 refine ⟨hs,(List.pairwise_lt_range).filter _,fun x hx=>(lst_iff.1 hx).1,fun x y hx ha=>?_,(vsL_up _).imp fun {a b} hab=>by omega,fun z=>mem_vsL⟩
 obtain ⟨h1,h2⟩:=lst_iff.1 hx
 refine lst_iff.2 ⟨ha.lt.2,?_⟩
 rw [← h2]
 exact ((ofN_re hs h1 ha.lt.2).2 (.step (.refl _) ha)).symm
theorem part_t (T:List Tri) (k:Nat):(partOf T k).t=subT T (partOf T k).v (partOf T k).l:=rfl
theorem part_n (T:List Tri) (k:Nat):(partOf T k).n=((partOf T k).v.length:Int):=rfl
theorem part_l {k x:Nat}:x ∈ (partOf T k).l ↔ x < T.length ∧ ofN T x=k:=lst_iff
theorem surf_chk {n:Nat} {U:List Tri} (h:SurfE n U):checkR (n:Int) U=(0,0,0):=by
 unfold checkR
 rw [is_surf.2 ⟨n,rfl,h⟩]
 rfl
theorem SubOk.re {l:List Nat} {V:List Int} (h:SubOk m T l V) {i y:Nat} (hi:i < l.length) (hr:Re T (l.getD i 0) y):∃ j,j < l.length ∧ l.getD j 0=y ∧ Re (subT T V l) i j:=by
 induction hr with
 | refl=>exact ⟨i,hi,rfl,.refl _⟩
 | step _ ha ih =>
  obtain ⟨j,hj,rfl,hr⟩:=ih
  obtain ⟨d,o,hd,e,ho,rfl⟩:=ha
  have hc:3 * j + d % 3 < 3 * l.length:=by omega
  have ef:fS l (3 * j + d % 3)=d:=by
   unfold fS
   rw [show (3 * j + d % 3) / 3=j by omega,← e]
   omega
  have hop:=h.emb.op (3 * j + d % 3) (by rw [subT_len]; exact hc)
  rw [ef,ho] at hop
  cases hu:oppF (subT T V l) (3 * j + d % 3) with
  | none=>rw [hu] at hop; cases hop
  | some o' =>
   rw [hu] at hop
   injection hop with hop
   have h1:=(facing_some hu).1
   have h2:=opp_tri hu
   rw [subT_len] at h2
   refine ⟨o' / 3,h2,by rw [hop]; unfold fS; omega,hr.step ⟨3 * j + d % 3,o',by rw [subT_len]; exact hc,by omega,hu,rfl⟩⟩
theorem part_conn (hs:SurfE m T) {k:Nat} (hk:k < kN T):kN (partOf T k).t=1:=by
 have h:=part_sub hs k
 have hsu:=h.surf
 have hl:0 < (partOf T k).l.length:=lst_pos hk
 have hsame:∀ i j,i < (partOf T k).l.length → j < (partOf T k).l.length → ofN (partOf T k).t i=ofN (partOf T k).t j:=fun i j hi hj=>by
  have h1:=part_l.1 (getD_mem hi)
  have h2:=part_l.1 (getD_mem hj)
  have hr:=(ofN_re hs h1.1 h2.1).1 (by rw [h1.2,h2.2])
  obtain ⟨j',hj',e,hr'⟩:=h.re hi hr
  have ej:3 * j'=3 * j:=h.inj (by omega) (by omega) (by unfold fS; rw [show 3 * j' / 3=j' by omega,show 3 * j / 3=j by omega,e]; omega)
  obtain rfl:j'=j:=by omega
  rw [part_t]
  exact (ofN_re hsu (by rw [subT_len]; exact hi) (by rw [subT_len]; exact hj)).2 hr'
 have e0:∀ r,r < kN (partOf T k).t → ∃ x,x < (partOf T k).l.length ∧ ofN (partOf T k).t x=r:=fun r hr=>by
  obtain ⟨x,hx⟩:=List.exists_mem_of_length_pos (lst_pos hr)
  have:=lst_iff.1 hx
  rw [part_t,subT_len] at this
  exact ⟨x,this⟩
 have h0:=ofN_lt (T:=(partOf T k).t) (x:=0) (by rw [part_t,subT_len]; exact hl)
 rcases Nat.lt_or_ge (kN (partOf T k).t) 2 with h2 | h2
 · omega
 obtain ⟨x,hx,ex⟩:=e0 0 (by omega)
 obtain ⟨y,hy,ey⟩:=e0 1 (by omega)
 have:=hsame x y hx hy
 omega
theorem parts_ok (hs:SurfE m T):PartsOk T:=fun k hk=>by
 refine ⟨?_,part_conn hs hk⟩
 rw [part_n,part_t]
 exact surf_chk (part_sub hs k).surf
end
end
section
def Came (T:List Tri) (s:List Nat) (d:Nat):Prop:=∀ o,oppF T d=some o → o / 3 ∈ s.map (· / 3)
structure BR (T:List Tri) (c i:Nat) (s:List Nat):Prop where
 fi:RFi T s
 re:∀ x ∈ s,Re T (c / 3) (x / 3)
 self:∀ x ∈ s,Came T s x
 il:i ≤ s.length
 done:∀ j,j < i → Came T s (nxc (s.getD j 0)) ∧ Came T s (pvc (s.getD j 0))
section
variable {m:Nat} {T:List Tri}
theorem Came.more {s l:List Nat} {d:Nat} (h:Came T s d):Came T (s ++ l) d:=fun o ho=>by
 rw [List.map_append]
 exact List.mem_append_left _ (h o ho)
theorem over_br (hs:SurfE m T) {c i d:Nat} {s:List Nat} (h:BR T c i s) {x:Nat} (hx:x ∈ s) (hd:d < 3 * T.length) (hdx:d / 3=x / 3):BR T c i (overR T d s) ∧ Came T (overR T d s) d:=by
 have hfi:=overR_fi h.fi d
 unfold overR at hfi ⊢
 cases ho:oppF T d with
 | none=>exact ⟨h,fun o e=>by rw [ho] at e; cases e⟩
 | some o =>
  rw [ho] at hfi
  dsimp only at hfi ⊢
  by_cases hm:o / 3 ∈ s.map (· / 3)
  · rw [if_pos hm] at hfi ⊢
    exact ⟨h,fun o' e=>by rw [ho] at e; injection e with e; rw [← e]; exact hm⟩
  rw [if_neg hm] at hfi ⊢
  obtain ⟨b1,_,b2,_⟩:=opp_back hs hd ho
  refine ⟨⟨hfi,fun y hy=>?_,fun y hy=>?_,by have:=h.il; rw [List.length_append]; omega,fun j hj=>?_⟩,fun o' e=>?_⟩
  · rcases List.mem_append.1 hy with hy | hy
    · exact h.re y hy
    rw [List.mem_singleton.1 hy]
    exact (h.re x hx).step ⟨d,o,hd,hdx,ho,rfl⟩
  · rcases List.mem_append.1 hy with hy | hy
    · exact (h.self y hy).more
    rw [List.mem_singleton.1 hy]
    intro o' e
    rw [b2] at e
    injection e with e
    rw [← e,hdx,List.map_append]
    exact List.mem_append_left _ (List.mem_map.2 ⟨x,hx,rfl⟩)
  · have hjl:j < s.length:=Nat.lt_of_lt_of_le hj h.il
    have e:(s ++ [o]).getD j 0=s.getD j 0:=by rw [List.getD_eq_getElem?_getD,List.getElem?_append_left hjl,← List.getD_eq_getElem?_getD]
    rw [e]
    exact ⟨(h.done j hj).1.more,(h.done j hj).2.more⟩
  rw [ho] at e
  injection e with e
  rw [← e,List.map_append]
  exact List.mem_append_right _ (by simp)
theorem over_keep {s:List Nat} {d x:Nat} (h:x ∈ s):x ∈ overR T d s:=by
 obtain ⟨l,e⟩:=overR_more (T:=T) d s
 rw [e]
 exact List.mem_append_left _ h
theorem over_came {s:List Nat} {d e:Nat} (h:Came T s e):Came T (overR T d s) e:=by
 obtain ⟨l,q⟩:=overR_more (T:=T) d s
 rw [q]
 exact h.more
theorem step_br (hs:SurfE m T) {c i:Nat} {s:List Nat} (h:BR T c i s) (hi:i < s.length):BR T c (i + 1) (stepR T (s.getD i 0) s):=by
 have hx:=getD_mem hi
 have hl:=h.fi.lt _ hx
 obtain ⟨h1,g1⟩:=over_br hs h hx (d:=nxc (s.getD i 0)) (nxc_lt hl) (nxc_div _)
 obtain ⟨h2,g2⟩:=over_br hs h1 (over_keep hx) (d:=pvc (s.getD i 0)) (pvc_lt hl) (pvc_div _)
 obtain ⟨l,e⟩:=stepR_more (T:=T) (s.getD i 0) s
 obtain ⟨hl1,he⟩:=more_at e hi
 refine ⟨h2.fi,h2.re,h2.self,hl1,fun j hj=>?_⟩
 rcases Nat.lt_succ_iff_lt_or_eq.1 hj with hj | rfl
 · exact h2.done j hj
 rw [he]
 exact ⟨over_came g1,g2⟩
theorem bfs_br (hs:SurfE m T) {c:Nat}:∀ (f i:Nat) {s:List Nat},T.length + 1 ≤ f + i → BR T c i s → ∃ i',(bfsR T f i s).length ≤ i' ∧ BR T c i' (bfsR T f i s)
 | 0,i,s,hf,h=>⟨i,by have:=h.fi.short; show s.length ≤ i; omega,h⟩
 | f + 1,i,s,hf,h=>by
  by_cases hi:i < s.length
  · rw [bfsR_step hi]
    exact bfs_br hs f (i + 1) (by omega) (step_br hs h hi)
  rw [bfsR_stop (by omega)]
  exact ⟨i,by omega,h⟩
theorem rootC_br (hs:SurfE m T) {c:Nat} (hc:c < 3 * T.length):∃ i',(rootC T c).length ≤ i' ∧ BR T c i' (rootC T c):=by
 refine bfs_br hs _ 0 (by omega) ?_
 unfold overR
 cases ho:oppF T c with
 | none=>exact ⟨⟨fun x hx=>by rw [List.mem_singleton.1 hx]; exact hc,by simp⟩,fun x hx=>(by rw [List.mem_singleton.1 hx]; exact .refl _),fun x hx o e=>(by rw [List.mem_singleton.1 hx,ho] at e; cases e),Nat.zero_le _,fun j hj=>absurd hj (Nat.not_lt_zero j)⟩
 | some o =>
  obtain ⟨b1,_,b2,b3,_⟩:=opp_back hs hc ho
  dsimp only
  have hne:¬ o / 3 ∈ [c].map (· / 3):=by simpa using b3
  rw [if_neg hne]
  refine ⟨⟨fun x hx=>?_,?_⟩,fun x hx=>?_,fun x hx o' e=>?_,Nat.zero_le _,fun j hj=>absurd hj (Nat.not_lt_zero j)⟩
  · simp at hx
    rcases hx with rfl | rfl
    · exact hc
    exact b1
  · simp
    exact fun e=>b3 e.symm
  · simp at hx
    rcases hx with rfl | rfl
    · exact .refl _
    exact (Re.refl _).step ⟨c,x,hc,rfl,ho,rfl⟩
  simp at hx
  rcases hx with rfl | rfl
  · rw [ho] at e
    injection e with e
    rw [← e]
    simp
  rw [b2] at e
  injection e with e
  rw [← e]
  simp
theorem rootC_re (hs:SurfE m T) {c:Nat} (hc:c < 3 * T.length) (y:Nat):y ∈ (rootC T c).map (· / 3) ↔ Re T (c / 3) y:=by
 obtain ⟨i,hi,h⟩:=rootC_br hs hc
 constructor
 · intro hy
   obtain ⟨x,hx,rfl⟩:=List.mem_map.1 hy
   exact h.re x hx
 intro hr
 induction hr with
 | refl =>
  obtain ⟨l,e⟩:=rootC_head (T:=T) c
  rw [e]
  simp
 | step _ ha ih =>
  obtain ⟨x,hx,e⟩:=List.mem_map.1 ih
  obtain ⟨j,hj,ej⟩:=List.getElem_of_mem hx
  obtain ⟨d,o,hd,ed,ho,rfl⟩:=ha
  have hjd:(rootC T c).getD j 0=x:=by rw [List.getD_eq_getElem?_getD,List.getElem?_eq_getElem hj,Option.getD_some,ej]
  have h1:=h.self x hx
  have h2:=h.done j (by omega)
  rw [hjd] at h2
  rcases same_tri.1 (show x / 3=d / 3 by omega) with q | q | q
  · exact h1 o (by rw [← q]; exact ho)
  · exact h2.1 o (by rw [← q]; exact ho)
  exact h2.2 o (by rw [← q]; exact ho)
end
end
section
section
variable {m n:Nat} {T U:List Tri}
theorem putW_iff {o:List Int} {v z:Int}:z ∈ putW o v ↔ z ∈ o ∨ z=v:=by
 unfold putW
 split
 · rename_i h
   exact ⟨.inl,fun e=>by rcases e with e | rfl; exact e; exact h⟩
 rw [List.mem_append,List.mem_singleton]
theorem oldC_iff (cs:List Nat) (z:Int):z ∈ oldC T cs ↔ ∃ x ∈ cs,z=cv T x ∨ z=cv T (nxc x) ∨ z=cv T (pvc x):=by
 unfold oldC
 have:∀ (cs:List Nat) (o:List Int),z ∈ cs.foldl (putX T) o ↔ z ∈ o ∨ ∃ x ∈ cs,z=cv T x ∨ z=cv T (nxc x) ∨ z=cv T (pvc x):=by
  intro cs
  induction cs with
  | nil=>intro o; simp
  | cons c cs ih =>
   intro o
   rw [List.foldl_cons,ih]
   unfold putX
   rw [putW_iff,putW_iff,putW_iff]
   simp only [List.mem_cons,exists_eq_or_imp]
   constructor
   · rintro ((((h | h) | h) | h) | h)
     · exact .inl h
     · exact .inr (.inl (.inl h))
     · exact .inr (.inl (.inr (.inl h)))
     · exact .inr (.inl (.inr (.inr h)))
     exact .inr (.inr h)
   rintro (h | (h | h | h) | h)
   · exact .inl (.inl (.inl (.inl h)))
   · exact .inl (.inl (.inl (.inr h)))
   · exact .inl (.inl (.inr h))
   · exact .inl (.inr h)
   exact .inr h
 rw [this]
 simp
theorem rootO_iff (hs:SurfE m T) {c:Nat} (hc:c < 3 * T.length) (z:Int):z ∈ rootO T c ↔ ∃ x,x < 3 * T.length ∧ Re T (c / 3) (x / 3) ∧ cv T x=z:=by
 unfold rootO
 rw [oldC_iff]
 constructor
 · rintro ⟨x,hx,h⟩
   have hl:=(rootC_fi hc).lt x hx
   have hr:=(rootC_re hs hc (x / 3)).1 (List.mem_map.2 ⟨x,hx,rfl⟩)
   rcases h with rfl | rfl | rfl
   · exact ⟨x,hl,hr,rfl⟩
   · exact ⟨nxc x,nxc_lt hl,by rw [nxc_div]; exact hr,rfl⟩
   exact ⟨pvc x,pvc_lt hl,by rw [pvc_div]; exact hr,rfl⟩
 rintro ⟨x,hl,hr,rfl⟩
 obtain ⟨y,hy,e⟩:=List.mem_map.1 ((rootC_re hs hc (x / 3)).2 hr)
 refine ⟨y,hy,?_⟩
 rcases same_tri.1 (show y / 3=x / 3 from e) with q | q | q
 · exact .inl (by rw [q])
 · exact .inr (.inl (by rw [q]))
 exact .inr (.inr (by rw [q]))
def goesTo (T U:List Tri) (c d:Nat) (v:Int):Int:=(rootO U d).getD ((rootO T c).idxOf v) 0
theorem getD_idxOf {o:List Int} {v:Int} (h:v ∈ o):o.getD (o.idxOf v) 0=v:=by
 rw [List.getD_eq_getElem?_getD,List.getElem?_eq_getElem (List.idxOf_lt_length_iff.2 h),Option.getD_some]
 exact List.getElem_idxOf _
theorem shape_at (hs:SurfE m T) (hu:SurfE n U) {c d:Nat} (hc:c < 3 * T.length) (hd:d < 3 * U.length) (h:rootT T c=rootT U d) {x:Nat} (hx:x ∈ rootC T c) :
  ∃ y ∈ rootC U d,cv U y=goesTo T U c d (cv T x) ∧ cv U (nxc y)=goesTo T U c d (cv T (nxc x)) ∧ cv U (pvc y)=goesTo T U c d (cv T (pvc x)):=by
 obtain ⟨i,hi,rfl⟩:=List.getElem_of_mem hx
 have hlen:(rootC T c).length=(rootC U d).length:=by rw [← rootT_len,← rootT_len,h]
 have hi':i < (rootC U d).length:=by omega
 have e:(rootT T c)[i]?=(rootT U d)[i]?:=by rw [h]
 unfold rootT at e
 rw [List.getElem?_map,List.getElem?_map,List.getElem?_eq_getElem hi,List.getElem?_eq_getElem hi'] at e
 simp only [Option.map_some,Option.some.injEq] at e
 have hy:=List.getElem_mem hi'
 refine ⟨(rootC U d)[i],hy,?_⟩
 unfold triR at e
 injection e with e1 e2 e3
 have m1:cv U (rootC U d)[i] ∈ rootO U d:=(oldC_iff _ _).2 ⟨_,hy,.inl rfl⟩
 have m2:cv U (nxc (rootC U d)[i]) ∈ rootO U d:=(oldC_iff _ _).2 ⟨_,hy,.inr (.inl rfl)⟩
 have m3:cv U (pvc (rootC U d)[i]) ∈ rootO U d:=(oldC_iff _ _).2 ⟨_,hy,.inr (.inr rfl)⟩
 unfold goesTo rootO
 rw [show (oldC T (rootC T c)).idxOf (cv T (rootC T c)[i])=(oldC U (rootC U d)).idxOf (cv U (rootC U d)[i]) by omega,show (oldC T (rootC T c)).idxOf (cv T (nxc (rootC T c)[i]))=(oldC U (rootC U d)).idxOf (cv U (nxc (rootC U d)[i])) by omega,show (oldC T (rootC T c)).idxOf (cv T (pvc (rootC T c)[i]))=(oldC U (rootC U d)).idxOf (cv U (pvc (rootC U d)[i])) by omega]
 exact ⟨(getD_idxOf m1).symm,(getD_idxOf m2).symm,(getD_idxOf m3).symm⟩
theorem shape_tri (hs:SurfE m T) (hu:SurfE n U) {c d:Nat} (hc:c < 3 * T.length) (hd:d < 3 * U.length) (h:rootT T c=rootT U d) {x:Nat} (hx:x < 3 * T.length) (hr:Re T (c / 3) (x / 3)) :
  ∃ y,y < 3 * U.length ∧ Re U (d / 3) (y / 3) ∧ cv U y=goesTo T U c d (cv T x) ∧ cv U (nxc y)=goesTo T U c d (cv T (nxc x)) ∧ cv U (pvc y)=goesTo T U c d (cv T (pvc x)):=by
 obtain ⟨z,hz,e⟩:=List.mem_map.1 ((rootC_re hs hc (x / 3)).2 hr)
 obtain ⟨y,hy,h1,h2,h3⟩:=shape_at hs hu hc hd h hz
 have hl:=(rootC_fi hd).lt y hy
 have hry:=(rootC_re hu hd (y / 3)).1 (List.mem_map.2 ⟨y,hy,rfl⟩)
 rcases same_tri.1 (show z / 3=x / 3 from e) with q | q | q
 · rw [q]
   exact ⟨y,hl,hry,h1,h2,h3⟩
 · rw [q]
   refine ⟨nxc y,nxc_lt hl,by rw [nxc_div]; exact hry,h2,?_,?_⟩
   · rw [nxc_nxc,nxc_nxc]; exact h3
   rw [pvc_nxc,pvc_nxc]; exact h1
 rw [q,← nxc_nxc z]
 refine ⟨pvc y,pvc_lt hl,by rw [pvc_div]; exact hry,?_,?_,?_⟩
 · rw [nxc_nxc]; exact h3
 · rw [← nxc_nxc y,nxc3,nxc3]; exact h1
 rw [← nxc_nxc y,pvc_nxc,pvc_nxc]; exact h2
end
end
section
def GoesC (T U:List Tri) (g:Int → Int) (x y:Nat):Prop:=cv U y=g (cv T x) ∧ cv U (nxc y)=g (cv T (nxc x)) ∧ cv U (pvc y)=g (cv T (pvc x))
structure IsoL (m:Nat) (T U:List Tri) (rn:List Int):Prop where
 len:rn.length=m
 nd:rn.Nodup
 bd:∀ v ∈ rn,0 ≤ v ∧ v < (m:Int)
 tri:∀ x,x < 3 * T.length → ∃ y,y < 3 * U.length ∧ GoesC T U (gS rn) x y
theorem onto_of {N:Nat} {f:Nat → Nat} (hlt:∀ x,x < N → f x < N) (hinj:∀ x y,x < N → y < N → f x=f y → x=y) {y:Nat} (hy:y < N):∃ x,x < N ∧ f x=y:=by
 apply Classical.byContradiction
 intro hno
 have hnd:(y :: (List.range N).map f).Nodup:=by
  rw [List.nodup_cons]
  refine ⟨fun hm=>?_,?_⟩
  · obtain ⟨x,hx,e⟩:=List.mem_map.1 hm
    exact hno ⟨x,List.mem_range.1 hx,e⟩
  unfold List.Nodup
  rw [List.pairwise_map]
  refine (List.Pairwise.and_mem.1 (List.nodup_range (n:=N))).imp ?_
  rintro a b ⟨ha,hb,hab⟩ e
  exact hab (hinj a b (List.mem_range.1 ha) (List.mem_range.1 hb) e)
 have:=nodup_leN N hnd fun x hx=>by
  rcases List.mem_cons.1 hx with rfl | hx
  · exact hy
  obtain ⟨z,hz,rfl⟩:=List.mem_map.1 hx
  exact hlt z (List.mem_range.1 hz)
 rw [List.length_cons,List.length_map,List.length_range] at this
 omega
section
variable {m:Nat} {T U:List Tri} {rn:List Int}
theorem cv_bd (hs:SurfE m T) {x:Nat} (hx:x < 3 * T.length):0 ≤ cv T x ∧ cv T x < (m:Int) :=
 ok_verts (tri_ok hs (i:=x / 3) (by omega)) (verts_corner.2 ⟨x % 3,Nat.mod_lt _ (by decide),rfl⟩)
theorem gS_at {v:Int} (h0:0 ≤ v) (h1:v < (rn.length:Int)):∃ h:v.toNat < rn.length,gS rn v=rn[v.toNat]:=by
 refine ⟨by omega,?_⟩
 unfold gS
 rw [List.getD_eq_getElem?_getD,List.getElem?_eq_getElem (show v.toNat < rn.length by omega),Option.getD_some]
theorem nodup_at {l:List Int} (h:l.Nodup) {i j:Nat} (hi:i < l.length) (hj:j < l.length) (e:l[i]=l[j]):i=j:=by
 have hp:=List.pairwise_iff_getElem.1 h
 rcases Nat.lt_trichotomy i j with h1 | h1 | h1
 · exact absurd e (hp i j hi hj h1)
 · exact h1
 exact absurd e.symm (hp j i hj hi h1)
theorem IsoL.inj (h:IsoL m T U rn) {v w:Int} (hv:0 ≤ v ∧ v < (m:Int)) (hw:0 ≤ w ∧ w < (m:Int)) (e:gS rn v=gS rn w):v=w:=by
 obtain ⟨h1,e1⟩:=gS_at (rn:=rn) hv.1 (by rw [h.len]; exact hv.2)
 obtain ⟨h2,e2⟩:=gS_at (rn:=rn) hw.1 (by rw [h.len]; exact hw.2)
 rw [e1,e2] at e
 have:=nodup_at h.nd h1 h2 e
 omega
theorem goes_nx {g:Int → Int} {x y:Nat} (h:GoesC T U g x y):GoesC T U g (nxc x) (nxc y):=by
 obtain ⟨h1,h2,h3⟩:=h
 refine ⟨h2,?_,?_⟩
 · rw [nxc_nxc,nxc_nxc]; exact h3
 rw [pvc_nxc,pvc_nxc]; exact h1
theorem goes_ce {g:Int → Int} {x y:Nat} (h:GoesC T U g x y):ce U y=(g (ce T x).1,g (ce T x).2):=by
 unfold ce
 rw [h.2.1,h.2.2]
theorem IsoL.emb (h:IsoL m T U rn) (hs:SurfE m T) (hu:SurfE m U) (hl:T.length=U.length):∃ f:Nat → Nat,Emb T U f (gS rn) ∧ (∀ x,x < 3 * T.length → GoesC T U (gS rn) x (f x)) ∧ ∀ y,y < 3 * U.length → ∃ x,x < 3 * T.length ∧ f x=y:=by
 have hch:∃ f:Nat → Nat,∀ x,x < 3 * T.length → f x < 3 * U.length ∧ GoesC T U (gS rn) x (f x):=by
  refine ⟨fun x=>if hx:x < 3 * T.length then Classical.choose (h.tri x hx) else 0,fun x hx=>?_⟩
  dsimp only
  rw [dif_pos hx]
  exact Classical.choose_spec (h.tri x hx)
 obtain ⟨f,hf⟩:=hch
 have hce:∀ x y,x < 3 * T.length → y < 3 * T.length → ce U (f x)=ce U (f y) → ce T x=ce T y:=fun x y hx hy e=>by
  rw [goes_ce (hf x hx).2,goes_ce (hf y hy).2] at e
  injection e with e1 e2
  exact Prod.ext (h.inj (cv_bd hs (nxc_lt hx)) (cv_bd hs (nxc_lt hy)) e1) (h.inj (cv_bd hs (pvc_lt hx)) (cv_bd hs (pvc_lt hy)) e2)
 have hinj:∀ x y,x < 3 * T.length → y < 3 * T.length → f x=f y → x=y:=fun x y hx hy e=>ce_inj hs hx hy (hce x y hx hy (by rw [e]))
 have honto:∀ y,y < 3 * U.length → ∃ x,x < 3 * T.length ∧ f x=y:=fun y hy=>by
  rw [← hl] at hy
  exact onto_of (fun x hx=>by rw [hl]; exact (hf x hx).1) hinj hy
 refine ⟨f,⟨by omega,fun c hc=>(hf c hc).1,fun c hc=>?_,fun c hc=>?_,hinj,fun c hc=>(hf c hc).2.1,fun c d hc hd e=>h.inj (cv_bd hs hc) (cv_bd hs hd) e⟩,fun x hx=>(hf x hx).2,honto⟩
 · have h1:=hf (nxc c) (nxc_lt hc)
   refine ce_inj hu h1.1 (nxc_lt (hf c hc).1) ?_
   rw [goes_ce h1.2,goes_ce (goes_nx (hf c hc).2)]
 cases ho:oppF T c with
 | some o =>
  obtain ⟨h1,h2⟩:=facing_some ho
  show facingF U _=some (f o)
  refine facing_is hu (hf o h1).1 ?_
  rw [goes_ce (hf o h1).2,goes_ce (hf c hc).2,h2]
 | none =>
  cases hU:oppF U (f c) with
  | none=>rfl
  | some o' =>
   exfalso
   obtain ⟨h1,h2⟩:=facing_some hU
   obtain ⟨z,hz,rfl⟩:=honto o' h1
   rw [goes_ce (hf z hz).2,goes_ce (hf c hc).2] at h2
   injection h2 with e1 e2
   have a1:=h.inj (cv_bd hs (nxc_lt hz)) (cv_bd hs (pvc_lt hc)) e1
   have a2:=h.inj (cv_bd hs (pvc_lt hz)) (cv_bd hs (nxc_lt hc)) e2
   have:=facing_is hs hz (show ce T z=((ce T c).2,(ce T c).1) from Prod.ext a1 a2)
   unfold oppF at ho
   rw [this] at ho
   cases ho
end
end
section
theorem triN_inj:∀ {A B:List Tri},triN A=triN B → A=B
 | [],[],_=>rfl
 | [],b :: B,h=>by simp [triN] at h
 | a :: A,[],h=>by simp [triN] at h
 | a :: A,b :: B,h=>by
  unfold triN at h
  rw [List.flatMap_cons,List.flatMap_cons] at h
  simp only [List.cons_append,List.nil_append,List.cons.injEq] at h
  obtain ⟨h1,h2,h3,h4⟩:=h
  have:=triN_inj (A:=A) (B:=B) h4
  obtain ⟨a1,a2,a3⟩:=a
  obtain ⟨b1,b2,b3⟩:=b
  simp_all
section
variable {m:Nat} {T:List Tri}
theorem rowC_eq {U:List Tri} {c d:Nat}:rowC T c=rowC U d ↔ (rootO T c).length=(rootO U d).length ∧ rootT T c=rootT U d:=by
 unfold rowC rowL
 constructor
 · intro h
   simp only [List.cons.injEq] at h
   exact ⟨by omega,triN_inj h.2.2⟩
 rintro ⟨h1,h2⟩
 rw [h1,h2]
theorem part_corner (hs:SurfE m T) {k c:Nat} (hc:c < 3 * (partOf T k).l.length):fS (partOf T k).l c < 3 * T.length ∧ ofN T (fS (partOf T k).l c / 3)=k:=by
 have h:=part_sub hs k
 refine ⟨(h.cv hc).2.2,?_⟩
 have e:fS (partOf T k).l c / 3=(partOf T k).l.getD (c / 3) 0:=by unfold fS; omega
 rw [e]
 exact (part_l.1 (getD_mem (by omega))).2
theorem part_back (hs:SurfE m T) {k d:Nat} (hd:d < 3 * T.length) (hk:ofN T (d / 3)=k):∃ c,c < 3 * (partOf T k).l.length ∧ fS (partOf T k).l c=d:=by
 obtain ⟨i,hi,e⟩:=List.getElem_of_mem (part_l.2 ⟨by omega,hk⟩:d / 3 ∈ (partOf T k).l)
 refine ⟨3 * i + d % 3,by omega,?_⟩
 unfold fS
 rw [show (3 * i + d % 3) / 3=i by omega,List.getD_eq_getElem?_getD,List.getElem?_eq_getElem hi,Option.getD_some,e]
 omega
theorem part_root (hs:SurfE m T) {k c:Nat} (hc:c < 3 * (partOf T k).l.length):rowC (partOf T k).t c=rowC T (fS (partOf T k).l c) ∧ (rootO (partOf T k).t c).map (gS (partOf T k).v)=rootO T (fS (partOf T k).l c):=by
 have h:=(part_sub hs k).emb
 rw [part_t]
 have hc':c < 3 * (subT T (partOf T k).v (partOf T k).l).length:=by rw [subT_len]; exact hc
 exact ⟨(h.rowC hc').symm,(h.rootO hc').symm⟩
theorem part_best (hs:SurfE m T) {k:Nat} (hk:k < kN T):bestN (partOf T k).t 0 < 3 * (partOf T k).l.length ∧ rowC (partOf T k).t (bestN (partOf T k).t 0)=rowC T (bestN T k):=by
 have h1:=(bestN_is (T:=(partOf T k).t) (k:=0) (by rw [part_conn hs hk]; omega)).2
 have h2:=(bestN_is hk).2
 have hlt:bestN (partOf T k).t 0 < 3 * (partOf T k).l.length:=by have:=h1.lt; rw [part_t,subT_len] at this; exact this
 refine ⟨hlt,?_⟩
 obtain ⟨c,hc,e⟩:=part_back hs h2.lt h2.of
 have hall:∀ x,x < (partOf T k).t.length → ofN (partOf T k).t x=0:=fun x hx=>by
  have:=ofN_lt hx
  rw [part_conn hs hk] at this
  omega
 have h3:=h1.le c (by rw [part_t,subT_len]; exact hc) (hall _ (by rw [part_t,subT_len]; omega))
 have h4:=h2.le _ (part_corner hs hlt).1 (part_corner hs hlt).2
 rw [(part_root hs hc).1,e] at h3
 rw [← (part_root hs hlt).1] at h4
 exact ltL_eq h4 h3
theorem kind_form (hs:SurfE m T) {k:Nat} (hk:k < kN T):(kindV (partOf T k)).M=((rootO T (bestN T k)).length:Int) ∧ (kindV (partOf T k)).L=rootT T (bestN T k):=by
 obtain ⟨h1,h2⟩:=part_best hs hk
 obtain ⟨h3,h4⟩:=rowC_eq.1 h2
 unfold kindV
 exact ⟨by dsimp only; rw [h3],h4⟩
def Good (T:List Tri) (k c:Nat):Prop:=c < 3 * T.length ∧ ofN T (c / 3)=k ∧ rowC T c=rowC T (bestN T k)
instance (T:List Tri) (k c:Nat):Decidable (Good T k c):=inferInstanceAs (Decidable (_ ∧ _ ∧ _))
theorem kind_ways (hs:SurfE m T) {k:Nat} (hk:k < kN T):(kindV (partOf T k)).ws=((List.range (3 * (partOf T k).l.length)).filter fun c=>decide (Good T k (fS (partOf T k).l c))).map fun c=>rootO T (fS (partOf T k).l c):=by
 obtain ⟨h1,h2⟩:=part_best hs hk
 unfold kindV waysTo
 dsimp only
 rw [show (partOf T k).t.length=(partOf T k).l.length by rw [part_t,subT_len]]
 have hf:(List.range (3 * (partOf T k).l.length)).filter (goodC (partOf T k).t (rootO (partOf T k).t (bestN (partOf T k).t 0)).length (rootT (partOf T k).t (bestN (partOf T k).t 0)))=(List.range (3 * (partOf T k).l.length)).filter fun c=>decide (Good T k (fS (partOf T k).l c)):=by
  refine List.filter_congr fun c hc=>?_
  have hc:=List.mem_range.1 hc
  unfold goodC
  rw [decide_eq_decide]
  have e:(((rootO (partOf T k).t c).length:Int)=((rootO (partOf T k).t (bestN (partOf T k).t 0)).length:Int) ∧ rootT (partOf T k).t c=rootT (partOf T k).t (bestN (partOf T k).t 0)) ↔ rowC (partOf T k).t c=rowC (partOf T k).t (bestN (partOf T k).t 0):=by
   rw [rowC_eq]
   constructor
   · rintro ⟨a,b⟩; exact ⟨by omega,b⟩
   rintro ⟨a,b⟩; exact ⟨by omega,b⟩
  rw [e,h2,(part_root hs hc).1]
  exact ⟨fun h=>⟨(part_corner hs hc).1,(part_corner hs hc).2,h⟩,fun h=>h.2.2⟩
 rw [hf]
 refine List.map_congr_left fun c hc=>?_
 have hc:=List.mem_range.1 (List.mem_filter.1 hc).1
 exact (part_root hs hc).2
theorem mem_ways (hs:SurfE m T) {k:Nat} (hk:k < kN T) {w:List Int}:w ∈ (kindV (partOf T k)).ws ↔ ∃ c,Good T k c ∧ w=rootO T c:=by
 rw [kind_ways hs hk,List.mem_map]
 constructor
 · rintro ⟨c,hc,rfl⟩
   have:=(List.mem_filter.1 hc).2
   exact ⟨_,of_decide_eq_true this,rfl⟩
 rintro ⟨d,hd,rfl⟩
 obtain ⟨c,hc,e⟩:=part_back hs hd.1 hd.2.1
 exact ⟨c,List.mem_filter.2 ⟨List.mem_range.2 hc,decide_eq_true (by rw [e]; exact hd)⟩,by rw [e]⟩
end
end
section
section
variable {m:Nat} {T:List Tri}
theorem rootO_head (hs:SurfE m T) {c:Nat} (hc:c < 3 * T.length):∃ l,rootO T c=cv T c :: cv T (nxc c) :: cv T (pvc c) :: l:=by
 obtain ⟨l,e⟩:=rootC_head (T:=T) c
 obtain ⟨l',e'⟩:=oldC_more (T:=T) [c] l
 obtain ⟨h1,h2,h3⟩:=cv_ne hs hc
 have h0:oldC T [c]=[cv T c,cv T (nxc c),cv T (pvc c)]:=by
  unfold oldC putX
  simp only [List.foldl_cons,List.foldl_nil]
  unfold putW
  rw [if_neg (by simp:cv T c ∉ ([]:List Int)),if_neg (by simp; exact fun e=>h1 e.symm:cv T (nxc c) ∉ ([] ++ [cv T c]))]
  rw [if_neg (by simp; exact ⟨fun e=>h3 e,fun e=>h2 e.symm⟩)]
  rfl
 refine ⟨l',?_⟩
 unfold rootO
 rw [e,show c :: l=[c] ++ l from rfl,e',h0]
 rfl
theorem rootO_inj (hs:SurfE m T) {c d:Nat} (hc:c < 3 * T.length) (hd:d < 3 * T.length) (e:rootO T c=rootO T d):c=d:=by
 obtain ⟨l,e1⟩:=rootO_head hs hc
 obtain ⟨l',e2⟩:=rootO_head hs hd
 rw [e1,e2] at e
 simp only [List.cons.injEq] at e
 exact ce_inj hs hc hd (Prod.ext e.2.1 e.2.2.1)
theorem ways_nd (hs:SurfE m T) {k:Nat} (hk:k < kN T):(kindV (partOf T k)).ws.Nodup:=by
 rw [kind_ways hs hk]
 unfold List.Nodup
 rw [List.pairwise_map]
 have hn:((List.range (3 * (partOf T k).l.length)).filter fun c=>decide (Good T k (fS (partOf T k).l c))).Nodup:=List.Pairwise.filter _ List.nodup_range
 refine (List.Pairwise.and_mem.1 hn).imp ?_
 rintro a b ⟨ha,hb,hab⟩ e
 have ha:=List.mem_range.1 (List.mem_filter.1 ha).1
 have hb:=List.mem_range.1 (List.mem_filter.1 hb).1
 exact hab ((part_sub hs k).inj ha hb (rootO_inj hs (part_corner hs ha).1 (part_corner hs hb).1 e))
theorem ways_pos (hs:SurfE m T) {k:Nat} (hk:k < kN T):(kindV (partOf T k)).ws ≠ []:=by
 have hb:=(bestN_is hk).2
 have:rootO T (bestN T k) ∈ (kindV (partOf T k)).ws:=(mem_ways hs hk).2 ⟨_,⟨hb.lt,hb.of,rfl⟩,rfl⟩
 exact List.ne_nil_of_mem this
theorem kinds_mem {j:Nat} {k:KindV}:k ∈ kindsL T j ↔ ∃ i,i < j ∧ k=kindV (partOf T i):=by
 unfold kindsL
 rw [List.mem_map]
 constructor
 · rintro ⟨i,hi,rfl⟩
   exact ⟨i,List.mem_range.1 hi,rfl⟩
 rintro ⟨i,hi,rfl⟩
 exact ⟨i,List.mem_range.2 hi,rfl⟩
theorem rootO_bd (hs:SurfE m T) {c:Nat} (hc:c < 3 * T.length):∀ v ∈ rootO T c,0 ≤ v ∧ v < (m:Int):=fun v hv=>by
 obtain ⟨x,hx,_,rfl⟩:=(rootO_iff hs hc v).1 hv
 exact cv_bd hs hx
end
end
section
section
variable {m:Nat} {T U:List Tri} {f:Nat → Nat} {g:Int → Int}
theorem Emb.re (h:Emb T U f g) {x y:Nat} (hx:x < 3 * T.length) (hy:y < 3 * T.length):Re U (f x / 3) (f y / 3) ↔ Re T (x / 3) (y / 3):=by
 constructor
 · intro hr
   have key:∀ t,Re U (f x / 3) t → ∃ y,y < 3 * T.length ∧ f y / 3=t ∧ Re T (x / 3) (y / 3):=by
    intro t ht
    induction ht with
    | refl=>exact ⟨x,hx,rfl,.refl _⟩
    | step _ ha ih =>
     obtain ⟨y,hy,rfl,hr⟩:=ih
     obtain ⟨d',o',hd',e,ho',rfl⟩:=ha
     obtain ⟨d,hd,rfl,hdy⟩:∃ d,d < 3 * T.length ∧ f d=d' ∧ d / 3=y / 3:=by
      rcases same_tri.1 e.symm with q | q | q
      · exact ⟨y,hy,q.symm,rfl⟩
      · exact ⟨nxc y,nxc_lt hy,by rw [h.nx y hy,q],nxc_div y⟩
      exact ⟨pvc y,pvc_lt hy,by rw [h.pv y hy,q],pvc_div y⟩
     have hop:=h.op d hd
     rw [ho'] at hop
     cases ho:oppF T d with
     | none=>rw [ho] at hop; cases hop
     | some o =>
      rw [ho] at hop
      injection hop with hop
      exact ⟨o,(facing_some ho).1,by rw [hop],hr.step ⟨d,o,hd,hdy,ho,rfl⟩⟩
   obtain ⟨z,hz,e,hr⟩:=key _ hr
   rw [← (h.tri hz hy).1 e]
   exact hr
 intro hr
 have key:∀ t,Re T (x / 3) t → ∀ y,y < 3 * T.length → y / 3=t → Re U (f x / 3) (f y / 3):=by
  intro t ht
  induction ht with
  | refl =>
   intro y hy e
   rw [(h.tri hy hx).2 e]
   exact .refl _
  | step _ ha ih =>
   intro y hy e
   obtain ⟨d,o,hd,ed,ho,eo⟩:=ha
   have h1:=ih d hd ed
   have hop:=h.op d hd
   rw [ho] at hop
   have hol:=(facing_some ho).1
   refine h1.step ⟨f d,f o,h.lt d hd,rfl,hop,(h.tri hol hy).2 (by omega)⟩
 exact key _ hr y hy rfl
theorem emb_form (h:Emb T U f g) (hs:SurfE m T) {n:Nat} (hu:SurfE n U) (honto:∀ y,y < 3 * U.length → ∃ x,x < 3 * T.length ∧ f x=y) {c:Nat} (hc:c < 3 * T.length):rowC T (bestN T (ofN T (c / 3)))=rowC U (bestN U (ofN U (f c / 3))):=by
 have hk:=ofN_lt (T:=T) (x:=c / 3) (by omega)
 have hfc:=h.lt c hc
 have hk':=ofN_lt (T:=U) (x:=f c / 3) (by omega)
 have b1:=(bestN_is hk).2
 have b2:=(bestN_is hk').2
 obtain ⟨x,hx,ex⟩:=honto _ b2.lt
 have e1:ofN T (x / 3)=ofN T (c / 3):=by
  refine (ofN_re hs (by omega) (by omega)).2 ((h.re hx hc).1 ?_)
  rw [ex]
  exact (ofN_re hu (by have:=b2.lt; omega) (by omega)).1 b2.of
 have e2:ofN U (f (bestN T (ofN T (c / 3))) / 3)=ofN U (f c / 3):=by
  refine (ofN_re hu (by have:=h.lt _ b1.lt; omega) (by omega)).2 ((h.re b1.lt hc).2 ?_)
  exact (ofN_re hs (by have:=b1.lt; omega) (by omega)).1 b1.of
 have h1:=b1.le x hx e1
 have h2:=b2.le _ (h.lt _ b1.lt) e2
 rw [h.rowC b1.lt] at h2
 rw [← ex,h.rowC hx] at h2 ⊢
 exact ltL_eq h2 h1
theorem emb_good (h:Emb T U f g) (hs:SurfE m T) {n:Nat} (hu:SurfE n U) (honto:∀ y,y < 3 * U.length → ∃ x,x < 3 * T.length ∧ f x=y) {c k:Nat} (hg:Good T k c):Good U (ofN U (f c / 3)) (f c):=by
 obtain ⟨h1,h2,h3⟩:=hg
 refine ⟨h.lt c h1,rfl,?_⟩
 rw [h.rowC h1,h3,← h2]
 exact emb_form h hs hu honto h1
end
end
end Go.Proofs.YtffmfhkiienmaaaGreat
