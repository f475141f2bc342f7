/- Plain facts on what certify tells: triangles that look alike tell alike; twins are told. -/
import Derived.Test.YtffmfhkiienmaaaGreatCert2
import Derived.Test.YtffmfhkiienmaaaGreatB2
import Derived.Test.YtffmfhkiienmaaaGreatCornerB
set_option maxRecDepth 100000
set_option maxHeartbeats 16000000
set_option linter.all false
namespace Go.Proofs.YtffmfhkiienmaaaGreat
open Go.RowKit
section
theorem tri_mem {T:List Tri} {i:Nat} (h:i < T.length):tri T i ∈ T:=List.mem_of_getElem? (tri_at h)
theorem tri_idx {T:List Tri} {t:Tri} (h:t ∈ T):∃ i,i < T.length ∧ tri T i=t:=by
 obtain ⟨i,hi,e⟩:=List.getElem_of_mem h
 exact ⟨i,hi,by rw [tri_of (List.getElem?_eq_getElem hi),e]⟩
theorem verts_mem {t:Tri} {v:Int}:v ∈ verts t ↔ v=t.a ∨ v=t.b ∨ v=t.c:=by simp [verts]
theorem hasV_iff {t:Tri} {v:Nat}:hasV t v=true ↔ (v:Int) ∈ verts t:=by
 unfold hasV
 rw [verts_mem]
 simp only [Bool.or_eq_true,beq_iff_eq]
 constructor
 · rintro ((h | h) | h)
   · exact .inl h.symm
   · exact .inr (.inl h.symm)
   exact .inr (.inr h.symm)
 rintro (h | h | h)
 · exact .inl (.inl h.symm)
 · exact .inl (.inr h.symm)
 exact .inr h.symm
theorem used_iff {T:List Tri} {v:Nat}:usedTo T T.length v=true ↔ ∃ i,i < T.length ∧ (v:Int) ∈ verts (tri T i):=by
 unfold usedTo
 rw [List.take_length,List.any_eq_true]
 constructor
 · rintro ⟨t,ht,h⟩
   obtain ⟨i,hi,rfl⟩:=tri_idx ht
   exact ⟨i,hi,hasV_iff.1 h⟩
 rintro ⟨i,hi,h⟩
 exact ⟨_,tri_mem hi,hasV_iff.2 h⟩
theorem refD_no {test:Tri → Tri → Bool} {T:List Tri} {n:Nat} (h:refD test T n=[]) {a b:Nat} (hab:a < b) (hb:b < n):test (tri T a) (tri T b)=false:=by
 cases ht:test (tri T a) (tri T b) with
 | false=>rfl
 | true =>
  have:=(refD_mem test T n ((a:Int),(b:Int))).2 ⟨a,b,rfl,hab,hb,ht⟩
  rw [h] at this
  cases this
theorem refD_none {test:Tri → Tri → Bool} {T:List Tri} {n:Nat} (h:∀ a b,a < b → b < n → test (tri T a) (tri T b)=false):refD test T n=[]:=by
 cases hr:refD test T n with
 | nil=>rfl
 | cons x l =>
  obtain ⟨a,b,_,hab,hb,ht⟩:=(refD_mem test T n x).1 (by rw [hr]; simp)
  rw [h a b hab hb] at ht
  cases ht
theorem mirrB_iff' {t u:Tri}:mirrB t u=true ↔ ∀ v ∈ verts t,v ∈ verts u:=by
 unfold mirrB
 simp only [Bool.and_eq_true,hasB_iff]
 constructor
 · rintro ⟨⟨h1,h2⟩,h3⟩ v hv
   rcases verts_mem.1 hv with rfl | rfl | rfl <;> assumption
 intro h
 exact ⟨⟨h _ (by simp [verts]),h _ (by simp [verts])⟩,h _ (by simp [verts])⟩
theorem keys2_mem {t:Tri} {x:K3}:x ∈ keys2 t ↔ x=(t.a,t.b,0) ∨ x=(t.b,t.c,0) ∨ x=(t.c,t.a,0):=by simp [keys2]
theorem twice_edges (t u:Tri):twiceB t u=true ↔ ∃ a b,edgeB t a b=true ∧ edgeB u a b=true:=by
 rw [twiceB_iff]
 constructor
 · rintro ⟨⟨a,b,c⟩,h1,h2⟩
   have:c=0:=by
    rcases keys2_mem.1 h1 with h | h | h <;> (simp only [Prod.mk.injEq] at h; exact h.2.2)
   subst this
   exact ⟨a,b,(edgeB_iff _ _ _).2 h2,(edgeB_iff _ _ _).2 h1⟩
 rintro ⟨a,b,h1,h2⟩
 exact ⟨_,(edgeB_iff _ _ _).1 h2,(edgeB_iff _ _ _).1 h1⟩
end
section
def ReachE {α:Type} (R:α → α → Prop) (a b:α):Prop:=∀ S:α → Prop,S a → (∀ x y,S x → R x y → S y) → S b
theorem ReachE.refl {α:Type} (R:α → α → Prop) (a:α):ReachE R a a:=fun _ h _=>h
theorem ReachE.step {α:Type} {R:α → α → Prop} {a b c:α} (h:ReachE R a b) (hr:R b c):ReachE R a c:=fun S ha hs=>hs b c (h S ha hs) hr
theorem ReachE.trans {α:Type} {R:α → α → Prop} {a b c:α} (h:ReachE R a b) (h':ReachE R b c):ReachE R a c:=fun S ha hs=>h' S (h S ha hs) hs
theorem ReachE.symm {α:Type} {R:α → α → Prop} (hs:∀ x y,R x y → R y x) {a b:α} (h:ReachE R a b):ReachE R b a :=
 h (fun x=>ReachE R x a) (ReachE.refl _ _) fun x y hx hr=>ReachE.trans (ReachE.step (ReachE.refl _ _) (hs x y hr)) hx
theorem ReachE.map {α β:Type} {R:α → α → Prop} {R':β → β → Prop} (f:α → β) (hf:∀ x y,R x y → R' (f x) (f y)) {a b:α} (h:ReachE R a b):ReachE R' (f a) (f b) :=
 h (fun x=>ReachE R' (f a) (f x)) (ReachE.refl _ _) fun x y hx hr=>ReachE.step hx (hf x y hr)
def NbrE (T:List Tri) (v:Int) (t u:Tri):Prop:=(t ∈ T ∧ v ∈ verts t) ∧ (u ∈ T ∧ v ∈ verts u) ∧ ∃ w,w ≠ v ∧ w ∈ verts t ∧ w ∈ verts u
theorem NbrE.symm {T:List Tri} {v:Int} (t u:Tri) (h:NbrE T v t u):NbrE T v u t:=by
 obtain ⟨h1,h2,w,h3,h4,h5⟩:=h
 exact ⟨h2,h1,w,h3,h5,h4⟩
def ConnE (T:List Tri) (v:Int):Prop:=∀ t u,t ∈ T → v ∈ verts t → u ∈ T → v ∈ verts u → ReachE (NbrE T v) t u
theorem ok_other {m:Nat} {t:Tri} (h:TriOk m t) (v:Int):∃ w,w ≠ v ∧ w ∈ verts t:=by
 by_cases e:t.a=v
 · exact ⟨t.b,fun e'=>h.ab (e.trans e'.symm),by simp [verts]⟩
 exact ⟨t.a,e,by simp [verts]⟩
theorem pinched_conn {m:Nat} {T:List Tri} (hok:∀ t ∈ T,TriOk m t) (v:Nat):pinchedB T T.length v=false ↔ ConnE T (v:Int):=by
 have hS:∀ i,i ∈ atL T T.length (v:Int) ↔ i < T.length ∧ (v:Int) ∈ verts (tri T i):=fun i=>by
  unfold atL
  rw [List.mem_filter,List.mem_range,decide_eq_true_eq]
 unfold pinchedB
 by_cases h0:atL T T.length (v:Int)=[]
 · rw [h0]
   refine ⟨fun _ t u ht hv _ _=>?_,fun _=>rfl⟩
   obtain ⟨i,hi,rfl⟩:=tri_idx ht
   have:=(hS i).2 ⟨hi,hv⟩
   rw [h0] at this
   cases this
 have e0:(!(atL T T.length (v:Int)).isEmpty)=true:=by
  cases h:atL T T.length (v:Int) with
  | nil=>exact absurd h h0
  | cons a l=>rfl
 rw [e0,Bool.true_and,pinchB_conn (atL_nodup _ _ _) h0,Bool.not_eq_false',connB_iff]
 generalize hSS:atL T T.length (v:Int)=S at *
 have hh:S.headD 0 ∈ S:=by
  cases S with
  | nil=>exact absurd rfl h0
  | cons a l=>simp
 constructor
 · intro hc
   have key:∀ t,t ∈ T → (v:Int) ∈ verts t → ReachE (NbrE T v) (tri T (S.headD 0)) t:=fun t ht hv=>by
    obtain ⟨i,hi,rfl⟩:=tri_idx ht
    exact ReachE.map (R:=fun a b=>a ∈ S ∧ b ∈ S ∧ Nbr T v a b) (tri T) (fun x y ⟨hx,hy,w,h1,h2,h3⟩=>⟨⟨tri_mem ((hS x).1 hx).1,((hS x).1 hx).2⟩,⟨tri_mem ((hS y).1 hy).1,((hS y).1 hy).2⟩,w,h1,h2,h3⟩) (hc i ((hS i).2 ⟨hi,hv⟩))
   exact fun t u ht hv hu hv'=>ReachE.trans (ReachE.symm NbrE.symm (key t ht hv)) (key u hu hv')
 intro hc k hk
 obtain ⟨hk1,hk2⟩:=(hS k).1 hk
 obtain ⟨hh1,hh2⟩:=(hS _).1 hh
 have hr:=hc _ _ (tri_mem hh1) hh2 (tri_mem hk1) hk2
 have:=hr (fun t=>∀ i,i ∈ S → tri T i=t → Reach (fun a b=>a ∈ S ∧ b ∈ S ∧ Nbr T v a b) (S.headD 0) i) (fun i hi e=>by
  obtain ⟨w,h1,h2⟩:=ok_other (hok _ (tri_mem hh1)) (v:Int)
  exact (Reach.refl _ _).step ⟨hh,hi,w,h1,h2,by rw [e]; exact h2⟩) (fun x y hx ⟨⟨hxT,hxv⟩,_,w,h1,h2,h3⟩ i hi e=>by
  obtain ⟨j,hj,rfl⟩:=tri_idx hxT
  exact (hx j ((hS j).2 ⟨hj,hxv⟩) rfl).step ⟨(hS j).2 ⟨hj,hxv⟩,hi,w,h1,h2,by rw [e]; exact h3⟩)
 exact this k hk rfl
theorem pair_iff {test:Tri → Tri → Bool} {T:List Tri}:refD test T T.length=[] ↔ T.Pairwise fun t u=>test t u=false:=by
 rw [List.pairwise_iff_getElem]
 constructor
 · intro h i j hi hj hij
   have:=refD_no h hij hj
   rw [tri_of (List.getElem?_eq_getElem hi),tri_of (List.getElem?_eq_getElem hj)] at this
   exact this
 intro h
 refine refD_none fun a b hab hb=>?_
 rw [tri_of (List.getElem?_eq_getElem (Nat.lt_trans hab hb)),tri_of (List.getElem?_eq_getElem hb)]
 exact h a b _ _ hab
structure SurfE (m:Nat) (T:List Tri):Prop where
 m1:m ≤ 4096
 t1:T.length ≤ 8192
 ok:∀ t ∈ T,TriOk m t
 tw:T.Pairwise fun t u=>twiceB t u=false
 mi:T.Pairwise fun t u=>mirrB t u=false
 used:∀ v,v < m → ∃ t ∈ T,(v:Int) ∈ verts t
 con:∀ v,v < m → ConnE T (v:Int)
theorem surf_e {N:Int} {T:List Tri} {m:Nat}:Surf N T m ↔ N=(m:Int) ∧ SurfE m T:=by
 constructor
 · rintro ⟨h0,h1,h2,hok,h3,h4,h5,h6⟩
   refine ⟨h0,h1,h2,hok,pair_iff.1 h3,pair_iff.1 h4,fun v hv=>?_,fun v hv=>(pinched_conn hok v).1 (h6 v hv)⟩
   obtain ⟨i,hi,hv⟩:=used_iff.1 (h5 v hv)
   exact ⟨_,tri_mem hi,hv⟩
 rintro ⟨h0,h1,h2,hok,h3,h4,h5,h6⟩
 refine ⟨h0,h1,h2,hok,pair_iff.2 h3,pair_iff.2 h4,fun v hv=>used_iff.2 ?_,fun v hv=>(pinched_conn hok v).2 (h6 v hv)⟩
 obtain ⟨t,ht,hv⟩:=h5 v hv
 obtain ⟨i,hi,rfl⟩:=tri_idx ht
 exact ⟨i,hi,hv⟩
theorem is_surf {N:Int} {T:List Tri}:refAll N T=[] ↔ ∃ m:Nat,N=(m:Int) ∧ SurfE m T :=
 ⟨fun h=>(surf_of h).imp fun _=>surf_e.1,fun ⟨_,h⟩=>surf_all (surf_e.2 h)⟩
def shiftT (N:Int) (t:Tri):Tri:=⟨t.a + N,t.b + N,t.c + N⟩
theorem ok_verts {m:Nat} {t:Tri} (h:TriOk m t) {v:Int} (hv:v ∈ verts t):0 ≤ v ∧ v < m:=by
 obtain ⟨a0,a1,b0,b1,c0,c1,_,_,_⟩:=h
 rcases verts_mem.1 hv with rfl | rfl | rfl <;> exact ⟨by assumption,by assumption⟩
end
section
theorem nxc_div (c:Nat):nxc c / 3=c / 3:=by unfold nxc; omega
theorem pvc_div (c:Nat):pvc c / 3=c / 3:=by unfold pvc; omega
theorem nxc_mod (c:Nat):nxc c % 3=(c + 1) % 3:=by unfold nxc; omega
theorem pvc_mod (c:Nat):pvc c % 3=(c + 2) % 3:=by unfold pvc; omega
theorem nxc3 (c:Nat):nxc (nxc (nxc c))=c:=by unfold nxc; omega
theorem pvc_nxc (c:Nat):pvc (nxc c)=c:=by unfold pvc nxc; omega
def ct (t:Tri) (r:Nat):Int × Int:=(cornerT t ((r + 1) % 3),cornerT t ((r + 2) % 3))
theorem ce_ct (T:List Tri) (c:Nat):ce T c=ct (tri T (c / 3)) (c % 3):=by
 unfold ce cv ct
 rw [nxc_div,pvc_div,nxc_mod,pvc_mod]
 congr 2 <;> omega
theorem cv_ct (T:List Tri) (c:Nat):cv T c=cornerT (tri T (c / 3)) (c % 3):=rfl
theorem ct_edge (t:Tri) {r:Nat} (h:r < 3):edgeB t (ct t r).1 (ct t r).2=true:=by
 rcases (by omega:r=0 ∨ r=1 ∨ r=2) with rfl | rfl | rfl <;> simp [ct,cornerT,edgeB]
theorem edge_ct {t:Tri} {a b:Int} (h:edgeB t a b=true):∃ r,r < 3 ∧ ct t r=(a,b):=by
 unfold edgeB at h
 simp only [Bool.or_eq_true,Bool.and_eq_true,beq_iff_eq] at h
 rcases h with (⟨rfl,rfl⟩ | ⟨rfl,rfl⟩) | ⟨rfl,rfl⟩
 · exact ⟨2,by omega,rfl⟩
 · exact ⟨0,by omega,rfl⟩
 exact ⟨1,by omega,rfl⟩
theorem ct_inj {m:Nat} {t:Tri} (h:TriOk m t) {r s:Nat} (hr:r < 3) (hs:s < 3) (e:ct t r=ct t s):r=s:=by
 obtain ⟨_,_,_,_,_,_,ab,bc,ca⟩:=h
 unfold ct at e
 injection e with e1 e2
 rcases (by omega:r=0 ∨ r=1 ∨ r=2) with rfl | rfl | rfl <;> rcases (by omega:s=0 ∨ s=1 ∨ s=2) with rfl | rfl | rfl <;> simp [cornerT] at e1 e2 <;> first | rfl | omega
theorem ct_swap {m:Nat} {t:Tri} (h:TriOk m t) {r s:Nat} (hr:r < 3) (hs:s < 3) (e:ct t s=((ct t r).2,(ct t r).1)):False:=by
 obtain ⟨_,_,_,_,_,_,ab,bc,ca⟩:=h
 unfold ct at e
 injection e with e1 e2
 rcases (by omega:r=0 ∨ r=1 ∨ r=2) with rfl | rfl | rfl <;> rcases (by omega:s=0 ∨ s=1 ∨ s=2) with rfl | rfl | rfl <;> simp [cornerT] at e1 e2 <;> omega
section
variable {m:Nat} {T:List Tri}
theorem tri_ok (h:SurfE m T) {i:Nat} (hi:i < T.length):TriOk m (tri T i):=by
 refine h.ok _ ?_
 rw [tri_of (List.getElem?_eq_getElem hi)]
 exact List.getElem_mem hi
theorem pair_no {test:Tri → Tri → Bool} (h:T.Pairwise fun t u=>test t u=false) {i j:Nat} (hij:i < j) (hj:j < T.length):test (tri T i) (tri T j)=false:=by
 rw [tri_of (List.getElem?_eq_getElem (by omega)),tri_of (List.getElem?_eq_getElem hj)]
 exact List.pairwise_iff_getElem.1 h i j (by omega) hj hij
theorem ce_inj (h:SurfE m T) {c d:Nat} (hc:c < 3 * T.length) (hd:d < 3 * T.length) (e:ce T c=ce T d):c=d:=by
 rw [ce_ct,ce_ct] at e
 have hc3:c / 3 < T.length:=by omega
 have hd3:d / 3 < T.length:=by omega
 have e1:=ct_edge (tri T (c / 3)) (Nat.mod_lt c (by omega:0 < 3))
 have e2:=ct_edge (tri T (d / 3)) (Nat.mod_lt d (by omega:0 < 3))
 rw [e] at e1
 rcases Nat.lt_trichotomy (c / 3) (d / 3) with h1 | h1 | h1
 · have:=pair_no h.tw h1 hd3
   rw [(twice_edges _ _).2 ⟨_,_,e1,e2⟩] at this
   cases this
 · rw [h1] at e
   have:=ct_inj (tri_ok h hd3) (Nat.mod_lt c (by omega)) (Nat.mod_lt d (by omega)) e
   omega
 have:=pair_no h.tw h1 hc3
 rw [(twice_edges _ _).2 ⟨_,_,e2,e1⟩] at this
 cases this
theorem facing_ce (h:SurfE m T) {c:Nat} (hc:c < 3 * T.length):facingF T (ce T c)=some c :=
 leastF_is (Nat.zero_le c) (by omega) (by simp) fun i _ hi=>by
  simp only [decide_eq_false_iff_not]
  intro e
  have:=ce_inj h (by omega) hc e
  omega
theorem facing_some {e:Int × Int} {d:Nat} (h:facingF T e=some d):d < 3 * T.length ∧ ce T d=e:=by
 obtain ⟨_,h2,h3,_⟩:=leastF_some h
 exact ⟨by omega,by simpa using h3⟩
theorem facing_is (h:SurfE m T) {e:Int × Int} {d:Nat} (hd:d < 3 * T.length) (he:ce T d=e):facingF T e=some d:=by
 subst he
 exact facing_ce h hd
def oppF (T:List Tri) (c:Nat):Option Nat:=facingF T ((ce T c).2,(ce T c).1)
theorem opp_back (h:SurfE m T) {c d:Nat} (hc:c < 3 * T.length) (ho:oppF T c=some d):d < 3 * T.length ∧ ce T d=((ce T c).2,(ce T c).1) ∧ oppF T d=some c ∧ d / 3 ≠ c / 3 ∧ cv T d ≠ cv T c:=by
 obtain ⟨hd,e⟩:=facing_some ho
 have hc3:c / 3 < T.length:=by omega
 have hd3:d / 3 < T.length:=by omega
 have hne:d / 3 ≠ c / 3:=fun he=>by
  rw [ce_ct,ce_ct,he] at e
  exact ct_swap (tri_ok h hc3) (Nat.mod_lt c (by omega)) (Nat.mod_lt d (by omega)) e
 refine ⟨hd,e,?_,hne,fun hv=>?_⟩
 · unfold oppF
   rw [e]
   exact facing_ce h hc
 have hall:∀ v,v ∈ verts (tri T (d / 3)) ↔ v ∈ verts (tri T (c / 3)):=by
  intro v
  rw [ce_ct,ce_ct] at e
  rw [cv_ct,cv_ct] at hv
  have r1:=Nat.mod_lt c (by omega:0 < 3)
  have r2:=Nat.mod_lt d (by omega:0 < 3)
  generalize c % 3=r at *
  generalize d % 3=s at *
  generalize tri T (d / 3)=t at *
  generalize tri T (c / 3)=u at *
  unfold ct at e
  injection e with e1 e2
  rw [verts_mem,verts_mem]
  rcases (by omega:r=0 ∨ r=1 ∨ r=2) with rfl | rfl | rfl <;> rcases (by omega:s=0 ∨ s=1 ∨ s=2) with rfl | rfl | rfl <;> simp [cornerT] at e1 e2 hv <;> omega
 have key:∀ t u:Tri,(∀ v,v ∈ verts t ↔ v ∈ verts u) → mirrB t u=true:=fun t u hh=>by
  unfold mirrB hasB
  have ha:=(hh t.a).1 (verts_mem.2 (.inl rfl))
  have hb:=(hh t.b).1 (verts_mem.2 (.inr (.inl rfl)))
  have hc:=(hh t.c).1 (verts_mem.2 (.inr (.inr rfl)))
  rw [verts_mem] at ha hb hc
  simp only [Bool.and_eq_true,Bool.or_eq_true,beq_iff_eq]
  omega
 rcases Nat.lt_or_gt_of_ne hne with h1 | h1
 · have:=pair_no h.mi h1 hc3
   rw [key _ _ hall] at this
   cases this
 have:=pair_no h.mi h1 hd3
 rw [key _ _ fun v=>(hall v).symm] at this
 cases this
end
end
section
structure TabN (w:World) (g m:Nat) (T:List Tri):Prop where
 t:TabAt w 0 g (m:Int) T
 s:SurfE m T
 n:T.length ≤ 1000
section
variable {w w':World} {g m:Nat} {T:List Tri}
theorem TabN.below (h:TabN w g m T) (hb:Below w.heap.size w w'):TabN w' g m T:=⟨h.t.below hb,h.s,h.n⟩
theorem TabN.alloc (h:TabN w g m T) (o:Obj):TabN (w.alloc o) g m T:=⟨h.t.alloc o,h.s,h.n⟩
theorem TabN.drew (h:TabN w g m T):TabN w.drew g m T:=⟨h.t.drew,h.s,h.n⟩
theorem is_int {v:Int} {e:Ending} (h:IsPost w (.int .i64 v) e w'):IntPost w v e w':=⟨h.1,h.2 ▸ Below.refl _ _⟩
theorem TabN.next (h:TabN w g m T) {c:Nat} (hc:c < 3 * T.length):Calls Tryz.prog 18 #[.pointer (some ⟨g,0,none⟩),.int .i64 (c:Int)] w (IntPost w (nxc c:Int)):=by
 have hn:=h.n
 exact nextI_nat hc ▸ (next_any g 0 m T c w (by omega) h.t.s).mono fun e w' h=>is_int h
theorem TabN.prev (h:TabN w g m T) {c:Nat} (hc:c < 3 * T.length):Calls Tryz.prog 19 #[.pointer (some ⟨g,0,none⟩),.int .i64 (c:Int)] w (IntPost w (pvc c:Int)):=by
 have hn:=h.n
 exact prevI_nat hc ▸ (prev_any g 0 m T c w (by omega) h.t.s).mono fun e w' h=>is_int h
theorem TabN.vertex (h:TabN w g m T) {c:Nat} (hc:c < 3 * T.length):Calls Tryz.prog 17 #[.pointer (some ⟨g,0,none⟩),.int .i64 (c:Int)] w (IntPost w (cv T c)):=by
 have hn:=h.n
 exact vertexI_nat hc ▸ (vertex_any g 0 m T c w (by omega) h.t.s).mono fun e w' h=>is_int h
theorem TabN.edge (h:TabN w g m T) {c:Nat} (hc:c < 3 * T.length):Calls Tryz.prog 26 #[.pointer (some ⟨g,0,none⟩),.int .i64 (c:Int)] w (EdPost w (ce T c)):=by
 have hn:=h.n
 exact edgeI_nat hc ▸ edge_any g 0 m T c w (by omega) h.t.s
theorem cv_small (hs:SurfE m T) {c:Nat} (hc:c < 3 * T.length):(Lit.int .i64 (cv T c)).wf=true:=by
 have h1:=cv_ok hs.ok hc
 have h2:=hs.m1
 exact wf_small (by omega) (by omega)
theorem TabN.opp (h:TabN w g m T) {c:Nat} (hc:c < 3 * T.length):Calls Tryz.prog 58 #[.pointer (some ⟨g,0,none⟩),.int .i64 (c:Int)] w (IntPost w (optI (oppF T c))):=by
 have hn:=h.n
 have b1:oppI T (c:Int)=optI (oppF T c):=by unfold oppI oppF facingI; rw [edgeI_nat hc]
 exact b1 ▸ opp_any g 0 m T c w (by omega) (by rw [edgeI_nat hc]; exact ⟨cv_small h.s (pvc_lt hc),cv_small h.s (nxc_lt hc)⟩) h.t
theorem TabN.facing (h:TabN w g m T) {c:Nat} (hc:c < 3 * T.length):Calls Tryz.prog 62 #[.pointer (some ⟨g,0,none⟩),.agg #[.int .i64 (ce T c).1,.int .i64 (ce T c).2]] w (IntPost w (c:Int)):=by
 have hn:=h.n
 have b1:facingI T ((ce T c).1,(ce T c).2)=(c:Int):=by
  rw [show ((ce T c).1,(ce T c).2)=ce T c from rfl]
  unfold facingI
  rw [facing_ce h.s hc]
  rfl
 exact b1 ▸ facing_any g 0 m T (ce T c).1 (ce T c).2 w (by omega) ⟨cv_small h.s (nxc_lt hc),cv_small h.s (pvc_lt hc)⟩ h.t
end
end
section
def Run (f:Nat → Option Nat) (s:Nat):List Nat → Nat → Prop
 | [],_=>False
 | [x],c=>x=c ∧ (f c=none ∨ f c=some s)
 | x :: y :: L,c=>x=c ∧ f c=some y ∧ y ≠ s ∧ Run f s (y :: L) y
def Back (f:Nat → Option Nat) (s:Nat):List Nat → Prop
 | []=>False
 | [x]=>x=s
 | x :: y :: V=>f y=some x ∧ x ≠ s ∧ Back f s (y :: V)
section
variable {f:Nat → Option Nat} {s:Nat}
theorem Run.head {L:List Nat} {c:Nat} (h:Run f s L c):∃ R,L=c :: R:=by
 match L,h with
 | [x],h=>exact ⟨[],by rw [h.1]⟩
 | x :: y :: L,h=>exact ⟨y :: L,by rw [h.1]⟩
theorem back_pred (hi:∀ a b d,f a=some d → f b=some d → a=b) {a d:Nat} (ha:f a=some d) (hd:d ≠ s):∀ {V:List Nat},Back f s V → d ∈ V → ∃ x V',V=x :: V' ∧ a ∈ V'
 | [x],h,hm=>by
  obtain rfl:d=x:=by simpa using hm
  exact absurd h hd
 | x :: y :: V,h,hm=>by
  refine ⟨x,y :: V,rfl,?_⟩
  rcases List.mem_cons.1 hm with rfl | hm
  · rw [hi a y d ha h.1]; simp
  obtain ⟨z,V',e,hz⟩:=back_pred hi ha hd h.2.2 hm
  injection e with _ e
  rw [← e] at hz
  exact List.mem_cons_of_mem _ hz
theorem nodup_leN:∀ (N:Nat) {L:List Nat},L.Nodup → (∀ x ∈ L,x < N) → L.length ≤ N
 | 0,L,_,hl=>by
  cases L with
  | nil=>simp
  | cons x L=>exact absurd (hl x (by simp)) (by omega)
 | N + 1,L,hn,hl=>by
  have h1:=nodup_leN N (L:=L.erase N) (hn.erase N) (fun x hx=>by
   have h2:=(List.Nodup.mem_erase_iff hn).1 hx
   have:=hl x h2.2
   omega)
  by_cases hm:N ∈ L
  · rw [List.length_erase_of_mem hm] at h1; omega
  rw [List.erase_of_not_mem hm] at h1; omega
theorem run_ex (N:Nat) (hi:∀ a b d,f a=some d → f b=some d → a=b) (hN:∀ a d,f a=some d → d < N):∀ (k:Nat) (c:Nat) (V:List Nat),N - V.length ≤ k → Back f s (c :: V) → (c :: V).Nodup → (∀ x ∈ c :: V,x < N) → ∃ L,Run f s L c ∧ (V.reverse ++ L).Nodup ∧ ∀ x ∈ L,x < N
 | 0,c,V,hk,_,hn,hl=>by
  have:=nodup_leN N hn hl
  simp at this
  omega
 | k + 1,c,V,hk,hb,hn,hl=>by
  have hend:∀ h:f c=none ∨ f c=some s,∃ L,Run f s L c ∧ (V.reverse ++ L).Nodup ∧ ∀ x ∈ L,x < N:=fun h=>by
   refine ⟨[c],⟨rfl,h⟩,?_,by simpa using hl c (by simp)⟩
   have:=((List.reverse_perm (c :: V)).nodup_iff).2 hn
   simpa using this
  cases hf:f c with
  | none=>exact hend (.inl hf)
  | some d =>
   by_cases hd:d=s
   · exact hend (.inr (by rw [hf,hd]))
   have hnd:d ∉ c :: V:=fun hm=>by
    obtain ⟨x,V',e,hm'⟩:=back_pred hi hf hd hb hm
    injection e with e1 e2
    subst e1 e2
    exact (List.nodup_cons.1 hn).1 hm'
   have hlen:=nodup_leN N hn hl
   simp at hlen
   obtain ⟨L,h1,h2,h3⟩:=run_ex N hi hN k d (c :: V) (by simp; omega) ⟨hf,hd,hb⟩ (List.nodup_cons.2 ⟨hnd,hn⟩) (fun x hx=>by
    rcases List.mem_cons.1 hx with rfl | hx
    · exact hN c _ hf
    exact hl x hx)
   obtain ⟨R,rfl⟩:=h1.head
   exact ⟨c :: d :: R,⟨rfl,hf,hd,h1⟩,by simpa using h2,fun x hx=>by
    rcases List.mem_cons.1 hx with rfl | hx
    · exact hl _ (by simp)
    exact h3 x hx⟩
theorem run_of (N:Nat) (hi:∀ a b d,f a=some d → f b=some d → a=b) (hN:∀ a d,f a=some d → d < N) {s:Nat} (hs:s < N):∃ L,Run f s L s ∧ L.Nodup ∧ ∀ x ∈ L,x < N:=by
 obtain ⟨L,h1,h2,h3⟩:=run_ex (s:=s) N hi hN N s [] (by simp) rfl (by simp) (by simpa using hs)
 exact ⟨L,h1,by simpa using h2,h3⟩
def lastN:List Nat → Nat → Nat
 | [],d=>d
 | x :: L,_=>lastN L x
theorem lastN_mem:∀ {L:List Nat} {c:Nat},L ≠ [] → lastN L c ∈ L
 | [x],c,_=>by simp [lastN]
 | x :: y :: L,c,_=>List.mem_cons_of_mem _ (lastN_mem (L:=y :: L) (c:=x) (by simp))
theorem Run.last:∀ {L:List Nat} {c:Nat},Run f s L c → f (lastN L c)=none ∨ f (lastN L c)=some s
 | [x],c,h=>by obtain ⟨rfl,h⟩:=h; exact h
 | x :: y :: L,c,h=>by
  obtain ⟨rfl,h1,h2,h3⟩:=h
  exact Run.last (L:=y :: L) (c:=y) h3
theorem Run.pred:∀ {L:List Nat} {c:Nat},Run f s L c → ∀ y ∈ L,y ≠ c → ∃ x ∈ L,f x=some y
 | [x],c,h,y,hy,hn=>by obtain ⟨rfl,h⟩:=h; exact absurd (by simpa using hy) hn
 | x :: z :: L,c,h,y,hy,hn=>by
  obtain ⟨rfl,h1,h2,h3⟩:=h
  by_cases e:y=z
  · subst e; exact ⟨x,by simp,h1⟩
  rcases List.mem_cons.1 hy with rfl | hy
  · exact absurd rfl hn
  obtain ⟨u,hu,e⟩:=Run.pred h3 y hy e
  exact ⟨u,List.mem_cons_of_mem _ hu,e⟩
theorem Run.succ:∀ {L:List Nat} {c:Nat},Run f s L c → ∀ x ∈ L,∀ y,f x=some y → y=s ∨ y ∈ L
 | [x],c,h,y,hy,z,hz=>by
  obtain ⟨rfl,h⟩:=h
  obtain rfl:y=x:=by simpa using hy
  rcases h with h | h <;> rw [hz] at h
  · cases h
  injection h with h; exact .inl h
 | x :: z :: L,c,h,y,hy,u,hu=>by
  obtain ⟨rfl,h1,h2,h3⟩:=h
  rcases List.mem_cons.1 hy with rfl | hy
  · rw [hu] at h1
    injection h1 with h1
    subst h1
    exact .inr (by simp)
  rcases Run.succ h3 y hy u hu with h | h
  · exact .inl h
  exact .inr (List.mem_cons_of_mem _ h)
theorem Run.one:∀ {L M:List Nat} {c:Nat},Run f s L c → Run f s M c → L=M
 | [x],[y],c,h,g=>by rw [h.1,g.1]
 | [x],y :: z :: M,c,h,g=>by
  obtain ⟨rfl,h⟩:=h
  rcases h with h | h <;> rw [g.2.1] at h
  · cases h
  injection h with h; exact absurd h g.2.2.1
 | x :: y :: L,[z],c,h,g=>by
  obtain ⟨rfl,g⟩:=g
  rcases g with g | g <;> rw [h.2.1] at g
  · cases g
  injection g with g; exact absurd g h.2.2.1
 | x :: y :: L,z :: u :: M,c,h,g=>by
  have e:y=u:=by
   have:=h.2.1
   rw [g.2.1] at this
   injection this with this
   exact this.symm
  subst e
  rw [h.1,g.1,Run.one h.2.2.2 g.2.2.2]
theorem Run.all {P:Nat → Prop} (hs:∀ a b,P a → f a=some b → P b):∀ {L:List Nat} {c:Nat},Run f s L c → P c → ∀ x ∈ L,P x
 | [x],c,h,hc,y,hy=>by
  obtain rfl:y=x:=by simpa using hy
  rw [h.1]; exact hc
 | x :: z :: L,c,h,hc,y,hy=>by
  obtain ⟨rfl,h1,h2,h3⟩:=h
  rcases List.mem_cons.1 hy with rfl | hy
  · exact hc
  exact Run.all hs h3 (hs _ _ hc h1) y hy
end
def aftF (T:List Tri) (c:Nat):Option Nat:=if c < 3 * T.length then (oppF T (nxc c)).map nxc else none
def befF (T:List Tri) (c:Nat):Option Nat:=if c < 3 * T.length then (oppF T (pvc c)).map pvc else none
theorem nx_pv (c:Nat):nxc (pvc c)=c:=by unfold pvc nxc; omega
theorem nxc_nxc (c:Nat):nxc (nxc c)=pvc c:=by unfold pvc nxc; omega
theorem pvc_pvc (c:Nat):pvc (pvc c)=nxc c:=by unfold pvc nxc; omega
section
variable {m:Nat} {T:List Tri}
theorem aft_some {c d:Nat} (h:aftF T c=some d):c < 3 * T.length ∧ ∃ o,oppF T (nxc c)=some o ∧ d=nxc o:=by
 unfold aftF at h
 split at h
 · cases ho:oppF T (nxc c) with
   | none=>rw [ho] at h; cases h
   | some o=>rw [ho] at h; injection h with h; exact ⟨by assumption,o,rfl,h.symm⟩
 cases h
theorem bef_some {c d:Nat} (h:befF T c=some d):c < 3 * T.length ∧ ∃ o,oppF T (pvc c)=some o ∧ d=pvc o:=by
 unfold befF at h
 split at h
 · cases ho:oppF T (pvc c) with
   | none=>rw [ho] at h; cases h
   | some o=>rw [ho] at h; injection h with h; exact ⟨by assumption,o,rfl,h.symm⟩
 cases h
theorem aft_bef (h:SurfE m T) {c d:Nat}:aftF T c=some d ↔ befF T d=some c:=by
 constructor
 · intro ha
   obtain ⟨hc,o,ho,rfl⟩:=aft_some ha
   obtain ⟨h1,_,h2,_⟩:=opp_back h (nxc_lt hc) ho
   unfold befF
   rw [if_pos (nxc_lt h1),pvc_nxc,h2,Option.map_some,pvc_nxc]
 intro ha
 obtain ⟨hc,o,ho,rfl⟩:=bef_some ha
 obtain ⟨h1,_,h2,_⟩:=opp_back h (pvc_lt hc) ho
 unfold aftF
 rw [if_pos (pvc_lt h1),nx_pv,h2,Option.map_some,nx_pv]
theorem aft_lt (h:SurfE m T) (a d:Nat) (e:aftF T a=some d):d < 3 * T.length:=(bef_some ((aft_bef h).1 e)).1
theorem aft_inj (h:SurfE m T) (a b d:Nat) (ha:aftF T a=some d) (hb:aftF T b=some d):a=b:=by
 have h1:=(aft_bef h).1 ha
 rw [(aft_bef h).1 hb] at h1
 injection h1 with h1
 exact h1.symm
theorem on_of (h:SurfE m T) {s:Nat} (hs:s < 3 * T.length):∃ L,Run (aftF T) s L s ∧ L.Nodup ∧ ∀ x ∈ L,x < 3 * T.length:=run_of _ (aft_inj h) (aft_lt h) hs
theorem ce_nxc (T:List Tri) (c:Nat):ce T (nxc c)=(cv T (pvc c),cv T c):=by unfold ce; rw [nxc_nxc,pvc_nxc]
theorem ce_pvc (T:List Tri) (c:Nat):ce T (pvc c)=(cv T c,cv T (nxc c)):=by unfold ce; rw [nx_pv,pvc_pvc]
theorem Run.from_mem {f:Nat → Option Nat} {s:Nat} {L:List Nat} (h:Run f s L s):s ∈ L:=by
 obtain ⟨R,rfl⟩:=h.head
 simp
theorem Run.ne {f:Nat → Option Nat} {s c:Nat} {L:List Nat} (h:Run f s L c):L ≠ []:=by
 obtain ⟨R,rfl⟩:=h.head
 simp
structure First (T:List Tri) (s b:Nat) (border:Bool):Prop where
 lt:b < 3 * T.length
 v:cv T b=cv T s
 bor:border=true → befF T b=none
 inn:border=false → b=s ∧ ∀ L,Run (aftF T) b L b → aftF T (lastN L b)=some b
theorem vert_corner {i:Nat} {v:Int} (hi:i < T.length) (hv:v ∈ verts (tri T i)):∃ d,d < 3 * T.length ∧ d / 3=i ∧ cv T d=v:=by
 rcases verts_mem.1 hv with h | h | h
 · exact ⟨3 * i,by omega,by omega,by rw [cv_ct,show 3 * i / 3=i by omega,show 3 * i % 3=0 by omega]; exact h.symm⟩
 · exact ⟨3 * i + 1,by omega,by omega,by rw [cv_ct,show (3 * i + 1) / 3=i by omega,show (3 * i + 1) % 3=1 by omega]; exact h.symm⟩
 exact ⟨3 * i + 2,by omega,by omega,by rw [cv_ct,show (3 * i + 2) / 3=i by omega,show (3 * i + 2) % 3=2 by omega]; exact h.symm⟩
theorem cv_verts {c:Nat}:cv T c ∈ verts (tri T (c / 3)):=by
 rw [cv_ct,verts_mem]
 have:=Nat.mod_lt c (by omega:0 < 3)
 rcases (by omega:c % 3=0 ∨ c % 3=1 ∨ c % 3=2) with h | h | h <;> rw [h] <;> simp [cornerT]
theorem corner_verts {c:Nat} {w:Int} (hw:w ∈ verts (tri T (c / 3))):w=cv T c ∨ w=cv T (nxc c) ∨ w=cv T (pvc c):=by
 rw [cv_ct,cv_ct,cv_ct,nxc_div,pvc_div,nxc_mod,pvc_mod]
 have:=Nat.mod_lt c (by omega:0 < 3)
 have hm:=verts_mem.1 hw
 rcases (by omega:c % 3=0 ∨ c % 3=1 ∨ c % 3=2) with h | h | h
 · rw [h,show (c + 1) % 3=1 by omega,show (c + 2) % 3=2 by omega]; simp only [cornerT]; rcases hm with hm | hm | hm <;> simp [hm]
 · rw [h,show (c + 1) % 3=2 by omega,show (c + 2) % 3=0 by omega]; simp only [cornerT]; rcases hm with hm | hm | hm <;> simp [hm]
 rw [h,show (c + 1) % 3=0 by omega,show (c + 2) % 3=1 by omega]; simp only [cornerT]; rcases hm with hm | hm | hm <;> simp [hm]
theorem corner_one (h:SurfE m T) {c d:Nat} (hc:c < 3 * T.length) (hd:d < 3 * T.length) (ht:tri T (c / 3)=tri T (d / 3)) (hv:cv T c=cv T d):c=d:=by
 have hok:=tri_ok h (show c / 3 < T.length by omega)
 obtain ⟨_,_,_,_,_,_,ab,bc,ca⟩:=hok
 refine ce_inj h hc hd ?_
 rw [ce_ct,ce_ct,← ht]
 rw [cv_ct,cv_ct,← ht] at hv
 have r1:=Nat.mod_lt c (by omega:0 < 3)
 have r2:=Nat.mod_lt d (by omega:0 < 3)
 have:c % 3=d % 3:=by
  rcases (by omega:c % 3=0 ∨ c % 3=1 ∨ c % 3=2) with h1 | h1 | h1 <;> rcases (by omega:d % 3=0 ∨ d % 3=1 ∨ d % 3=2) with h2 | h2 | h2 <;> rw [h1,h2] at hv <;> simp [cornerT] at hv <;> first | omega | (rw [h1,h2])
 rw [this]
theorem around_pred (h:SurfE m T) {s b:Nat} {border:Bool} (hb:First T s b border) {L:List Nat} (hL:Run (aftF T) b L b):∀ y ∈ L,∀ x,aftF T x=some y → x ∈ L:=fun y hy x hx=>by
 by_cases e:y=b
 · subst e
   cases border with
   | true=>exact absurd (hb.bor rfl) (by simp [(aft_bef h).1 hx])
   | false =>
    rw [aft_inj h _ _ _ hx ((hb.inn rfl).2 L hL)]
    exact lastN_mem hL.ne
 obtain ⟨z,hz,e'⟩:=hL.pred y hy e
 rw [aft_inj h _ _ _ hx e']
 exact hz
theorem around_all (h:SurfE m T) {s b:Nat} {border:Bool} (hb:First T s b border) {L:List Nat} (hL:Run (aftF T) b L b):∀ c,c < 3 * T.length → cv T c=cv T b → c ∈ L:=by
 have hsucc:∀ x ∈ L,∀ y,aftF T x=some y → y ∈ L:=fun x hx y hy=>by
  rcases hL.succ x hx y hy with rfl | h
  · exact hL.from_mem
  exact h
 have hpred:=around_pred h hb hL
 have hb3:=hb.lt
 intro c hc hv
 have hcon:ConnE T (cv T b):=by
  obtain ⟨q1,q2⟩:=ok_verts (tri_ok h (show b / 3 < T.length by omega)) (cv_verts (T:=T) (c:=b))
  obtain ⟨k,hk⟩:=Int.eq_ofNat_of_zero_le q1
  rw [hk]
  exact h.con k (by omega)
 have hr:=hcon (tri T (b / 3)) (tri T (c / 3)) (tri_mem (by omega)) cv_verts (tri_mem (by omega)) (by rw [← hv]; exact cv_verts)
 refine hr (fun t=>∀ c,c < 3 * T.length → tri T (c / 3)=t → cv T c=cv T b → c ∈ L) (fun c hc ht hv=>?_) (fun x y hx hn c hc ht hv=>?_) c hc rfl hv
 · rw [corner_one h hc hb3 ht hv]
   exact hL.from_mem
 obtain ⟨⟨hxT,hxv⟩,⟨hyT,hyv⟩,w,hwv,hwx,hwy⟩:=hn
 obtain ⟨i,hi,rfl⟩:=tri_idx hxT
 obtain ⟨d,hd,hdi,hdv⟩:=vert_corner hi hxv
 have hdL:=hx d hd (by rw [hdi]) hdv
 rw [← hdi] at hwx
 rw [← ht] at hwy
 rcases (corner_verts hwx).resolve_left (by rw [hdv]; exact hwv) with h1 | h1 <;> rcases (corner_verts hwy).resolve_left (by rw [hv]; exact hwv) with h2 | h2
 · have:=ce_inj h (pvc_lt hd) (pvc_lt hc) (by rw [ce_pvc,ce_pvc,hdv,hv,← h1,← h2])
   rw [← nx_pv c,← this,nx_pv]; exact hdL
 · refine hpred d hdL c ?_
   unfold aftF oppF
   rw [if_pos hc,ce_nxc,facing_is h (pvc_lt hd) (by rw [ce_pvc,hdv,hv,← h1,← h2]),Option.map_some,nx_pv]
 · refine hsucc d hdL c ?_
   unfold aftF oppF
   rw [if_pos hd,ce_nxc,facing_is h (pvc_lt hc) (by rw [ce_pvc,hdv,hv,← h1,← h2]),Option.map_some,nx_pv]
 have:=ce_inj h (nxc_lt hd) (nxc_lt hc) (by rw [ce_nxc,ce_nxc,hdv,hv,← h1,← h2])
 rw [← pvc_nxc c,← this,pvc_nxc]; exact hdL
theorem cornerF_some {v:Int} {s:Nat} (h:cornerF T v=some s):s < 3 * T.length ∧ cv T s=v ∧ ∀ i,i < s → cv T i ≠ v:=by
 obtain ⟨_,h2,h3,h4⟩:=leastF_some h
 exact ⟨by omega,by simpa using h3,fun i hi=>by simpa using h4 i (Nat.zero_le _) hi⟩
theorem cornerF_used (h:SurfE m T) {v:Nat} (hv:v < m):∃ s,cornerF T (v:Int)=some s:=by
 obtain ⟨t,ht,hvt⟩:=h.used v hv
 obtain ⟨i,hi,rfl⟩:=tri_idx ht
 obtain ⟨d,hd,_,e⟩:=vert_corner hi hvt
 cases hc:cornerF T (v:Int) with
 | some s=>exact ⟨s,rfl⟩
 | none =>
  have:=leastF_none hc d (Nat.zero_le _) (by omega)
  simp [e] at this
end
section
variable {α:Type} [DecidableEq α] {l:Nat → α}
theorem snocInd {β:Type} {P:List β → Prop} (h0:P []) (h1:∀ L c,P L → P (L ++ [c])) (L:List β):P L:=by
 have h:∀ L:List β,P L.reverse:=by
  intro L
  induction L with
  | nil=>exact h0
  | cons a L ih=>simpa using h1 _ a ih
 simpa using h L.reverse
end
end
section
def overS (T:List Tri) (n d:Nat) (s:List Int × List Nat):List Int × List Nat :=
 match oppF T d with
 | none=>s
 | some o=>if s.1.getD (o / 3) 0 < 0 then (s.1.set (o / 3) (n:Int),s.2 ++ [o / 3]) else s
def overN (T:List Tri) (n t:Nat):Nat → List Int × List Nat → List Int × List Nat
 | 0,s=>s
 | j + 1,s=>overS T n (3 * t + j) (overN T n t j s)
def bfsS (T:List Tri) (n:Nat):Nat → Nat → List Int × List Nat → List Int × List Nat
 | 0,_,s=>s
 | f + 1,i,s=>if i < s.2.length then bfsS T n f (i + 1) (overN T n (s.2.getD i 0) 3 s) else s
def shellS (T:List Tri) (first:Nat) (st:List Int × Nat):List Int × Nat :=
 if 0 ≤ st.1.getD first 0 then st else ((bfsS T st.2 (T.length + 1) 0 (st.1.set first (st.2:Int),[first])).1,st.2 + 1)
def ofS (T:List Tri):Nat → List Int × Nat
 | 0=>(List.replicate T.length (-1),0)
 | k + 1=>shellS T k (ofS T k)
def ofL (T:List Tri):List Int:=(ofS T T.length).1
def countL (T:List Tri):Nat:=(ofS T T.length).2
section
variable {T:List Tri} {n:Nat}
theorem getD_set {O:List Int} {i j:Nat} {v:Int} (hi:i < O.length):(O.set i v).getD j 0=if i=j then v else O.getD j 0:=by
 rw [List.getD_eq_getElem?_getD,List.getD_eq_getElem?_getD,List.getElem?_set]
 by_cases h:i=j
 · subst h; simp [hi]
 rw [if_neg h,if_neg h]
structure BFi (T:List Tri) (n:Nat) (s:List Int × List Nat):Prop where
 len:s.1.length=T.length
 nd:s.2.Nodup
 lt:∀ x ∈ s.2,x < T.length
 ge:∀ x ∈ s.2,0 ≤ s.1.getD x 0
 val:∀ x,s.1.getD x 0 < 0 ∨ s.1.getD x 0 ≤ (n:Int)
theorem BFi.short {s:List Int × List Nat} (h:BFi T n s):s.2.length ≤ T.length:=nodup_leN _ h.nd h.lt
theorem opp_tri {d o:Nat} (h:oppF T d=some o):o / 3 < T.length:=by have:=(facing_some h).1; omega
theorem overS_bf {s:List Int × List Nat} (h:BFi T n s) (d:Nat):BFi T n (overS T n d s):=by
 unfold overS
 cases ho:oppF T d with
 | none=>exact h
 | some o =>
  have hl:=opp_tri ho
  dsimp only
  by_cases hn:s.1.getD (o / 3) 0 < 0
  · rw [if_pos hn]
    have hl':o / 3 < s.1.length:=by rw [h.len]; exact hl
    refine ⟨by rw [List.length_set]; exact h.len,?_,fun x hx=>?_,fun x hx=>?_,fun x=>?_⟩
    · rw [List.nodup_append]
      exact ⟨h.nd,by simp,fun a ha b hb e=>by
       rw [List.mem_singleton.1 hb] at e
       have:=h.ge a ha
       rw [e] at this; omega⟩
    · rcases List.mem_append.1 hx with hx | hx
      · exact h.lt x hx
      rw [List.mem_singleton.1 hx]; exact hl
    · rw [getD_set hl']
      split
      · omega
      rename_i hne
      rcases List.mem_append.1 hx with hx | hx
      · exact h.ge x hx
      exact absurd (List.mem_singleton.1 hx).symm hne
    rw [getD_set hl']
    split
    · omega
    exact h.val x
  rw [if_neg hn]; exact h
theorem overS_more (d:Nat) (s:List Int × List Nat):∃ l,(overS T n d s).2=s.2 ++ l:=by
 unfold overS
 cases oppF T d with
 | none=>exact ⟨[],by simp⟩
 | some o =>
  dsimp only
  split
  · exact ⟨[o / 3],rfl⟩
  exact ⟨[],by simp⟩
theorem overN_more (t:Nat) (s:List Int × List Nat):∀ j,∃ l,(overN T n t j s).2=s.2 ++ l
 | 0=>⟨[],by simp [overN]⟩
 | j + 1=>by
  obtain ⟨l,h⟩:=overN_more t s j
  obtain ⟨l',h'⟩:=overS_more (T:=T) (n:=n) (3 * t + j) (overN T n t j s)
  exact ⟨l ++ l',by show (overS T n _ (overN T n t j s)).2=_; rw [h',h,List.append_assoc]⟩
theorem overN_at {t i j:Nat} {s:List Int × List Nat} (hi:i < s.2.length):i < (overN T n t j s).2.length ∧ (overN T n t j s).2.getD i 0=s.2.getD i 0:=by
 obtain ⟨l,h⟩:=overN_more (T:=T) (n:=n) t s j
 rw [h,List.length_append,List.getD_eq_getElem?_getD,List.getD_eq_getElem?_getD,List.getElem?_append_left hi]
 exact ⟨by omega,rfl⟩
theorem overN_bf {s:List Int × List Nat} (h:BFi T n s) (t:Nat):∀ j,BFi T n (overN T n t j s)
 | 0=>h
 | j + 1=>overS_bf (overN_bf h t j) _
theorem overS_keep {s:List Int × List Nat} {x:Nat} (hx:0 ≤ s.1.getD x 0) (hl:s.1.length=T.length) (d:Nat):(overS T n d s).1.getD x 0=s.1.getD x 0:=by
 unfold overS
 cases ho:oppF T d with
 | none=>rfl
 | some o =>
  dsimp only
  by_cases hn:s.1.getD (o / 3) 0 < 0
  · rw [if_pos hn,getD_set (by rw [hl]; exact opp_tri ho),if_neg (fun e=>by rw [e] at hn; omega)]
  rw [if_neg hn]
theorem overN_keep {s:List Int × List Nat} {x:Nat} (hx:0 ≤ s.1.getD x 0) (h:BFi T n s) (t:Nat):∀ j,(overN T n t j s).1.getD x 0=s.1.getD x 0
 | 0=>rfl
 | j + 1=>by
  have ih:=overN_keep hx h t j
  show (overS T n _ (overN T n t j s)).1.getD x 0=_
  rw [overS_keep (by rw [ih]; exact hx) (overN_bf h t j).len,ih]
theorem bfsS_bf:∀ (f i:Nat) {s:List Int × List Nat},BFi T n s → BFi T n (bfsS T n f i s)
 | 0,_,_,h=>h
 | f + 1,i,s,h=>by
  unfold bfsS
  split
  · exact bfsS_bf f (i + 1) (overN_bf h _ _)
  exact h
theorem bfsS_keep {x:Nat}:∀ (f i:Nat) {s:List Int × List Nat},BFi T n s → 0 ≤ s.1.getD x 0 → (bfsS T n f i s).1.getD x 0=s.1.getD x 0
 | 0,_,_,_,_=>rfl
 | f + 1,i,s,h,hx=>by
  unfold bfsS
  split
  · have e:=overN_keep hx h (s.2.getD i 0) 3
    rw [bfsS_keep f (i + 1) (overN_bf h _ _) (by rw [e]; exact hx),e]
  rfl
theorem bfs_stop {f i:Nat} {s:List Int × List Nat} (h:s.2.length ≤ i):bfsS T n f i s=s:=by
 cases f with
 | zero=>rfl
 | succ f=>unfold bfsS; rw [if_neg (by omega)]
theorem bfs_step {f i:Nat} {s:List Int × List Nat} (h:i < s.2.length):bfsS T n (f + 1) i s=bfsS T n f (i + 1) (overN T n (s.2.getD i 0) 3 s):=by
 rw [bfsS,if_pos h]
structure Ofi (T:List Tri) (k:Nat) (st:List Int × Nat):Prop where
 len:st.1.length=T.length
 n:st.2 ≤ k
 ge:∀ x,x < k → x < T.length → 0 ≤ st.1.getD x 0
 val:∀ x,st.1.getD x 0 < (st.2:Int) ∨ (T.length ≤ x)
theorem first_bf {k:Nat} {st:List Int × Nat} (h:Ofi T k st) (hk:k < T.length):BFi T st.2 (st.1.set k (st.2:Int),[k]) :=
 ⟨by rw [List.length_set]; exact h.len,by simp,fun x hx=>by rw [List.mem_singleton.1 hx]; exact hk,fun x hx=>by
  rw [List.mem_singleton.1 hx,getD_set (by rw [h.len]; exact hk),if_pos rfl]; omega,fun x=>by
  dsimp only
  rw [getD_set (by rw [h.len]; exact hk)]
  split
  · omega
  rcases h.val x with h1 | h1
  · omega
  right
  rw [List.getD_eq_getElem?_getD,List.getElem?_eq_none (by rw [h.len]; exact h1)]
  simp⟩
theorem of_inv:∀ k,k ≤ T.length → Ofi T k (ofS T k)
 | 0,_=>⟨by simp [ofS],Nat.le_refl _,fun x h=>by omega,fun x=>by
   by_cases hx:x < T.length
   · left; show (List.replicate T.length (-1:Int)).getD x 0 < 0
     rw [List.getD_eq_getElem?_getD,List.getElem?_replicate,if_pos hx]; decide
   right; omega⟩
 | k + 1,hk=>by
  have h:=of_inv k (by omega)
  show Ofi T (k + 1) (shellS T k (ofS T k))
  unfold shellS
  by_cases h0:0 ≤ (ofS T k).1.getD k 0
  · rw [if_pos h0]
    refine ⟨h.len,by have:=h.n; omega,fun x hx hl=>?_,h.val⟩
    rcases Nat.lt_succ_iff_lt_or_eq.1 hx with hx | rfl
    · exact h.ge x hx hl
    exact h0
  rw [if_neg h0]
  have hb:=first_bf h (show k < T.length by omega)
  have hb2:=bfsS_bf (T.length + 1) 0 hb
  refine ⟨hb2.len,by have:=h.n; dsimp only; omega,fun x hx hl=>?_,fun x=>?_⟩
  · have hk0:0 ≤ ((ofS T k).1.set k ((ofS T k).2:Int),[k]).1.getD x 0:=by
     dsimp only
     rw [getD_set (by rw [h.len]; omega)]
     split
     · omega
     exact h.ge x (by omega) hl
    rw [bfsS_keep _ _ hb hk0]
    exact hk0
  · dsimp only
    by_cases hx:x < T.length
    · left
      rcases hb2.val x with h1 | h1
      · omega
      omega
    right; omega
theorem ofL_len:(ofL T).length=T.length:=(of_inv T.length (Nat.le_refl _)).len
theorem ofL_in {x:Nat} (hx:x < T.length):0 ≤ (ofL T).getD x 0 ∧ (ofL T).getD x 0 < (countL T:Int):=by
 have h:=of_inv T.length (Nat.le_refl (T.length))
 refine ⟨h.ge x hx hx,?_⟩
 rcases h.val x with h1 | h1
 · exact h1
 omega
theorem countL_le:countL T ≤ T.length:=(of_inv T.length (Nat.le_refl _)).n
end
end
end Go.Proofs.YtffmfhkiienmaaaGreat
