/- The walk in memory and the walk on corner lists: step by step alike. Plain. -/
import Derived.Test.YtffmfhkiienmaaaGreatWq1
import Derived.Test.YtffmfhkiienmaaaGreatTurV
import Derived.Test.YtffmfhkiienmaaaGreatTurP
set_option maxRecDepth 100000
set_option maxHeartbeats 16000000
set_option linter.all false
namespace Go.Proofs.YtffmfhkiienmaaaGreat
open Go.RowKit
section
variable {m:Nat} {T:List Tri} {V:List Int} {vis:List Nat} {seen:List Int} {Ls more:List (List Nat)} {come come':List Bool} {M M' r:List Way} {x:Way} {x0:Nat} {l:List Nat}
structure SimS (m:Nat) (T:List Tri) (vis:List Nat) (seen:List Int) (Ls:List (List Nat)) (come:List Bool) (M:List Way):Prop where
 inv:WInv T.length (oppC T) (cv T) vis Ls
 ne:vis ≠ []
 sn:∀ v,v ∈ seen ↔ ComeV T.length (cv T) vis v
 lp:M.map (·.2)=Ls.map (vtL (cv T))
 cm:∀ v:Nat,v < m → (come.getD v false=true ↔ (v:Int) ∈ seen)
theorem stepL_v {R:List Int} {mo:List (List Int)} {v:Nat} (hcl:come.length=m) (hv:v < m) (hcm:∀ v:Nat,v < m → (come.getD v false=true ↔ (v:Int) ∈ seen)) :
  (stepL come R mo v).1=(stepV seen R mo (v:Int)).1 ∧ (stepL come R mo v).2.2=(stepV seen R mo (v:Int)).2.2 ∧ ∀ u:Nat,u < m → ((stepL come R mo v).2.1.getD u false=true ↔ (u:Int) ∈ (stepV seen R mo (v:Int)).2.1):=by
 unfold stepL stepV
 by_cases h:(v:Int) ∈ seen
 · rw [if_pos ((hcm v hv).2 h),if_pos h]
   by_cases h1:R.length=3
   · rw [if_pos h1,if_pos h1]
     exact ⟨rfl,rfl,hcm⟩
   rw [if_neg h1,if_neg h1]
   by_cases h2:R.idxOf (v:Int)=R.length - 1
   · rw [if_pos h2,if_pos h2]
     exact ⟨rfl,rfl,hcm⟩
   rw [if_neg h2,if_neg h2]
   by_cases h3:R.idxOf (v:Int)=2
   · rw [if_pos h3,if_pos h3]
     exact ⟨rfl,rfl,hcm⟩
   rw [if_neg h3,if_neg h3]
   exact ⟨rfl,rfl,hcm⟩
 rw [if_neg (fun e=>h ((hcm v hv).1 e)),if_neg h]
 refine ⟨rfl,rfl,fun u hu=>?_⟩
 show (come.set v true).getD u false=true ↔ (u:Int) ∈ seen ++ [(v:Int)]
 rw [List.mem_append,List.mem_singleton,List.getD_eq_getElem?_getD,List.getElem?_set]
 by_cases e:v=u
 · subst e
   simp [hcl,hv]
 rw [if_neg e,← List.getD_eq_getElem?_getD,hcm u hu]
 constructor
 · exact .inl
 rintro (h | h)
 · exact h
 omega
theorem SimS.finds (hS:Sph T.length (oppC T) (cv T) V) (hs:SurfE m T) (h:SimS m T vis seen ((x0 :: l) :: more) come (x :: r)) (hl3:∀ z ∈ x :: r,3 ≤ z.2.length):∃ v:Nat,cv T x0=(v:Int) ∧ v < m ∧ x0 < 3 * T.length ∧ ce T x0=(x.2.getD 0 0,x.2.getD 1 0) ∧ x.2.length ≤ 3 * T.length ∧ r.length ≤ 3 * T.length ∧
  (come.getD v false=true → (v:Int) ∈ x.2 ∧ 2 ≤ x.2.idxOf (v:Int) ∧ x.2.idxOf (v:Int) + 1 ≤ x.2.length):=by
 have hI:=h.inv
 obtain ⟨h0,h1,h2,h3⟩:=hI.cur
 obtain ⟨q1,q2⟩:=cv_bd hs h1
 have hx:x.2=vtL (cv T) (x0 :: l):=by
  have:=h.lp
  simp only [List.map_cons] at this
  injection this
 have hr:r.map (·.2)=more.map (vtL (cv T)):=by
  have:=h.lp
  simp only [List.map_cons] at this
  injection this
 have hfl:((x0 :: l) :: more).flatten.length ≤ 3 * T.length:=nodup_leN _ hI.fnd hI.blt
 have hlen:x.2.length=l.length + 1:=by rw [hx]; unfold vtL; simp
 have hmore:more.length ≤ more.flatten.length:=by
  have:∀ (L:List (List Nat)),(∀ z ∈ L,3 ≤ z.length) → L.length ≤ L.flatten.length:=by
   intro L
   induction L with
   | nil=>intro _; exact Nat.zero_le _
   | cons a t ih =>
    intro h
    have:=ih fun z hz=>h z (.tail _ hz)
    have:=h a (.head _)
    simp only [List.flatten_cons,List.length_append,List.length_cons]
    omega
  exact this more fun z hz=>hI.len z (.tail _ hz)
 have hrl:r.length=more.length:=by
  have:=congrArg List.length hr
  simpa using this
 rw [List.flatten_cons,List.length_append,List.length_cons] at hfl
 have hstep:=step_x hS hI h.sn
 refine ⟨(cv T x0).toNat,by omega,by omega,h1,?_,by omega,by omega,fun hc=>?_⟩
 · match l,hI.path x0 l (.head _),hI.len _ (.head _),hx with
   | [],_,hl,_=>simp at hl
   | x1 :: t,hp,_,hx =>
    obtain ⟨hp1,_⟩:Fan (oppC T) vis x0 x1 ∧ Path (oppC T) vis x1 t x0:=hp
    have:=(hp1.info hS.C h1).2.2.2
    rw [hx]
    show ce T x0=(cv T (nxc x0),cv T (nxc x1))
    rw [this]
    rfl
 have hm:cv T x0 ∈ seen:=by
  have:=(h.cm (cv T x0).toNat (by omega)).1 hc
  rwa [Int.toNat_of_nonneg q1] at this
 obtain ⟨i2,i3⟩:=hstep.2.2 hm
 have e:x.2.idxOf ((cv T x0).toNat:Int)=idxX (cv T) x0 l:=by
  rw [hx,Int.toNat_of_nonneg q1]
  rfl
 rw [e]
 refine ⟨?_,i2,by omega⟩
 have:x.2.idxOf ((cv T x0).toNat:Int) < x.2.length:=by rw [e]; omega
 exact List.idxOf_lt_length_iff.1 this
theorem SimS.step (hS:Sph T.length (oppC T) (cv T) V) (hs:SurfE m T) (h:SimS m T vis seen ((x0 :: l) :: more) come (x :: r)) (hcl:come.length=m) {v k:Nat} (hv:cv T x0=(v:Int)) (hst:stepL come x.2 (r.map (·.2)) v=(k,come',M'.map (·.2))) :
  SimS m T (x0 / 3 :: vis) (stepX (oppC T) (cv T) seen x0 l more).2.1 (stepX (oppC T) (cv T) seen x0 l more).2.2 come' M' ∧ (stepX (oppC T) (cv T) seen x0 l more).1=k:=by
 have hI:=h.inv
 obtain ⟨h0,h1,h2,h3⟩:=hI.cur
 obtain ⟨q1,q2⟩:=cv_bd hs h1
 have hx:x.2=vtL (cv T) (x0 :: l):=by
  have:=h.lp
  simp only [List.map_cons] at this
  injection this
 have hr:r.map (·.2)=more.map (vtL (cv T)):=by
  have:=h.lp
  simp only [List.map_cons] at this
  injection this
 obtain ⟨g1,g2,g3⟩:=step_x hS hI h.sn
 have hV:=stepV_x hS.C.A (seen:=seen) (more:=more) h1 (fun hm=>(g3 hm).1)
 obtain ⟨e1,e2,e3⟩:=stepL_v (R:=x.2) (mo:=r.map (·.2)) hcl (show v < m by omega) h.cm
 rw [hst] at e1 e2 e3
 rw [hx,hr,← hv,hV] at e1 e2 e3
 exact ⟨⟨g1,by simp,g2,e2,e3⟩,e1.symm⟩
theorem SimS.start (hS:Sph T.length (oppC T) (cv T) V) {root:Nat} (hr:root < 3 * T.length) (hM:M.map (·.2)=[[cv T (nxc root),cv T root,cv T (pvc root)]]) (hc:∀ v:Nat,v < m → (come.getD v false=true ↔ (v:Int) ∈ seen0 (cv T) root)):SimS m T [root / 3] (seen0 (cv T) root) [startX (oppC T) root] come M:=by
 obtain ⟨g1,g2⟩:=winv_start hS.C hr
 have hA:=hS.C.A
 refine ⟨g1,by simp,g2,?_,hc⟩
 rw [hM]
 unfold startX vtL
 simp only [List.map_cons,List.map_nil]
 rw [hA.nx _ (pvc_lt hr),hA.nx _ (nxc_lt hr),hA.nx _ hr,tpv_pv,tpv_nx]
end
end Go.Proofs.YtffmfhkiienmaaaGreat
