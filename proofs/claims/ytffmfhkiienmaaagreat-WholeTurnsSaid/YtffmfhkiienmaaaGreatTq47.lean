/- A closed surface with as many vertices as a sphere: no ring of edges leaves it in one piece. Plain, of corners and a map that takes each corner across. -/
import Derived.Test.YtffmfhkiienmaaaGreatWy47
set_option maxRecDepth 100000
set_option maxHeartbeats 4000000
set_option maxRecDepth 100000
set_option maxHeartbeats 16000000
set_option linter.all false
namespace Go.Proofs.YtffmfhkiienmaaaGreat
open Go.RowKit
section
section
variable {α:Type} [DecidableEq α] {u:Nat → α} {P Q:Nat → Prop}
inductive EC (u:Nat → α) (P:Nat → Prop):α → α → Prop
 | refl (a:α):EC u P a a
 | fwd {a:α} {d:Nat}:EC u P a (u (nxc d)) → P d → EC u P a (u (pvc d))
 | bwd {a:α} {d:Nat}:EC u P a (u (pvc d)) → P d → EC u P a (u (nxc d))
theorem EC.trans {a b c:α} (h:EC u P a b) (g:EC u P b c):EC u P a c:=by
 induction g with
 | refl=>exact h
 | fwd _ hp ih=>exact ih.fwd hp
 | bwd _ hp ih=>exact ih.bwd hp
theorem EC.symm {a b:α} (h:EC u P a b):EC u P b a:=by
 induction h with
 | refl=>exact .refl _
 | fwd _ hp ih=>exact ((EC.refl _).bwd hp).trans ih
 | bwd _ hp ih=>exact ((EC.refl _).fwd hp).trans ih
theorem EC.to_ {a b:α} (h:EC u P a b) (hpq:∀ d,P d → EC u Q (u (nxc d)) (u (pvc d))):EC u Q a b:=by
 induction h with
 | refl=>exact .refl _
 | fwd _ hp ih=>exact ih.trans (hpq _ hp)
 | bwd _ hp ih=>exact ih.trans (hpq _ hp).symm
theorem nodup_one {β:Type} {k:β} {R:List β} (h:R.Nodup) (hk:∀ r ∈ R,r=k):R.length ≤ 1:=by
 match R,h,hk with
 | [],_,_=>exact Nat.zero_le _
 | [_],_,_=>exact Nat.le_refl _
 | a :: b :: t,h,hk =>
  have:=(List.nodup_cons.1 h).1
  rw [hk a (.head _),← hk b (.tail _ (.head _))] at this
  exact absurd (.head _) this
theorem filter_ne {β:Type} [DecidableEq β] {k:β}:∀ {R:List β},R.Nodup → R.length ≤ (R.filter fun r=>decide (r ≠ k)).length + 1
 | [],_=>Nat.zero_le _
 | a :: t,h=>by
  have ⟨h1,h2⟩:=List.nodup_cons.1 h
  by_cases e:a=k
  · subst e
    have:(t.filter fun r=>decide (r ≠ a))=t:=List.filter_eq_self.2 fun r hr=>by
     simp only [decide_eq_true_eq]
     exact fun e=>h1 (e ▸ hr)
    rw [List.filter_cons_of_neg (by simp),this]
    exact Nat.le_refl _
  rw [List.filter_cons_of_pos (by simpa using e)]
  have:=filter_ne (k:=k) h2
  simp only [List.length_cons]
  omega
theorem labels (u:Nat → α) {V:List α} (hV:V.Nodup):∀ H:List Nat,∃ (lab:α → α) (R:List α),(∀ d ∈ H,lab (u (nxc d))=lab (u (pvc d))) ∧ R.Nodup ∧ (∀ r ∈ R,∃ v ∈ V,lab v=r) ∧ V.length ≤ R.length + H.length
 | []=>⟨id,V,(fun d h=>by cases h),hV,fun r hr=>⟨r,hr,rfl⟩,Nat.le_refl _⟩
 | e :: H=>by
  obtain ⟨lab,R,h1,h2,h3,h4⟩:=labels u hV H
  refine ⟨fun v=>if lab v=lab (u (nxc e)) then lab (u (pvc e)) else lab v,R.filter fun r=>decide (r ≠ lab (u (nxc e))),fun d hd=>?_,h2.filter _,fun r hr=>?_,?_⟩
  · rcases List.mem_cons.1 hd with rfl | hd
    · dsimp only
      rw [if_pos rfl]
      split <;> rfl
    dsimp only
    rw [h1 d hd]
  · obtain ⟨hr,hne⟩:=List.mem_filter.1 hr
    obtain ⟨v,hv,rfl⟩:=h3 r hr
    exact ⟨v,hv,if_neg (by simpa using hne)⟩
  have:=filter_ne (k:=lab (u (nxc e))) h2
  simp only [List.length_cons]
  omega
theorem conn_count {V:List α} (hV:V.Nodup) {H:List Nat} (h:∀ x ∈ V,∀ y ∈ V,EC u (· ∈ H) x y):V.length ≤ H.length + 1:=by
 obtain ⟨lab,R,h1,h2,h3,h4⟩:=labels u hV H
 have hl:∀ {a b:α},EC u (· ∈ H) a b → lab a=lab b:=fun {a b} h=>by
  induction h with
  | refl=>rfl
  | fwd _ hp ih=>rw [ih,h1 _ hp]
  | bwd _ hp ih=>rw [ih,h1 _ hp]
 have:R.length ≤ 1:=by
  match R,h2,h3 with
  | [],_,_=>exact Nat.zero_le _
  | r :: t,h2,h3 =>
   obtain ⟨v,hv,e⟩:=h3 r (.head _)
   exact nodup_one (k:=r) h2 fun r' hr'=>by
    obtain ⟨w,hw,e'⟩:=h3 r' hr'
    rw [← e,← e']
    exact hl (h w hw v hv)
 omega
end
section
variable {α:Type} [DecidableEq α] {F:Nat} {σ:Nat → Nat} {u:Nat → α} {B:Nat → Prop}
structure Across (F:Nat) (σ:Nat → Nat) (u:Nat → α):Prop where
 lt:∀ d,d < 3 * F → σ d < 3 * F
 back:∀ d,d < 3 * F → σ (σ d)=d
 ne:∀ d,d < 3 * F → σ d / 3 ≠ d / 3
 nx:∀ d,d < 3 * F → u (nxc (σ d))=u (pvc d)
 pv:∀ d,d < 3 * F → u (pvc (σ d))=u (nxc d)
inductive ReB (F:Nat) (σ:Nat → Nat) (B:Nat → Prop):Nat → Nat → Prop
 | refl (x:Nat):ReB F σ B x x
 | step {x d:Nat}:ReB F σ B x (d / 3) → d < 3 * F → ¬ B d → ReB F σ B x (σ d / 3)
theorem ReB.out {vis:List Nat} {x y:Nat} (h:ReB F σ B x y) (hx:x ∈ vis) (hy:y ∉ vis):∃ o,o < 3 * F ∧ o / 3 ∈ vis ∧ σ o / 3 ∉ vis ∧ ¬ B o:=by
 induction h with
 | refl=>exact absurd hx hy
 | @step d h hd hB ih =>
  by_cases hv:d / 3 ∈ vis
  · exact ⟨d,hd,hv,hy,hB⟩
  exact ih hv
structure Grown (F:Nat) (σ:Nat → Nat) (u:Nat → α) (B:Nat → Prop) (vis Ed:List Nat):Prop where
 vnd:vis.Nodup
 vlt:∀ x ∈ vis,x < F
 end_:Ed.Nodup
 elt:∀ d ∈ Ed,d < 3 * F ∧ d / 3 ∈ vis
 len:Ed.length=vis.length + 2
 cl:∀ d ∈ Ed,σ d / 3 ∈ vis → σ d ∈ Ed
 blk:∀ d,d < 3 * F → d / 3 ∈ vis → B d → d ∈ Ed
 bd:∀ d,d < 3 * F → d / 3 ∈ vis → σ d / 3 ∉ vis → d ∈ Ed
 con:∀ d e,d < 3 * F → e < 3 * F → d / 3 ∈ vis → e / 3 ∈ vis → EC u (· ∈ Ed) (u d) (u e)
theorem tnx_nx (d:Nat):nxc (nxc d)=pvc d:=by unfold nxc pvc; omega
theorem tpv_nx (d:Nat):pvc (nxc d)=d:=by unfold nxc pvc; omega
theorem tnx_pv (d:Nat):nxc (pvc d)=d:=by unfold nxc pvc; omega
theorem tpv_pv (d:Nat):pvc (pvc d)=nxc d:=by unfold nxc pvc; omega
theorem tnx_div (d:Nat):nxc d / 3=d / 3:=by unfold nxc; omega
theorem tpv_div (d:Nat):pvc d / 3=d / 3:=by unfold pvc; omega
theorem of_tri {c d:Nat} (h:c / 3=d / 3):d=c ∨ d=nxc c ∨ d=pvc c:=by unfold nxc pvc; omega
theorem tnx_ne (d:Nat):nxc d ≠ d ∧ pvc d ≠ d ∧ nxc d ≠ pvc d:=by unfold nxc pvc; omega
theorem grow_start (hF:0 < F) (hA:Across F σ u):Grown F σ u B [0] [0,1,2] where
 vnd:=by simp
 vlt:=fun x hx=>by simp at hx; omega
 end_:=by simp
 elt:=fun d hd=>by simp at hd; constructor; omega; simp; omega
 len:=rfl
 cl:=fun d hd hs=>by
  simp at hd hs
  have:=hA.ne d (by omega)
  omega
 blk:=fun d hd hv _=>by simp at hv ⊢; omega
 bd:=fun d hd hv _=>by simp at hv ⊢; omega
 con:=fun d e hd he hv hw=>by
  simp at hv hw
  have h01:EC u (· ∈ [0,1,2]) (u 0) (u 1):=(EC.refl (P:=(· ∈ [0,1,2])) (u 0)).fwd (d:=2) (by simp)
  have h12:EC u (· ∈ [0,1,2]) (u 1) (u 2):=(EC.refl (P:=(· ∈ [0,1,2])) (u 1)).fwd (d:=0) (by simp)
  have key:∀ d,d < 3 → EC u (· ∈ [0,1,2]) (u 0) (u d):=fun d hd=>by
   rcases (by omega:d=0 ∨ d=1 ∨ d=2) with rfl | rfl | rfl
   · exact .refl _
   · exact h01
   exact h01.trans h12
  exact (key d (by omega)).symm.trans (key e (by omega))
theorem grow_step (hA:Across F σ u) (hB:∀ d,d < 3 * F → B (σ d) → B d) {vis Ed:List Nat} (h:Grown F σ u B vis Ed) {o:Nat} (ho:o < 3 * F) (hv:o / 3 ∈ vis) (hn:σ o / 3 ∉ vis) (hb:¬ B o) :
  Grown F σ u B (σ o / 3 :: vis) (nxc (σ o) :: pvc (σ o) :: Ed.erase o):=by
 obtain ⟨p,hp⟩:=jX (σ o)
 have hpo:σ p=o:=by rw [hp]; exact hA.back o ho
 have hp3:p < 3 * F:=by rw [hp]; exact hA.lt o ho
 have hnx:=hA.nx o ho
 have hpv:=hA.pv o ho
 rw [← hp] at hn hnx hpv ⊢
 have hoE:o ∈ Ed:=h.bd o ho hv (by rw [← hp]; exact hn)
 have hpE:∀ d,d / 3=p / 3 → d ∉ Ed:=fun d e hd=>hn (e ▸ (h.elt d hd).2)
 have hEe:∀ {d},d ∈ Ed.erase o ↔ d ≠ o ∧ d ∈ Ed:=fun {d}=>h.end_.mem_erase_iff
 constructor
 · exact List.nodup_cons.2 ⟨hn,h.vnd⟩
 · intro x hx
   rcases List.mem_cons.1 hx with rfl | hx
   · omega
   exact h.vlt x hx
 · refine List.nodup_cons.2 ⟨fun hm=>?_,List.nodup_cons.2 ⟨fun hm=>hpE _ (tpv_div p) (hEe.1 hm).2,h.end_.erase _⟩⟩
   rcases List.mem_cons.1 hm with e | hm
   · exact (tnx_ne p).2.2 e
   exact hpE _ (tnx_div p) (hEe.1 hm).2
 · intro d hd
   rcases List.mem_cons.1 hd with rfl | hd
   · exact ⟨nxc_lt hp3,by rw [tnx_div]; exact .head _⟩
   rcases List.mem_cons.1 hd with rfl | hd
   · exact ⟨pvc_lt hp3,by rw [tpv_div]; exact .head _⟩
   have:=h.elt d (hEe.1 hd).2
   exact ⟨this.1,.tail _ this.2⟩
 · have:=h.len
   have h0:=List.length_pos_of_mem hoE
   rw [List.length_cons,List.length_cons,List.length_erase_of_mem hoE,List.length_cons]
   omega
 · intro d hd hs
   have hside:∀ d,d / 3=p / 3 → d ≠ p → d < 3 * F → σ d / 3 ∈ p / 3 :: vis → σ d ∈ nxc p :: pvc p :: Ed.erase o:=fun d e hne hlt hs=>by
    rcases List.mem_cons.1 hs with hs | hs
    · exact absurd (hs.trans e.symm) (hA.ne d hlt)
    refine .tail _ (.tail _ (hEe.2 ⟨fun e'=>hne ?_,h.bd _ (hA.lt d hlt) hs (by rw [hA.back d hlt,e]; exact hn)⟩))
    have:=hA.back d hlt
    rw [e',← hp] at this
    exact this.symm
   rcases List.mem_cons.1 hd with rfl | hd
   · exact hside _ (tnx_div p) (tnx_ne p).1 (nxc_lt hp3) hs
   rcases List.mem_cons.1 hd with rfl | hd
   · exact hside _ (tpv_div p) (tnx_ne p).2.1 (pvc_lt hp3) hs
   obtain ⟨hdo,hdE⟩:=hEe.1 hd
   have hdl:=(h.elt d hdE).1
   rcases List.mem_cons.1 hs with hs | hs
   · rcases of_tri hs.symm with e | e | e
     · exfalso
       have:=hA.back d hdl
       rw [e,hpo] at this
       exact hdo this.symm
     · rw [e]; exact .head _
     rw [e]; exact .tail _ (.head _)
   refine .tail _ (.tail _ (hEe.2 ⟨fun e=>?_,h.cl d hdE hs⟩))
   have:=hA.back d hdl
   rw [e,← hp] at this
   exact hpE d (by rw [this]) hdE
 · intro d hd hv' hBd
   rcases List.mem_cons.1 hv' with hv' | hv'
   · rcases of_tri hv'.symm with e | e | e
     · exfalso
       rw [e,hp] at hBd
       exact hb (hB o ho hBd)
     · rw [e]; exact .head _
     rw [e]; exact .tail _ (.head _)
   refine .tail _ (.tail _ (hEe.2 ⟨fun e=>hb (e ▸ hBd),h.blk d hd hv' hBd⟩))
 · intro d hd hv' hn'
   rcases List.mem_cons.1 hv' with hv' | hv'
   · rcases of_tri hv'.symm with e | e | e
     · exfalso
       rw [e,hpo] at hn'
       exact hn' (.tail _ hv)
     · rw [e]; exact .head _
     rw [e]; exact .tail _ (.head _)
   refine .tail _ (.tail _ (hEe.2 ⟨fun e=>hn' ?_,h.bd d hd hv' fun hm=>hn' (.tail _ hm)⟩))
   rw [e,← hp]
   exact .head _
 have e1:EC u (· ∈ nxc p :: pvc p :: Ed.erase o) (u (pvc p)) (u p):=by
  have:=(EC.refl (u:=u) (P:=(· ∈ nxc p :: pvc p :: Ed.erase o)) (u (nxc (nxc p)))).fwd (d:=nxc p) (.head _)
  rw [tnx_nx,tpv_nx] at this
  exact this
 have e2:EC u (· ∈ nxc p :: pvc p :: Ed.erase o) (u p) (u (nxc p)):=by
  have:=(EC.refl (u:=u) (P:=(· ∈ nxc p :: pvc p :: Ed.erase o)) (u (nxc (pvc p)))).fwd (d:=pvc p) (.tail _ (.head _))
  rw [tnx_pv,tpv_pv] at this
  exact this
 have hto:∀ {a b:α},EC u (· ∈ Ed) a b → EC u (· ∈ nxc p :: pvc p :: Ed.erase o) a b:=fun {a b} g=>g.to_ fun d hd=>by
  by_cases e:d=o
  · subst e
    rw [← hnx,← hpv]
    exact e1.trans e2
  exact (EC.refl _).fwd (.tail _ (.tail _ (hEe.2 ⟨e,hd⟩)))
 have hall:∀ d,d < 3 * F → d / 3 ∈ p / 3 :: vis → EC u (· ∈ nxc p :: pvc p :: Ed.erase o) (u (nxc o)) (u d):=fun d hd hv'=>by
  rcases List.mem_cons.1 hv' with hv' | hv'
  · rw [← hpv]
    rcases of_tri hv'.symm with e | e | e
    · rw [e]; exact e1
    · rw [e]; exact e1.trans e2
    rw [e]; exact .refl _
  exact hto (h.con _ _ (nxc_lt ho) hd (by rw [tnx_div]; exact hv) hv')
 exact fun d e hd he hv hw=>(hall d hd hv).symm.trans (hall e he hw)
theorem grow_all (hA:Across F σ u) (hB:∀ d,d < 3 * F → B (σ d) → B d) (hr:∀ x,x < F → ReB F σ B 0 x):∀ (n:Nat) {vis Ed:List Nat},F ≤ vis.length + n → 0 ∈ vis → Grown F σ u B vis Ed → ∃ vis' Ed',(∀ x,x < F → x ∈ vis') ∧ Grown F σ u B vis' Ed'
 | n,vis,Ed,hn,h0,h=>by
  by_cases hall:∀ x,x < F → x ∈ vis
  · exact ⟨vis,Ed,hall,h⟩
  obtain ⟨x,hx⟩:=Classical.not_forall.1 hall
  obtain ⟨hxF,hxv⟩:=Classical.not_imp.1 hx
  obtain ⟨o,ho,hv,hn',hb⟩:=(hr x hxF).out h0 hxv
  match n with
  | 0 =>
   exfalso
   have hsub:(x :: vis).length ≤ (List.range F).length:=List.Nodup.length_le_of_subset (List.nodup_cons.2 ⟨hxv,h.vnd⟩) fun y hy=>by
    rcases List.mem_cons.1 hy with rfl | hy
    · exact List.mem_range.2 hxF
    exact List.mem_range.2 (h.vlt y hy)
   rw [List.length_cons,List.length_range] at hsub
   omega
  | n + 1=>exact grow_all hA hB hr n (by rw [List.length_cons]; omega) (.tail _ h0) (grow_step hA hB h ho hv hn' hb)
theorem no_ring (hA:Across F σ u) (hF:0 < F) (hB:∀ d,d < 3 * F → B (σ d) → B d) (hr:∀ x,x < F → ReB F σ B 0 x) {V:List α} (hV:V.Nodup) (hu:∀ v ∈ V,∃ d,d < 3 * F ∧ u d=v) {w:Nat} (hw:w < 3 * F) (hBw:B w)
  (hring:EC u (fun d=>d < 3 * F ∧ B d ∧ d ≠ w ∧ d ≠ σ w) (u (nxc w)) (u (pvc w))):2 * V.length ≤ F + 2:=by
 obtain ⟨vis,Ed,hall,hg⟩:=grow_all hA hB hr F (vis:=[0]) (Ed:=[0,1,2]) (by simp) (by simp) (grow_start hF hA)
 have hin:∀ d,d < 3 * F → d / 3 ∈ vis:=fun d hd=>hall _ (by omega)
 have hlen:vis.length ≤ F:=by
  have:=List.Nodup.length_le_of_subset hg.vnd (l₂:=List.range F) fun y hy=>List.mem_range.2 (hg.vlt y hy)
  rwa [List.length_range] at this
 have hcl:∀ d ∈ Ed,σ d ∈ Ed:=fun d hd=>hg.cl d hd (hin _ (hA.lt d (hg.elt d hd).1))
 obtain ⟨H,hH⟩:=jX (Ed.filter fun d=>decide (d < σ d))
 have hHm:∀ d,d ∈ H ↔ d ∈ Ed ∧ d < σ d:=fun d=>by rw [hH,List.mem_filter,decide_eq_true_eq]
 have hHn:H.Nodup:=by rw [hH]; exact hg.end_.filter _
 have h2:2 * H.length ≤ Ed.length:=by
  have hm:(H.map σ).Nodup:=by
   refine List.pairwise_map.2 (hHn.imp_of_mem fun {a b} ha hb hab e=>hab ?_)
   have ea:=hA.back a (hg.elt a ((hHm a).1 ha).1).1
   have eb:=hA.back b (hg.elt b ((hHm b).1 hb).1).1
   rw [← ea,← eb,e]
  have hap:(H ++ H.map σ).Nodup:=List.nodup_append.2 ⟨hHn,hm,fun a ha b hb e=>by
   obtain ⟨c,hc,rfl⟩:=List.mem_map.1 hb
   have h1:=(hHm a).1 ha
   have h2:=(hHm c).1 hc
   rw [e,hA.back c (hg.elt c h2.1).1] at h1
   omega⟩
  have:=List.Nodup.length_le_of_subset hap (l₂:=Ed) fun y hy=>by
   rcases List.mem_append.1 hy with hy | hy
   · exact ((hHm y).1 hy).1
   obtain ⟨c,hc,rfl⟩:=List.mem_map.1 hy
   exact hcl c ((hHm c).1 hc).1
  rw [List.length_append,List.length_map] at this
  omega
 have hne:∀ d,d < 3 * F → σ d ≠ d:=fun d hd e=>hA.ne d hd (by rw [e])
 obtain ⟨h0,hh0,h0w⟩:∃ h0,h0 ∈ H ∧ (h0=w ∨ h0=σ w):=by
  have hwE:=hg.blk w hw (hin w hw) hBw
  rcases Nat.lt_or_gt_of_ne (hne w hw) with h | h
  · exact ⟨σ w,(hHm _).2 ⟨hcl w hwE,by rw [hA.back w hw]; exact h⟩,.inr rfl⟩
  exact ⟨w,(hHm _).2 ⟨hwE,h⟩,.inl rfl⟩
 have hsame:∀ d,d < 3 * F → ∀ {K:Nat → Prop},EC u K (u (nxc (σ d))) (u (pvc (σ d))) → EC u K (u (nxc d)) (u (pvc d)):=fun d hd K h=>by
  rw [hA.nx d hd,hA.pv d hd] at h
  exact h.symm
 have hdir:∀ d,d ∈ Ed → d ≠ w → d ≠ σ w → EC u (· ∈ H.erase h0) (u (nxc d)) (u (pvc d)):=fun d hd h1 h2=>by
  have hdl:=(hg.elt d hd).1
  rcases Nat.lt_or_gt_of_ne (hne d hdl) with h | h
  · refine hsame d hdl ((EC.refl _).fwd (hHn.mem_erase_iff.2 ⟨fun e=>?_,(hHm _).2 ⟨hcl d hd,by rw [hA.back d hdl]; exact h⟩⟩))
    have hb:=hA.back d hdl
    rw [e] at hb
    rcases h0w with e' | e'
    · rw [e'] at hb; exact h2 hb.symm
    rw [e',hA.back w hw] at hb; exact h1 hb.symm
  refine (EC.refl _).fwd (hHn.mem_erase_iff.2 ⟨fun e=>?_,(hHm _).2 ⟨hd,h⟩⟩)
  rcases h0w with e' | e'
  · exact h1 (e.trans e')
  exact h2 (e.trans e')
 have hw0:EC u (· ∈ H.erase h0) (u (nxc w)) (u (pvc w)):=hring.to_ fun d ⟨hd,hBd,h1,h2⟩=>hdir d (hg.blk d hd (hin d hd) hBd) h1 h2
 have hall':∀ d ∈ Ed,EC u (· ∈ H.erase h0) (u (nxc d)) (u (pvc d)):=fun d hd=>by
  by_cases h1:d=w
  · rw [h1]; exact hw0
  by_cases h2:d=σ w
  · rw [h2]
    have:=hsame (σ w) (hA.lt w hw) (K:=(· ∈ H.erase h0))
    rw [hA.back w hw] at this
    exact this hw0
  exact hdir d hd h1 h2
 have:=conn_count (u:=u) hV (H:=H.erase h0) fun x hx y hy=>by
  obtain ⟨d,hd,rfl⟩:=hu x hx
  obtain ⟨e,he,rfl⟩:=hu y hy
  exact (hg.con d e hd he (hin d hd) (hin e he)).to_ hall'
 rw [List.length_erase_of_mem hh0] at this
 have hp:=List.length_pos_of_mem hh0
 have:=hg.len
 omega
end
end
section
section
variable {α:Type} [DecidableEq α] {F:Nat} {σ:Nat → Nat} {u:Nat → α} {vis:List Nat}
inductive Rot (σ:Nat → Nat):Nat → Nat → Prop
 | refl (r:Nat):Rot σ r r
 | more {r s:Nat}:Rot σ (σ (nxc r)) s → Rot σ r s
theorem Rot.snoc {r s:Nat} (h:Rot σ r s):Rot σ r (σ (nxc s)):=by
 induction h with
 | refl r=>exact .more (.refl _)
 | more _ ih=>exact .more ih
structure Closed3 (F:Nat) (σ:Nat → Nat) (u:Nat → α):Prop where
 A:Across F σ u
 inj:∀ d e,d < 3 * F → e < 3 * F → u (nxc d)=u (nxc e) → u (pvc d)=u (pvc e) → d=e
 tri:∀ d,d < 3 * F → u d ≠ u (nxc d) ∧ u d ≠ u (pvc d) ∧ u (nxc d) ≠ u (pvc d)
 star:∀ r s,r < 3 * F → s < 3 * F → u (pvc r)=u (pvc s) → Rot σ r s
theorem tau_lt (h:Closed3 F σ u) {r:Nat} (hr:r < 3 * F):σ (nxc r) < 3 * F:=h.A.lt _ (nxc_lt hr)
theorem tau_pv (h:Closed3 F σ u) {r:Nat} (hr:r < 3 * F):u (pvc (σ (nxc r)))=u (pvc r):=by
 rw [h.A.pv _ (nxc_lt hr),tnx_nx]
inductive Fan (σ:Nat → Nat) (vis:List Nat):Nat → Nat → Prop
 | last {x:Nat}:x / 3 ∉ vis → σ (nxc x) / 3 ∈ vis → Fan σ vis x (nxc x)
 | more {x y:Nat}:x / 3 ∉ vis → σ (nxc x) / 3 ∉ vis → Fan σ vis (σ (nxc x)) y → Fan σ vis x y
inductive Pass (σ:Nat → Nat) (vis:List Nat):Nat → Nat → Prop
 | refl {x:Nat}:x / 3 ∉ vis → Pass σ vis x x
 | more {x z:Nat}:x / 3 ∉ vis → Pass σ vis (σ (nxc x)) z → Pass σ vis x z
theorem Pass.head {x z:Nat} (h:Pass σ vis x z):x / 3 ∉ vis:=by cases h <;> assumption
theorem Pass.end_ {x z:Nat} (h:Pass σ vis x z):z / 3 ∉ vis:=by
 induction h with
 | refl h=>exact h
 | more _ _ ih=>exact ih
theorem Pass.snoc {x z:Nat} (h:Pass σ vis x z) (hz:σ (nxc z) / 3 ∉ vis):Pass σ vis x (σ (nxc z)):=by
 induction h with
 | refl h=>exact .more h (.refl hz)
 | more h _ ih=>exact .more h (ih hz)
theorem Pass.pv (h:Closed3 F σ u) {x z:Nat} (hx:x < 3 * F) (hp:Pass σ vis x z):z < 3 * F ∧ u (pvc z)=u (pvc x):=by
 induction hp with
 | refl=>exact ⟨hx,rfl⟩
 | more _ _ ih =>
  obtain ⟨h1,h2⟩:=ih (tau_lt h hx)
  exact ⟨h1,h2.trans (tau_pv h hx)⟩
theorem Fan.head {x y:Nat} (h:Fan σ vis x y):x / 3 ∉ vis:=by cases h <;> assumption
theorem Fan.det {x y y':Nat} (h:Fan σ vis x y) (g:Fan σ vis x y'):y=y':=by
 induction h with
 | last h1 h2 =>
  cases g with
  | last=>rfl
  | more _ h3 _=>exact absurd h2 h3
 | more h1 h2 _ ih =>
  cases g with
  | last _ h3=>exact absurd h3 h2
  | more _ _ g=>exact ih g
theorem Fan.info (h:Closed3 F σ u) {x y:Nat} (hx:x < 3 * F) (hf:Fan σ vis x y):y < 3 * F ∧ y / 3 ∉ vis ∧ σ y / 3 ∈ vis ∧ u (nxc y)=u (pvc x):=by
 induction hf with
 | last h1 h2=>exact ⟨nxc_lt hx,by rw [tnx_div]; exact h1,h2,by rw [tnx_nx]⟩
 | more h1 h2 _ ih =>
  obtain ⟨g1,g2,g3,g4⟩:=ih (tau_lt h hx)
  exact ⟨g1,g2,g3,g4.trans (tau_pv h hx)⟩
theorem Pass.fan {x y z:Nat} (hp:Pass σ vis x z) (hf:Fan σ vis x y):Fan σ vis z y:=by
 induction hp with
 | refl=>exact hf
 | more h1 h2 ih =>
  cases hf with
  | last _ h3=>exact absurd h3 h2.head
  | more _ _ g=>exact ih g
theorem Fan.keep {t x y:Nat} (hf:Fan σ vis x y) (ht:∀ z,Pass σ vis x z → z / 3 ≠ t):Fan σ (t :: vis) x y:=by
 have hno:∀ {z},Pass σ vis x z → z / 3 ∉ t :: vis:=fun {z} hz hm=>by
  rcases List.mem_cons.1 hm with e | hm
  · exact ht z hz e
  exact hz.end_ hm
 induction hf with
 | last h1 h2=>exact .last (hno (.refl h1)) (.tail _ h2)
 | more h1 h2 h3 ih=>exact .more (hno (.refl h1)) (hno (.more h1 (.refl h2))) (ih (fun z hz=>ht z (.more h1 hz)) fun {z} hz=>hno (.more h1 hz))
theorem Pass.cut (h:Closed3 F σ u) {t x z:Nat} (hx:x < 3 * F) (hp:Pass σ vis x z) (hz:z / 3=t) (hne:x ≠ z) (hu:∀ z',Pass σ vis x z' → z' / 3=t → z'=z):Fan σ (t :: vis) x (σ z):=by
 induction hp with
 | refl=>exact absurd rfl hne
 | @more x z h1 h2 ih =>
  have hxt:x / 3 ∉ t :: vis:=fun hm=>by
   rcases List.mem_cons.1 hm with e | hm
   · exact hne (hu x (.refl h1) e)
   exact h1 hm
  by_cases e:σ (nxc x)=z
  · have:nxc x=σ z:=by rw [← e,h.A.back _ (nxc_lt hx)]
    rw [← this]
    exact .last hxt (by rw [e,hz]; exact .head _)
  refine .more hxt (fun hm=>?_) (ih (tau_lt h hx) hz e fun z' hp=>hu z' (.more h1 hp))
  rcases List.mem_cons.1 hm with e' | hm
  · exact e (hu _ (.more h1 (.refl h2.head)) e')
  exact h2.head hm
theorem Pass.border (h:Closed3 F σ u) {x z:Nat} (hx:x < 3 * F) (hp:Pass σ vis x z) (hz:σ z / 3 ∈ vis):x=z:=by
 induction hp with
 | refl=>rfl
 | @more x z h1 h2 ih =>
  have e:=ih (tau_lt h hx) hz
  exfalso
  rw [← e,h.A.back _ (nxc_lt hx),tnx_div] at hz
  exact h1 hz
theorem Rot.lt (h:Closed3 F σ u) {r s:Nat} (hr:r < 3 * F) (g:Rot σ r s):s < 3 * F ∧ u (pvc s)=u (pvc r):=by
 induction g with
 | refl=>exact ⟨hr,rfl⟩
 | more _ ih =>
  obtain ⟨h1,h2⟩:=ih (tau_lt h hr)
  exact ⟨h1,h2.trans (tau_pv h hr)⟩
theorem back_ex (h:Closed3 F σ u) {r z:Nat} (hr:r < 3 * F) (g:Rot σ r z) (hv:r / 3 ∈ vis) (hz:z / 3 ∉ vis):∃ x,x < 3 * F ∧ x / 3 ∉ vis ∧ σ x / 3 ∈ vis ∧ Pass σ vis x z:=by
 induction g with
 | refl=>exact absurd hv hz
 | @more r z g ih =>
  by_cases e:σ (nxc r) / 3 ∈ vis
  · exact ih (tau_lt h hr) e hz
  have hs:σ (σ (nxc r)) / 3 ∈ vis:=by rw [h.A.back _ (nxc_lt hr),tnx_div]; exact hv
  have key:∀ {a b:Nat},Rot σ a b → a < 3 * F → b / 3 ∉ vis → Pass σ vis a b ∨ ∃ x,x < 3 * F ∧ x / 3 ∉ vis ∧ σ x / 3 ∈ vis ∧ Pass σ vis x b:=fun {a b} g=>by
   induction g with
   | refl=>exact fun _ hb=>.inl (.refl hb)
   | @more a b g ih =>
    intro ha hb
    rcases ih (tau_lt h ha) hb with hp | hp
    · by_cases e:a / 3 ∈ vis
      · exact .inr ⟨_,tau_lt h ha,hp.head,by rw [h.A.back _ (nxc_lt ha),tnx_div]; exact e,hp⟩
      exact .inl (.more e hp)
    exact .inr hp
  rcases key g (tau_lt h hr) hz with hp | hp
  · exact ⟨_,tau_lt h hr,e,hs,hp⟩
  exact hp
theorem tri_into (h:Closed3 F σ u) {x z z':Nat} (hz:z < 3 * F) (hz':z' < 3 * F) (ht:z / 3=z' / 3) (e:u (pvc z)=u (pvc z')):z=z':=by
 have h3:=h.tri z hz
 rcases of_tri ht with r | r | r
 · exact r.symm
 · rw [r,tpv_nx] at e
   exact absurd e.symm h3.2.1
 rw [r,tpv_pv] at e
 exact absurd e.symm h3.2.2
theorem Pass.only (h:Closed3 F σ u) {x z:Nat} (hx:x < 3 * F) (hp:Pass σ vis x z) {t:Nat} (hz:z / 3=t):∀ z',Pass σ vis x z' → z' / 3=t → z'=z:=fun z' hp' e =>
 have h1:=hp.pv h hx
 have h2:=hp'.pv h hx
 tri_into (x:=x) h h2.1 h1.1 (e.trans hz.symm) (h2.2.trans h1.2.symm)
end
end
section
section
variable {α:Type} [DecidableEq α] {F:Nat} {σ:Nat → Nat} {u:Nat → α} {vis:List Nat}
theorem rot_pre {r z:Nat} (h:Pass σ vis r z):z=r ∨ ∃ w,Pass σ vis r w ∧ z=σ (nxc w):=by
 induction h with
 | refl=>exact .inl rfl
 | @more x z h1 h2 ih =>
  rcases ih with e | ⟨w,g1,g2⟩
  · exact .inr ⟨x,.refl h1,e⟩
  exact .inr ⟨w,.more h1 g1,g2⟩
theorem tau_inj (h:Closed3 F σ u) {r s:Nat} (hr:r < 3 * F) (hs:s < 3 * F) (e:σ (nxc r)=σ (nxc s)):r=s:=by
 have:=h.A.back _ (nxc_lt hr)
 rw [e,h.A.back _ (nxc_lt hs)] at this
 have h2:=congrArg pvc this
 rw [tpv_nx,tpv_nx] at h2
 exact h2.symm
theorem Pass.order (h:Closed3 F σ u) {x x' z:Nat} (hx:x < 3 * F) (hx':x' < 3 * F) (hp:Pass σ vis x z) (hp':Pass σ vis x' z):Pass σ vis x x' ∨ Pass σ vis x' x:=by
 induction hp with
 | refl=>exact .inr hp'
 | @more x z h1 h2 ih =>
  rcases ih (tau_lt h hx) hp' with g | g
  · exact .inl (.more h1 g)
  rcases rot_pre g with e | ⟨w,g1,g2⟩
  · rw [← e]
    exact .inl (.more h1 (.refl h2.head))
  rw [tau_inj h hx (g1.pv h hx').1 g2]
  exact .inr g1
theorem Pass.inj (h:Closed3 F σ u) {x x' z:Nat} (hx:x < 3 * F) (hx':x' < 3 * F) (hp:Pass σ vis x z) (hp':Pass σ vis x' z) (hb:σ x / 3 ∈ vis) (hb':σ x' / 3 ∈ vis):x=x':=by
 rcases hp.order h hx hx' hp' with g | g
 · exact g.border h hx hb'
 exact (g.border h hx' hb).symm
def Path (σ:Nat → Nat) (vis:List Nat):Nat → List Nat → Nat → Prop
 | x,[],y=>Fan σ vis x y
 | x,z :: l,y=>Fan σ vis x z ∧ Path σ vis z l y
theorem path_split {l1:List Nat}:∀ {x z y:Nat} {l2:List Nat},Path σ vis x (l1 ++ z :: l2) y ↔ Path σ vis x l1 z ∧ Path σ vis z l2 y:=by
 induction l1 with
 | nil=>exact Iff.rfl
 | cons a t ih =>
  intro x z y l2
  show Fan σ vis x a ∧ Path σ vis a (t ++ z :: l2) y ↔ (Fan σ vis x a ∧ Path σ vis a t z) ∧ Path σ vis z l2 y
  rw [ih,and_assoc]
inductive ReV (F:Nat) (σ:Nat → Nat) (vis:List Nat):Nat → Nat → Prop
 | refl (x:Nat):ReV F σ vis x x
 | step {x d:Nat}:ReV F σ vis x (d / 3) → d < 3 * F → d / 3 ∈ vis → σ d / 3 ∈ vis → ReV F σ vis x (σ d / 3)
structure WInv (F:Nat) (σ:Nat → Nat) (u:Nat → α) (vis:List Nat) (Ls:List (List Nat)):Prop where
 vnd:vis.Nodup
 vlt:∀ x ∈ vis,x < F
 len:∀ L ∈ Ls,3 ≤ L.length
 nd:∀ L ∈ Ls,(L.map fun x=>u (nxc x)).Nodup
 path:∀ x l,x :: l ∈ Ls → Path σ vis x l x
 blt:∀ x ∈ Ls.flatten,x < 3 * F
 bd:∀ x,x < 3 * F → (x / 3 ∉ vis ∧ σ x / 3 ∈ vis ↔ x ∈ Ls.flatten)
 fnd:Ls.flatten.Nodup
 con:∀ x ∈ vis,∀ y ∈ vis,ReV F σ vis x y
structure Sph (F:Nat) (σ:Nat → Nat) (u:Nat → α) (V:List α):Prop where
 C:Closed3 F σ u
 pos:0 < F
 vnd:V.Nodup
 cor:∀ v ∈ V,∃ d,d < 3 * F ∧ u d=v
 all:∀ d,d < 3 * F → u d ∈ V
 num:2 * V.length=F + 4
 one:∀ x y,x < F → y < F → ReB F σ (fun _=>False) x y
theorem ReB.trans {B:Nat → Prop} {x y z:Nat} (h:ReB F σ B x y) (g:ReB F σ B y z):ReB F σ B x z:=by
 induction g with
 | refl=>exact h
 | step _ h1 h2 ih=>exact ih.step h1 h2
theorem ReB.symm {B:Nat → Prop} (hA:Across F σ u) (hB:∀ d,d < 3 * F → B (σ d) → B d) {x y:Nat} (h:ReB F σ B x y):ReB F σ B y x:=by
 induction h with
 | refl=>exact .refl _
 | @step d _ h1 h2 ih =>
  have:=(ReB.refl (F:=F) (σ:=σ) (B:=B) (σ d / 3)).step (hA.lt d h1) fun hb=>h2 (hB d h1 hb)
  rw [hA.back d h1] at this
  exact this.trans ih
theorem path_ec (h:Closed3 F σ u) {P:Nat → Prop}:∀ {l:List Nat} {x y:Nat},x < 3 * F → Path σ vis x l y → (∀ z ∈ l,P z) → EC u P (u (pvc x)) (u (nxc y))
 | [],x,y,hx,hp,_=>by
  have hp:Fan σ vis x y:=hp
  rw [(hp.info h hx).2.2.2]
  exact .refl _
 | z :: l,x,y,hx,hp,hl=>by
  obtain ⟨h1,h2⟩:Fan σ vis x z ∧ Path σ vis z l y:=hp
  have hi:=h1.info h hx
  rw [← hi.2.2.2]
  exact ((EC.refl _).fwd (hl z (.head _))).trans (path_ec h hi.1 h2 fun w hw=>hl w (.tail _ hw))
theorem jordan {V:List α} (hS:Sph F σ u V) {x0:Nat} {l:List Nat} {more:List (List Nat)} (hI:WInv F σ u vis ((x0 :: l) :: more)) {x z:Nat} (hx:x ∈ ((x0 :: l) :: more).flatten) (hp:Pass σ vis x z) (hz:z / 3=x0 / 3):x ∈ x0 :: l:=by
 obtain ⟨W,hW,hxW⟩:=List.mem_flatten.1 hx
 rcases List.mem_cons.1 hW with rfl | hWm
 · exact hxW
 exfalso
 have h:=hS.C
 have hin:∀ y ∈ W,y ∈ ((x0 :: l) :: more).flatten:=fun y hy=>List.mem_flatten.2 ⟨W,hW,hy⟩
 have hlt:∀ y ∈ W,y < 3 * F:=fun y hy=>hI.blt y (hin y hy)
 have hbd:∀ y ∈ W,y / 3 ∉ vis ∧ σ y / 3 ∈ vis:=fun y hy=>(hI.bd y (hlt y hy)).2 (hin y hy)
 have hx0f:x0 ∈ ((x0 :: l) :: more).flatten:=List.mem_flatten.2 ⟨_,.head _,.head _⟩
 have hx0l:=hI.blt x0 hx0f
 have hx0b:=(hI.bd x0 hx0l).2 hx0f
 have hx0W:x0 ∉ W:=fun hm=>by
  have:=hI.fnd
  rw [List.flatten_cons] at this
  exact (List.nodup_append.1 this).2.2 x0 (.head _) x0 (List.mem_flatten.2 ⟨W,hWm,hm⟩) rfl
 obtain ⟨B,hBd⟩:∃ B:Nat → Prop,∀ d,B d ↔ d ∈ W ∨ σ d ∈ W:=⟨fun d=>d ∈ W ∨ σ d ∈ W,fun _=>Iff.rfl⟩
 have hB:∀ d,d < 3 * F → B (σ d) → B d:=fun d hd hb=>by
  rw [hBd,h.A.back d hd] at hb
  exact (hBd d).2 hb.symm
 have hvv:∀ d,d < 3 * F → d / 3 ∈ vis → σ d / 3 ∈ vis → ¬ B d:=fun d hd h1 h2 hb=>by
  rcases (hBd d).1 hb with hb | hb
  · exact (hbd d hb).1 h1
  exact (hbd _ hb).1 h2
 have huu:∀ d,d < 3 * F → d / 3 ∉ vis → σ d / 3 ∉ vis → ¬ B d:=fun d hd h1 h2 hb=>by
  rcases (hBd d).1 hb with hb | hb
  · exact h2 (hbd d hb).2
  have:=(hbd _ hb).2
  rw [h.A.back d hd] at this
  exact h1 this
 have hpass:∀ {a b:Nat},a < 3 * F → Pass σ vis a b → ReB F σ B (a / 3) (b / 3):=fun {a b} ha g=>by
  induction g with
  | refl=>exact .refl _
  | @more a b h1 h2 ih =>
   have s:=(ReB.refl (F:=F) (σ:=σ) (B:=B) (nxc a / 3)).step (nxc_lt ha) (huu _ (nxc_lt ha) (by rw [tnx_div]; exact h1) h2.head)
   rw [tnx_div] at s
   exact s.trans (ih (tau_lt h ha))
 have hfan:∀ {a b:Nat},a < 3 * F → Fan σ vis a b → ReB F σ B (a / 3) (b / 3):=fun {a b} ha g=>by
  induction g with
  | last=>rw [tnx_div]; exact .refl _
  | @more a b h1 h2 h3 ih =>
   have s:=(ReB.refl (F:=F) (σ:=σ) (B:=B) (nxc a / 3)).step (nxc_lt ha) (huu _ (nxc_lt ha) (by rw [tnx_div]; exact h1) h2)
   rw [tnx_div] at s
   exact s.trans (ih (tau_lt h ha))
 have hpath:∀ {l:List Nat} {a b:Nat},a < 3 * F → Path σ vis a l b → ∀ z ∈ l,ReB F σ B (a / 3) (z / 3):=fun {l}=>by
  induction l with
  | nil=>intro a b _ _ z hz; cases hz
  | cons c t ih =>
   intro a b ha hp z hz
   obtain ⟨g1,g2⟩:Fan σ vis a c ∧ Path σ vis c t b:=hp
   rcases List.mem_cons.1 hz with rfl | hz
   · exact hfan ha g1
   exact (hfan ha g1).trans (ih (g1.info h ha).1 g2 z hz)
 match W,hW,hxW,hin,hlt,hbd,hx0W,hBd,hWm with
 | y0 :: t,hW,hxW,hin,hlt,hbd,hx0W,hBd,hWm =>
  have hp0:=hI.path y0 t hW
  have hy0:=hlt y0 (.head _)
  have hallW:∀ y ∈ y0 :: t,ReB F σ B (y0 / 3) (y / 3):=fun y hy=>by
   rcases List.mem_cons.1 hy with rfl | hy
   · exact .refl _
   exact hpath hy0 hp0 y hy
  have hs0:ReB F σ B (σ x0 / 3) (x0 / 3):=by
   have s:=(ReB.refl (F:=F) (σ:=σ) (B:=B) (σ x0 / 3)).step (h.A.lt x0 hx0l) fun hb=>by
    rcases (hBd _).1 hb with hb | hb
    · exact (hbd _ hb).1 hx0b.2
    rw [h.A.back x0 hx0l] at hb
    exact hx0W hb
   rw [h.A.back x0 hx0l] at s
   exact s
  have hWs:∀ y ∈ y0 :: t,ReB F σ B (σ x0 / 3) (y / 3):=fun y hy=>by
   have g1:=hpass (hlt x hxW) hp
   rw [hz] at g1
   exact (hs0.trans (g1.symm h.A hB)).trans (((hallW x hxW).symm h.A hB).trans (hallW y hy))
  have hvs:∀ y ∈ vis,ReB F σ B (σ x0 / 3) y:=fun y hy=>by
   have:=hI.con _ hx0b.2 y hy
   induction this with
   | refl=>exact .refl _
   | @step d _ h1 h2 h3 ih=>exact (ih h2).step h1 (hvv d h1 h2 h3)
  have hall:∀ y,ReB F σ (fun _=>False) (σ x0 / 3) y → ReB F σ B (σ x0 / 3) y:=fun y g=>by
   induction g with
   | refl=>exact .refl _
   | @step d _ h1 _ ih =>
    by_cases hb:B d
    · rcases (hBd d).1 hb with hb | hb
      · exact hvs _ (hbd d hb).2
      exact hWs _ hb
    exact ih.step h1 hb
  have hs3:σ x0 / 3 < F:=by have:=h.A.lt x0 hx0l; omega
  have hfin:=no_ring (u:=u) (B:=B) h.A hS.pos hB (fun y hy=>((hall 0 (hS.one _ _ hs3 hS.pos)).symm h.A hB).trans (hall y (hS.one _ _ hs3 hy))) hS.vnd hS.cor hy0 ((hBd y0).2 (.inl (.head _))) <| by
   have hnd:(y0 :: t).Nodup:=by
    have:=List.Nodup.sublist (List.sublist_flatten_of_mem hW) hI.fnd
    exact this
   refine (path_ec (u:=u) h hy0 hp0 fun z hz=>?_).symm
   refine ⟨hlt z (.tail _ hz),(hBd z).2 (.inl (.tail _ hz)),fun e=>(List.nodup_cons.1 hnd).1 (e ▸ hz),fun e=>?_⟩
   have h1:=(hbd z (.tail _ hz)).1
   rw [e] at h1
   exact h1 (hbd y0 (.head _)).2
  have:=hS.num
  omega
end
end
section
section
variable {α:Type} [DecidableEq α] {F:Nat} {σ:Nat → Nat} {u:Nat → α} {vis:List Nat}
theorem Pass.first {x z:Nat} (h:Pass σ vis x z):x=z ∨ Pass σ vis (σ (nxc x)) z:=by
 cases h with
 | refl=>exact .inl rfl
 | more _ h=>exact .inr h
theorem Fan.acyc (h:Closed3 F σ u) {x y:Nat} (hf:Fan σ vis x y):¬ Pass σ vis (σ (nxc x)) x:=by
 induction hf with
 | last _ h2=>exact fun hp=>hp.head h2
 | @more x y h1 h2 h3 ih =>
  intro hp
  rcases hp.first with e | h5
  · rw [e] at ih
    exact ih hp
  exact ih (h5.snoc h2)
theorem Fan.lastpass {x y:Nat} (hf:Fan σ vis x y):∃ z,Pass σ vis x z ∧ nxc z=y:=by
 induction hf with
 | @last x h1 h2=>exact ⟨x,.refl h1,rfl⟩
 | more h1 h2 h3 ih =>
  obtain ⟨z,g1,g2⟩:=ih
  exact ⟨z,.more h1 g1,g2⟩
theorem rot_pass (h:Closed3 F σ u) {r s:Nat} (g:Rot σ r s):r < 3 * F → (∀ w,w < 3 * F → u (pvc w)=u (pvc r) → w / 3 ∉ vis) → Pass σ vis r s:=by
 induction g with
 | refl=>exact fun hr hv=>.refl (hv _ hr rfl)
 | @more r s _ ih=>exact fun hr hv=>.more (hv r hr rfl) (ih (tau_lt h hr) fun w hw e=>hv w hw (e.trans (tau_pv h hr)))
variable {x0:Nat}
theorem fan_keep (h:Closed3 F σ u) (hx0:x0 < 3 * F) (hb0:σ x0 / 3 ∈ vis) (hn0:x0 / 3 ∉ vis) {x y:Nat} (hx:x < 3 * F) (hf:Fan σ vis x y) (h1:x ≠ x0) (h2:y ≠ x0) (h3:¬ Pass σ vis x (nxc x0)):Fan σ (x0 / 3 :: vis) x y :=
 hf.keep fun z hp e=>by
  rcases of_tri e.symm with r | r | r
  · rw [r] at hp
    exact h1 (hp.border h hx hb0)
  · rw [r] at hp
    exact h3 hp
  rw [r] at hp
  have g:=hp.fan hf
  have g':Fan σ vis (pvc x0) (nxc (pvc x0)):=.last (by rw [tpv_div]; exact hn0) (by rw [tnx_pv]; exact hb0)
  rw [tnx_pv] at g'
  exact h2 (g.det g')
theorem path_keep (h:Closed3 F σ u) (hx0:x0 < 3 * F) (hb0:σ x0 / 3 ∈ vis) (hn0:x0 / 3 ∉ vis):∀ {l:List Nat} {x y:Nat},Path σ vis x l y → (∀ e ∈ x :: l,e < 3 * F ∧ e ≠ x0 ∧ ¬ Pass σ vis e (nxc x0)) → y ≠ x0 → Path σ (x0 / 3 :: vis) x l y
 | [],x,y,hp,he,hy=>fan_keep h hx0 hb0 hn0 (he x (.head _)).1 hp (he x (.head _)).2.1 hy (he x (.head _)).2.2
 | z :: l,x,y,hp,he,hy=>by
  obtain ⟨g1,g2⟩:Fan σ vis x z ∧ Path σ vis z l y:=hp
  exact ⟨fan_keep h hx0 hb0 hn0 (he x (.head _)).1 g1 (he x (.head _)).2.1 (he z (.tail _ (.head _))).2.1 (he x (.head _)).2.2,path_keep h hx0 hb0 hn0 g2 (fun e hm=>he e (.tail _ hm)) hy⟩
theorem sig_ne (h:Closed3 F σ u) {d:Nat} (hd:d < 3 * F):σ d / 3 ≠ d / 3:=h.A.ne d hd
theorem fan_b (h:Closed3 F σ u) (hx0:x0 < 3 * F) (hb0:σ x0 / 3 ∈ vis) {y:Nat} (hf:Fan σ vis x0 y) (hp0:σ (nxc x0) / 3 ∉ vis):Fan σ (x0 / 3 :: vis) (σ (nxc x0)) y:=by
 cases hf with
 | last _ h2=>exact absurd h2 hp0
 | more h1 h2 h3 =>
  refine h3.keep fun z hp e=>?_
  have hz:=hp.pv h (tau_lt h hx0)
  have:z=x0:=tri_into (x:=x0) h hz.1 hx0 e (hz.2.trans (tau_pv h hx0))
  rw [this] at hp
  have e':=hp.border h (tau_lt h hx0) hb0
  have:=sig_ne h (nxc_lt hx0)
  rw [tnx_div,e'] at this
  exact this rfl
theorem fan_a (h:Closed3 F σ u) (hx0:x0 < 3 * F) {x:Nat} (hx:x < 3 * F) (hf:Fan σ vis x x0) (hne:x ≠ pvc x0):Fan σ (x0 / 3 :: vis) x (σ (pvc x0)):=by
 obtain ⟨z,hp,e⟩:=hf.lastpass
 have hz:z=pvc x0:=by rw [← e,tpv_nx]
 subst hz
 exact hp.cut h hx (tpv_div x0) hne (hp.only h hx (tpv_div x0))
theorem fan_v (h:Closed3 F σ u) (hx0:x0 < 3 * F) {x:Nat} (hx:x < 3 * F) (hp:Pass σ vis x (nxc x0)) (hne:x ≠ nxc x0):Fan σ (x0 / 3 :: vis) x (σ (nxc x0)) :=
 hp.cut h hx (tnx_div x0) hne (hp.only h hx (tnx_div x0))
theorem fan_w (h:Closed3 F σ u) (hx0:x0 < 3 * F) {y:Nat} (hf:Fan σ vis (nxc x0) y) (hq0:σ (pvc x0) / 3 ∉ vis):Fan σ (x0 / 3 :: vis) (σ (pvc x0)) y:=by
 have hac:=hf.acyc h
 rw [tnx_nx] at hac
 cases hf with
 | last _ h2=>rw [tnx_nx] at h2; exact absurd h2 hq0
 | more h1 h2 h3 =>
  rw [tnx_nx] at h3
  refine h3.keep fun z hp e=>?_
  have hz:=hp.pv h (h.A.lt _ (pvc_lt hx0))
  have hpv:u (pvc (σ (pvc x0)))=u (pvc (nxc x0)):=by rw [h.A.pv _ (pvc_lt hx0),tnx_pv,tpv_nx]
  have:z=nxc x0:=tri_into (x:=x0) h hz.1 (nxc_lt hx0) (e.trans (tnx_div x0).symm) (hz.2.trans hpv)
  rw [this] at hp
  exact hac hp
theorem fan_c (h:Closed3 F σ u) (hx0:x0 < 3 * F) (hnew:∀ w,w < 3 * F → u (pvc w)=u x0 → w / 3 ∉ vis):Fan σ (x0 / 3 :: vis) (σ (pvc x0)) (σ (nxc x0)):=by
 have hq:=h.A.lt _ (pvc_lt hx0)
 have hpv:u (pvc (σ (pvc x0)))=u x0:=by rw [h.A.pv _ (pvc_lt hx0),tnx_pv]
 have hr:=h.star (σ (pvc x0)) (nxc x0) hq (nxc_lt hx0) (by rw [hpv,tpv_nx])
 have hp:=rot_pass (vis:=vis) h hr hq fun w hw e=>hnew w hw (e.trans hpv)
 refine fan_v h hx0 hq hp fun e=>?_
 have:=sig_ne h (pvc_lt hx0)
 rw [tpv_div,e,tnx_div] at this
 exact this rfl
theorem path_b (h:Closed3 F σ u) (hx0:x0 < 3 * F) (hb0:σ x0 / 3 ∈ vis) (hn0:x0 / 3 ∉ vis) (hp0:σ (nxc x0) / 3 ∉ vis):∀ {l:List Nat} {y:Nat},Path σ vis x0 l y → (∀ e ∈ l,e < 3 * F ∧ e ≠ x0 ∧ ¬ Pass σ vis e (nxc x0)) → y ≠ x0 → Path σ (x0 / 3 :: vis) (σ (nxc x0)) l y
 | [],y,hp,_,_=>fan_b h hx0 hb0 hp hp0
 | z :: l,y,hp,he,hy=>⟨fan_b h hx0 hb0 hp.1 hp0,path_keep h hx0 hb0 hn0 hp.2 he hy⟩
theorem path_a (h:Closed3 F σ u) (hx0:x0 < 3 * F) (hb0:σ x0 / 3 ∈ vis) (hn0:x0 / 3 ∉ vis):∀ {l:List Nat} {x:Nat},Path σ vis x l x0 → (∀ e ∈ x :: l,e < 3 * F ∧ e ≠ x0 ∧ ¬ Pass σ vis e (nxc x0) ∧ e ≠ pvc x0) → Path σ (x0 / 3 :: vis) x l (σ (pvc x0))
 | [],x,hp,he=>fan_a h hx0 (he x (.head _)).1 hp (he x (.head _)).2.2.2
 | z :: l,x,hp,he=>by
  obtain ⟨g1,g2⟩:Fan σ vis x z ∧ Path σ vis z l x0:=hp
  have h1:=he x (.head _)
  exact ⟨fan_keep h hx0 hb0 hn0 h1.1 g1 h1.2.1 (he z (.tail _ (.head _))).2.1 h1.2.2.1,path_a h hx0 hb0 hn0 g2 fun e hm=>he e (.tail _ hm)⟩
theorem bd_new (h:Closed3 F σ u) (hx0:x0 < 3 * F) (hb0:σ x0 / 3 ∈ vis) (hn0:x0 / 3 ∉ vis) {x:Nat} (hx:x < 3 * F) :
  (x / 3 ∉ x0 / 3 :: vis ∧ σ x / 3 ∈ x0 / 3 :: vis) ↔ ((x / 3 ∉ vis ∧ σ x / 3 ∈ vis) ∧ x ≠ x0 ∧ x ≠ nxc x0 ∧ x ≠ pvc x0) ∨ (x=σ (nxc x0) ∧ σ (nxc x0) / 3 ∉ vis) ∨ (x=σ (pvc x0) ∧ σ (pvc x0) / 3 ∉ vis):=by
 constructor
 · rintro ⟨h1,h2⟩
   have hnt:x / 3 ≠ x0 / 3:=fun e=>h1 (e ▸ .head _)
   have hnv:x / 3 ∉ vis:=fun e=>h1 (.tail _ e)
   rcases List.mem_cons.1 h2 with e | h2
   · have hb:=h.A.back x hx
     rcases of_tri e.symm with r | r | r
     · rw [r] at hb
       rw [hb] at hb0
       exact absurd hb0 hnv
     · rw [r] at hb
       exact .inr (.inl ⟨hb.symm,by rw [hb]; exact hnv⟩)
     rw [r] at hb
     exact .inr (.inr ⟨hb.symm,by rw [hb]; exact hnv⟩)
   refine .inl ⟨⟨hnv,h2⟩,fun e=>hnt (by rw [e]),fun e=>hnt (by rw [e,tnx_div]),fun e=>hnt (by rw [e,tpv_div])⟩
 rintro (⟨⟨h1,h2⟩,g1,g2,g3⟩ | ⟨rfl,h1⟩ | ⟨rfl,h1⟩)
 · refine ⟨fun hm=>?_,.tail _ h2⟩
   rcases List.mem_cons.1 hm with e | hm
   · rcases of_tri e.symm with r | r | r
     · exact g1 r
     · exact g2 r
     exact g3 r
   exact h1 hm
 · refine ⟨fun hm=>?_,by rw [h.A.back _ (nxc_lt hx0),tnx_div]; exact .head _⟩
   rcases List.mem_cons.1 hm with e | hm
   · have:=sig_ne h (nxc_lt hx0)
     rw [tnx_div] at this
     exact this e
   exact h1 hm
 refine ⟨fun hm=>?_,by rw [h.A.back _ (pvc_lt hx0),tpv_div]; exact .head _⟩
 rcases List.mem_cons.1 hm with e | hm
 · have:=sig_ne h (pvc_lt hx0)
   rw [tpv_div] at this
   exact this e
 exact h1 hm
end
end
section
section
variable {α:Type} [DecidableEq α] {F:Nat} {σ:Nat → Nat} {u:Nat → α} {vis:List Nat}
theorem ReV.mono {t x y:Nat} (h:ReV F σ vis x y):ReV F σ (t :: vis) x y:=by
 induction h with
 | refl=>exact .refl _
 | step _ h1 h2 h3 ih=>exact ih.step h1 (.tail _ h2) (.tail _ h3)
theorem ReV.trans {x y z:Nat} (h:ReV F σ vis x y) (g:ReV F σ vis y z):ReV F σ vis x z:=by
 induction g with
 | refl=>exact h
 | step _ h1 h2 h3 ih=>exact ih.step h1 h2 h3
theorem ReV.one (h:Across F σ u) {d:Nat} (hd:d < 3 * F) (h1:d / 3 ∈ vis) (h2:σ d / 3 ∈ vis):ReV F σ vis (d / 3) (σ d / 3) ∧ ReV F σ vis (σ d / 3) (d / 3):=by
 have g:=(ReV.refl (F:=F) (σ:=σ) (vis:=vis) (σ d / 3)).step (h.lt d hd) h2 (by rw [h.back d hd]; exact h1)
 rw [h.back d hd] at g
 exact ⟨(ReV.refl _).step hd h1 h2,g⟩
variable {x0:Nat} {l:List Nat} {more Ls:List (List Nat)}
theorem WInv.cur (hI:WInv F σ u vis ((x0 :: l) :: more)):x0 ∈ ((x0 :: l) :: more).flatten ∧ x0 < 3 * F ∧ x0 / 3 ∉ vis ∧ σ x0 / 3 ∈ vis:=by
 have h1:x0 ∈ ((x0 :: l) :: more).flatten:=List.mem_flatten.2 ⟨_,.head _,.head _⟩
 have h2:=hI.blt x0 h1
 exact ⟨h1,h2,(hI.bd x0 h2).2 h1⟩
theorem winv_mk (h:Closed3 F σ u) (hI:WInv F σ u vis ((x0 :: l) :: more)) (hlen:∀ L ∈ Ls,3 ≤ L.length) (hnd:∀ L ∈ Ls,(L.map fun x=>u (nxc x)).Nodup) (hpath:∀ x l,x :: l ∈ Ls → Path σ (x0 / 3 :: vis) x l x) (hfnd:Ls.flatten.Nodup)
  (hm:∀ x,x ∈ Ls.flatten ↔ (x ∈ ((x0 :: l) :: more).flatten ∧ x ≠ x0 ∧ x ≠ nxc x0 ∧ x ≠ pvc x0) ∨ (x=σ (nxc x0) ∧ σ (nxc x0) / 3 ∉ vis) ∨ (x=σ (pvc x0) ∧ σ (pvc x0) / 3 ∉ vis)):WInv F σ u (x0 / 3 :: vis) Ls:=by
 obtain ⟨h0,h1,h2,h3⟩:=hI.cur
 have hlt:∀ x ∈ Ls.flatten,x < 3 * F:=fun x hx=>by
  rcases (hm x).1 hx with ⟨g,_⟩ | ⟨rfl,_⟩ | ⟨rfl,_⟩
  · exact hI.blt x g
  · exact h.A.lt _ (nxc_lt h1)
  exact h.A.lt _ (pvc_lt h1)
 refine ⟨List.nodup_cons.2 ⟨h2,hI.vnd⟩,fun x hx=>?_,hlen,hnd,hpath,hlt,fun x hx=>?_,hfnd,?_⟩
 · rcases List.mem_cons.1 hx with rfl | hx
   · omega
   exact hI.vlt x hx
 · rw [bd_new h h1 h3 h2 hx,hm,hI.bd x hx]
 have hs:=ReV.one (vis:=x0 / 3 :: vis) h.A h1 (.head _) (.tail _ h3)
 have key:∀ y ∈ x0 / 3 :: vis,ReV F σ (x0 / 3 :: vis) (x0 / 3) y ∧ ReV F σ (x0 / 3 :: vis) y (x0 / 3):=fun y hy=>by
  rcases List.mem_cons.1 hy with rfl | hy
  · exact ⟨.refl _,.refl _⟩
  exact ⟨hs.1.trans (hI.con _ h3 y hy).mono,(hI.con y hy _ h3).mono.trans hs.2⟩
 exact fun x hx y hy=>(key x hx).2.trans (key y hy).1
def ComeV (F:Nat) (u:Nat → α) (vis:List Nat) (v:α):Prop:=∃ d,d < 3 * F ∧ d / 3 ∈ vis ∧ u d=v
theorem loop_come (h:Closed3 F σ u) (hI:WInv F σ u vis Ls) {x:Nat} (hx:x ∈ Ls.flatten):ComeV F u vis (u (nxc x)) ∧ ComeV F u vis (u (pvc x)):=by
 have h1:=hI.blt x hx
 have h2:=(hI.bd x h1).2 hx
 refine ⟨⟨pvc (σ x),pvc_lt (h.A.lt x h1),by rw [tpv_div]; exact h2.2,h.A.pv x h1⟩,⟨nxc (σ x),nxc_lt (h.A.lt x h1),by rw [tnx_div]; exact h2.2,h.A.nx x h1⟩⟩
theorem across_new (h:Closed3 F σ u) (hx0:x0 < 3 * F) (hn0:x0 / 3 ∉ vis) (hI:WInv F σ u vis Ls):σ (nxc x0) ∉ Ls.flatten ∧ σ (pvc x0) ∉ Ls.flatten ∧ σ (nxc x0) ≠ σ (pvc x0) ∧ (nxc x0 ∈ Ls.flatten ↔ σ (nxc x0) / 3 ∈ vis) ∧ (pvc x0 ∈ Ls.flatten ↔ σ (pvc x0) / 3 ∈ vis):=by
 have h1:=nxc_lt hx0
 have h2:=pvc_lt hx0
 refine ⟨fun hm=>?_,fun hm=>?_,fun e=>?_,?_,?_⟩
 · have:=((hI.bd _ (h.A.lt _ h1)).2 hm).2
   rw [h.A.back _ h1,tnx_div] at this
   exact hn0 this
 · have:=((hI.bd _ (h.A.lt _ h2)).2 hm).2
   rw [h.A.back _ h2,tpv_div] at this
   exact hn0 this
 · have:=h.A.back _ h1
   rw [e,h.A.back _ h2] at this
   exact (tnx_ne x0).2.2 this.symm
 · rw [← hI.bd _ h1,tnx_div]
   exact ⟨fun g=>g.2,fun g=>⟨hn0,g⟩⟩
 rw [← hI.bd _ h2,tpv_div]
 exact ⟨fun g=>g.2,fun g=>⟨hn0,g⟩⟩
theorem more_path (h:Closed3 F σ u) (hI:WInv F σ u vis ((x0 :: l) :: more)) (hq:∀ x ∈ more.flatten,¬ Pass σ vis x (nxc x0)) {x:Nat} {t:List Nat} (hW:x :: t ∈ more):Path σ (x0 / 3 :: vis) x t x:=by
 obtain ⟨h0,h1,h2,h3⟩:=hI.cur
 have hne:∀ e ∈ more.flatten,e ≠ x0:=fun e he e'=>by
  have:=hI.fnd
  rw [List.flatten_cons] at this
  exact (List.nodup_append.1 this).2.2 x0 (.head _) e he e'.symm
 have hin:∀ e ∈ x :: t,e ∈ more.flatten:=fun e he=>List.mem_flatten.2 ⟨_,hW,he⟩
 refine path_keep h h1 h3 h2 (hI.path x t (.tail _ hW)) (fun e he=>⟨hI.blt e ?_,hne e (hin e he),hq e (hin e he)⟩) (hne x (hin x (.head _)))
 rw [List.flatten_cons]
 exact List.mem_append.2 (.inr (hin e he))
theorem winv_c (h:Closed3 F σ u) (hI:WInv F σ u vis ((x0 :: l) :: more)) (hv:¬ ComeV F u vis (u x0)):WInv F σ u (x0 / 3 :: vis) ((σ (pvc x0) :: σ (nxc x0) :: l) :: more):=by
 obtain ⟨h0,h1,h2,h3⟩:=hI.cur
 obtain ⟨a1,a2,a3,a4,a5⟩:=across_new h h1 h2 hI
 have hp0:σ (nxc x0) / 3 ∉ vis:=fun hm=>hv ⟨nxc (σ (nxc x0)),nxc_lt (h.A.lt _ (nxc_lt h1)),by rw [tnx_div]; exact hm,by rw [h.A.nx _ (nxc_lt h1),tpv_nx]⟩
 have hq0:σ (pvc x0) / 3 ∉ vis:=fun hm=>hv ⟨pvc (σ (pvc x0)),pvc_lt (h.A.lt _ (pvc_lt h1)),by rw [tpv_div]; exact hm,by rw [h.A.pv _ (pvc_lt h1),tnx_pv]⟩
 have hz1:nxc x0 ∉ ((x0 :: l) :: more).flatten:=fun hm=>hp0 (a4.1 hm)
 have hzp:pvc x0 ∉ ((x0 :: l) :: more).flatten:=fun hm=>hq0 (a5.1 hm)
 have hno:∀ x ∈ ((x0 :: l) :: more).flatten,¬ Pass σ vis x (nxc x0):=fun x hx hp=>by
  have:=(loop_come h hI hx).2
  rw [← (hp.pv h (hI.blt x hx)).2,tpv_nx] at this
  exact hv this
 have hfl:((x0 :: l) :: more).flatten=x0 :: (l ++ more.flatten):=rfl
 have hfl':((σ (pvc x0) :: σ (nxc x0) :: l) :: more).flatten=σ (pvc x0) :: σ (nxc x0) :: (l ++ more.flatten):=rfl
 have hfnd:=hI.fnd
 rw [hfl] at hfnd
 have hx0l:x0 ∉ l ++ more.flatten:=(List.nodup_cons.1 hfnd).1
 have hl3:3 ≤ (x0 :: l).length:=hI.len _ (.head _)
 refine winv_mk h hI (fun L hL=>?_) (fun L hL=>?_) (fun x t hL=>?_) ?_ fun x=>?_
 · rcases List.mem_cons.1 hL with rfl | hL
   · simp only [List.length_cons] at hl3 ⊢
     omega
   exact hI.len L (.tail _ hL)
 · rcases List.mem_cons.1 hL with rfl | hL
   · have hnd:=hI.nd _ (.head _)
     simp only [List.map_cons,List.nodup_cons,List.mem_cons,not_or] at hnd ⊢
     rw [h.A.nx _ (pvc_lt h1),h.A.nx _ (nxc_lt h1),tpv_pv,tpv_nx]
     refine ⟨⟨fun e=>(h.tri x0 h1).1 e.symm,hnd.1⟩,fun hm=>?_,hnd.2⟩
     obtain ⟨y,hy,e⟩:=List.mem_map.1 hm
     have hyf:y ∈ ((x0 :: l) :: more).flatten:=by rw [hfl]; exact .tail _ (List.mem_append.2 (.inl hy))
     have:=(loop_come h hI hyf).1
     rw [e] at this
     exact hv this
   exact hI.nd L (.tail _ hL)
 · rcases List.mem_cons.1 hL with e | hL
   · injection e with e1 e2
     subst e1 e2
     have hpl:=hI.path x0 l (.head _)
     have hmem:∀ e ∈ l,e < 3 * F ∧ e ≠ x0 ∧ ¬ Pass σ vis e (nxc x0):=fun e he=>by
      have hef:e ∈ ((x0 :: l) :: more).flatten:=by rw [hfl]; exact .tail _ (List.mem_append.2 (.inl he))
      exact ⟨hI.blt e hef,fun e'=>hx0l (List.mem_append.2 (.inl (e' ▸ he))),hno e hef⟩
     refine ⟨fan_c h h1 fun w hw e hm=>hv ⟨pvc w,pvc_lt hw,by rw [tpv_div]; exact hm,e⟩,?_⟩
     match l,hl3,hpl,hmem,hzp,hfl with
     | x1 :: l1,hl3,hpl,hmem,hzp,hfl =>
      refine ⟨fan_b h h1 h3 hpl.1 hp0,path_a h h1 h3 h2 hpl.2 fun e he=>⟨(hmem e he).1,(hmem e he).2.1,(hmem e he).2.2,fun e'=>hzp ?_⟩⟩
      rw [← e']
      exact List.mem_flatten.2 ⟨_,.head _,.tail _ he⟩
   exact more_path h hI (fun y hy=>hno y (by rw [hfl]; exact .tail _ (List.mem_append.2 (.inr hy)))) hL
 · rw [hfl']
   rw [hfl] at a1 a2
   simp only [List.mem_cons,not_or] at a1 a2
   exact List.nodup_cons.2 ⟨fun hm=>by
    rcases List.mem_cons.1 hm with e | hm
    · exact a3 e.symm
    exact a2.2 hm,List.nodup_cons.2 ⟨a1.2,(List.nodup_cons.1 hfnd).2⟩⟩
 rw [hfl',hfl]
 rw [hfl] at hz1 hzp
 simp only [List.mem_cons,not_or] at hz1 hzp ⊢
 constructor
 · rintro (rfl | rfl | hm)
   · exact .inr (.inr ⟨rfl,hq0⟩)
   · exact .inr (.inl ⟨rfl,hp0⟩)
   exact .inl ⟨.inr hm,fun e=>hx0l (e ▸ hm),fun e=>hz1.2 (e ▸ hm),fun e=>hzp.2 (e ▸ hm)⟩
 rintro (⟨e | hm,g,_⟩ | ⟨rfl,_⟩ | ⟨rfl,_⟩)
 · exact absurd e g
 · exact .inr (.inr hm)
 · exact .inr (.inl rfl)
 exact .inl rfl
end
end
section
section
variable {α:Type} [DecidableEq α] {F:Nat} {σ:Nat → Nat} {u:Nat → α} {vis:List Nat} {V:List α} {x0:Nat} {l:List Nat} {more:List (List Nat)}
structure Cut (F:Nat) (σ:Nat → Nat) (u:Nat → α) (vis:List Nat) (x0:Nat) (l:List Nat) (more:List (List Nat)) (A:List Nat) (x y:Nat) (B:List Nat):Prop where
 eq:l=A ++ x :: y :: B
 pass:Pass σ vis x (nxc x0)
 at_:u (nxc y)=u x0
 only:∀ e ∈ ((x0 :: l) :: more).flatten,Pass σ vis e (nxc x0) → e=x
 pa:Path σ vis x0 A x
 pm:Fan σ vis x y
 pb:Path σ vis y B x0
 a0:A=[] ↔ σ (nxc x0) / 3 ∈ vis
 b0:B=[] ↔ σ (pvc x0) / 3 ∈ vis
 ax:σ (nxc x0) / 3 ∈ vis ↔ x=nxc x0
 by_:σ (pvc x0) / 3 ∈ vis ↔ y=pvc x0
theorem winv_cut (hS:Sph F σ u V) (hI:WInv F σ u vis ((x0 :: l) :: more)) (hv:ComeV F u vis (u x0)):∃ A x y B,Cut F σ u vis x0 l more A x y B:=by
 have h:=hS.C
 obtain ⟨h0,h1,h2,h3⟩:=hI.cur
 have ht:=h.tri x0 h1
 obtain ⟨d,hd,hdv,hdu⟩:=hv
 have hz1:=nxc_lt h1
 have hzp:=pvc_lt h1
 have hrot:=h.star (nxc d) (nxc x0) (nxc_lt hd) hz1 (by rw [tpv_nx,tpv_nx]; exact hdu)
 obtain ⟨x,hx,hxv,hxs,hp⟩:=back_ex h (nxc_lt hd) hrot (by rw [tnx_div]; exact hdv) (by rw [tnx_div]; exact h2)
 have hxf:x ∈ ((x0 :: l) :: more).flatten:=(hI.bd x hx).1 ⟨hxv,hxs⟩
 have hpx:u (pvc x)=u x0:=by rw [← (hp.pv h hx).2,tpv_nx]
 have hxl:x ∈ l:=by
  rcases List.mem_cons.1 (jordan hS hI hxf hp (tnx_div x0)) with e | e
  · rw [e] at hpx
    exact absurd hpx.symm ht.2.1
  exact e
 obtain ⟨A,R,hl⟩:=List.append_of_mem hxl
 have hpath:=hI.path x0 l (.head _)
 rw [hl] at hpath
 obtain ⟨pa,pr⟩:=path_split.1 hpath
 have only:∀ e ∈ ((x0 :: l) :: more).flatten,Pass σ vis e (nxc x0) → e=x:=fun e he g =>
  g.inj h (hI.blt e he) hx hp ((hI.bd e (hI.blt e he)).2 he).2 hxs
 have hnd:(x0 :: l).Nodup:=List.Nodup.sublist (List.sublist_flatten_of_mem (.head _)) hI.fnd
 have hin:∀ e ∈ l,e ∈ ((x0 :: l) :: more).flatten:=fun e he=>List.mem_flatten.2 ⟨_,.head _,.tail _ he⟩
 obtain ⟨a1,a2,a3,a4,a5⟩:=across_new h h1 h2 hI
 match R,hl,pr with
 | [],hl,pr =>
  exfalso
  have pr:Fan σ vis x x0:=pr
  have:=(pr.info h hx).2.2.2
  rw [hpx] at this
  exact ht.1 this.symm
 | y :: B,hl,pr =>
  obtain ⟨pm,pb⟩:Fan σ vis x y ∧ Path σ vis y B x0:=pr
  have hym:y ∈ l:=by rw [hl]; exact List.mem_append.2 (.inr (.tail _ (.head _)))
  have hy:=hI.blt y (hin y hym)
  have hat:u (nxc y)=u x0:=by rw [(pm.info h hx).2.2.2,hpx]
  have ax:σ (nxc x0) / 3 ∈ vis ↔ x=nxc x0:=by
   constructor
   · intro g
     exact hp.border h hx g
   intro e
   rw [← e]
   exact hxs
  have hAx:A=[] → x=nxc x0:=fun e=>by
   subst e
   have pa:Fan σ vis x0 x:=pa
   refine h.inj x (nxc x0) hx hz1 ?_ ?_
   · rw [(pa.info h h1).2.2.2,tnx_nx]
   rw [hpx,tpv_nx]
  have hxA:x=nxc x0 → A=[]:=fun e=>by
   have hvis:=ax.2 e
   match A,pa,hl with
   | [],_,_=>rfl
   | c :: A',pa,hl =>
    exfalso
    have hc:c=nxc x0:=Fan.det pa.1 (.last h2 hvis)
    rw [hl,hc,← e] at hnd
    have:=(List.nodup_cons.1 (List.nodup_cons.1 hnd).2).1
    exact this (List.mem_append.2 (.inr (.head _)))
  have hBy:B=[] → y=pvc x0:=fun e=>by
   subst e
   have pb:Fan σ vis y x0:=pb
   refine h.inj y (pvc x0) hy hzp ?_ ?_
   · rw [hat,tnx_pv]
   rw [← (pb.info h hy).2.2.2,tpv_pv]
  have hyB:y=pvc x0 → B=[]:=fun e=>by
   have g:Fan σ vis y (nxc y):=.last ((hI.bd y hy).2 (hin y hym)).1 (by rw [e,tnx_pv]; exact h3)
   rw [show nxc y=x0 by rw [e,tnx_pv]] at g
   match B,pb,hl with
   | [],_,_=>rfl
   | c :: B',pb,hl =>
    exfalso
    have hc:c=x0:=Fan.det pb.1 g
    rw [hl,hc] at hnd
    exact (List.nodup_cons.1 hnd).1 (List.mem_append.2 (.inr (.tail _ (.tail _ (.head _)))))
  have bys:σ (pvc x0) / 3 ∈ vis → y=pvc x0:=fun g=>by
   have f1:=hp.fan pm
   have f2:Fan σ vis (nxc x0) (nxc (nxc x0)):=.last (by rw [tnx_div]; exact h2) (by rw [tnx_nx]; exact g)
   rw [tnx_nx] at f2
   exact f1.det f2
  have by':σ (pvc x0) / 3 ∈ vis ↔ y=pvc x0:=⟨bys,fun e=>a5.1 (e ▸ hin y hym)⟩
  exact ⟨A,x,y,B,hl,hp,hat,only,pa,pm,pb,⟨fun e=>ax.2 (hAx e),fun g=>hxA (ax.1 g)⟩,⟨fun e=>by'.2 (hBy e),fun g=>hyB (by'.1 g)⟩,ax,by'⟩
end
end
section
section
variable {α:Type} [DecidableEq α] {F:Nat} {σ:Nat → Nat} {u:Nat → α} {vis:List Nat} {V:List α} {x0:Nat} {l:List Nat} {more:List (List Nat)} {A B:List Nat} {x y:Nat}
theorem Cut.nd (hI:WInv F σ u vis ((x0 :: l) :: more)) (hC:Cut F σ u vis x0 l more A x y B):(x0 :: (A ++ x :: y :: B)).Nodup ∧ (∀ e ∈ x0 :: (A ++ x :: y :: B),e ∉ more.flatten) ∧ more.flatten.Nodup ∧ ∀ e ∈ x0 :: (A ++ x :: y :: B),e ∈ ((x0 :: l) :: more).flatten:=by
 have hf:=hI.fnd
 rw [List.flatten_cons,hC.eq] at hf
 obtain ⟨h1,h2,h3⟩:=List.nodup_append.1 hf
 refine ⟨h1,fun e he hm=>h3 e he e hm rfl,h2,fun e he=>?_⟩
 rw [List.flatten_cons,hC.eq]
 exact List.mem_append.2 (.inl he)
theorem Cut.side (hI:WInv F σ u vis ((x0 :: l) :: more)) (hC:Cut F σ u vis x0 l more A x y B) {e:Nat} (he:e ∈ A ++ y :: B):e < 3 * F ∧ e ≠ x0 ∧ ¬ Pass σ vis e (nxc x0):=by
 obtain ⟨h1,_,_,h4⟩:=hC.nd hI
 have hm:e ∈ A ++ x :: y :: B:=by
  rcases List.mem_append.1 he with g | g
  · exact List.mem_append.2 (.inl g)
  exact List.mem_append.2 (.inr (.tail _ g))
 refine ⟨hI.blt e (h4 e (.tail _ hm)),fun e'=>(List.nodup_cons.1 h1).1 (e' ▸ hm),fun hp=>?_⟩
 have ex:=hC.only e (h4 e (.tail _ hm)) hp
 obtain ⟨g1,g2,g3⟩:=List.nodup_append.1 (List.nodup_cons.1 h1).2
 rw [ex] at he
 rcases List.mem_append.1 he with g | g
 · exact g3 x g x (.head _) rfl
 exact (List.nodup_cons.1 g2).1 g
theorem Cut.loopP (h:Closed3 F σ u) (hI:WInv F σ u vis ((x0 :: l) :: more)) (hC:Cut F σ u vis x0 l more A x y B) (hp0:σ (nxc x0) / 3 ∉ vis):Path σ (x0 / 3 :: vis) (σ (nxc x0)) (A ++ [x]) (σ (nxc x0)):=by
 obtain ⟨h0,h1,h2,h3⟩:=hI.cur
 obtain ⟨n1,n2,n3,n4⟩:=hC.nd hI
 have hxm:x ∈ A ++ x :: y :: B:=List.mem_append.2 (.inr (.head _))
 refine path_split.2 ⟨path_b h h1 h3 h2 hp0 hC.pa (fun e he=>hC.side hI (List.mem_append.2 (.inl he))) fun e=>(List.nodup_cons.1 n1).1 (e ▸ hxm),fan_v h h1 (hI.blt x (n4 x (.tail _ hxm))) hC.pass fun e=>hp0 (hC.ax.2 e)⟩
theorem Cut.loopQ (h:Closed3 F σ u) (hI:WInv F σ u vis ((x0 :: l) :: more)) (hC:Cut F σ u vis x0 l more A x y B) (hq0:σ (pvc x0) / 3 ∉ vis):Path σ (x0 / 3 :: vis) (σ (pvc x0)) (y :: B) (σ (pvc x0)):=by
 obtain ⟨h0,h1,h2,h3⟩:=hI.cur
 obtain ⟨n1,n2,n3,n4⟩:=hC.nd hI
 have a5:=(across_new h h1 h2 hI).2.2.2.2
 refine ⟨fan_w h h1 (hC.pass.fan hC.pm) hq0,path_a h h1 h3 h2 hC.pb fun e he=>?_⟩
 have g:=hC.side hI (List.mem_append.2 (.inr he))
 refine ⟨g.1,g.2.1,g.2.2,fun e'=>hq0 (a5.1 (e' ▸ n4 e (.tail _ (List.mem_append.2 (.inr (.tail _ he))))))⟩
theorem Cut.verts (h:Closed3 F σ u) (hI:WInv F σ u vis ((x0 :: l) :: more)) (hC:Cut F σ u vis x0 l more A x y B):((σ (nxc x0) :: (A ++ [x])).map fun x=>u (nxc x)).Nodup ∧ ((σ (pvc x0) :: y :: B).map fun x=>u (nxc x)).Nodup:=by
 obtain ⟨h0,h1,h2,h3⟩:=hI.cur
 have hnd:=hI.nd _ (.head _)
 rw [hC.eq] at hnd
 simp only [List.map_cons,List.map_append,List.map_nil] at hnd ⊢
 rw [h.A.nx _ (nxc_lt h1),h.A.nx _ (pvc_lt h1),tpv_nx,tpv_pv,hC.at_] 
 rw [hC.at_] at hnd
 obtain ⟨g1,g2⟩:=List.nodup_cons.1 hnd
 obtain ⟨k1,k2,k3⟩:=List.nodup_append.1 g2
 obtain ⟨m1,m2⟩:=List.nodup_cons.1 k2
 refine ⟨List.nodup_cons.2 ⟨fun hm=>?_,List.nodup_append.2 ⟨k1,by simp,fun a ha b hb=>?_⟩⟩,List.nodup_cons.2 ⟨fun hm=>g1 (List.mem_append.2 (.inr (.tail _ hm))),m2⟩⟩
 · rcases List.mem_append.1 hm with g | g
   · exact k3 _ g _ (.tail _ (.head _)) rfl
   rw [List.mem_singleton.1 g] at m1
   exact m1 (.head _)
 rw [List.mem_singleton.1 hb]
 exact k3 a ha _ (.head _)
theorem Cut.more_ (h:Closed3 F σ u) (hI:WInv F σ u vis ((x0 :: l) :: more)) (hC:Cut F σ u vis x0 l more A x y B):∀ z t,z :: t ∈ more → Path σ (x0 / 3 :: vis) z t z:=fun z t hW=>by
 obtain ⟨n1,n2,n3,n4⟩:=hC.nd hI
 refine more_path h hI (fun e he hp=>?_) hW
 have ex:=hC.only e (by rw [List.flatten_cons]; exact List.mem_append.2 (.inr he)) hp
 exact n2 x (.tail _ (List.mem_append.2 (.inr (.head _)))) (ex ▸ he)
theorem pos_of {A:List Nat} (h:A ≠ []):0 < A.length:=List.length_pos_iff.2 h
theorem winv_e (h:Closed3 F σ u) (hI:WInv F σ u vis ((x0 :: l) :: more)) (hC:Cut F σ u vis x0 l more A x y B) (hA:A=[]) (hB:B=[]):WInv F σ u (x0 / 3 :: vis) more:=by
 obtain ⟨n1,n2,n3,n4⟩:=hC.nd hI
 have hp:=hC.a0.1 hA
 have hq:=hC.b0.1 hB
 have ex:=hC.ax.1 hp
 have ey:=hC.by_.1 hq
 subst hA hB
 refine winv_mk h hI (fun L hL=>hI.len L (.tail _ hL)) (fun L hL=>hI.nd L (.tail _ hL)) (hC.more_ h hI) n3 fun e=>?_
 rw [List.flatten_cons,hC.eq,ex,ey] 
 rw [ex,ey] at n2
 simp only [List.nil_append,List.mem_cons,List.mem_append,List.not_mem_nil,or_false] at n2 ⊢
 constructor
 · intro hm
   exact .inl ⟨.inr hm,fun e'=>n2 e (.inl e') hm,fun e'=>n2 e (.inr (.inl e')) hm,fun e'=>n2 e (.inr (.inr e')) hm⟩
 rintro (⟨(g | g | g) | g,g1,g2,g3⟩ | ⟨_,g⟩ | ⟨_,g⟩)
 · exact absurd g g1
 · exact absurd g g2
 · exact absurd g g3
 · exact g
 · exact absurd hp g
 exact absurd hq g
theorem winv_l (h:Closed3 F σ u) (hI:WInv F σ u vis ((x0 :: l) :: more)) (hC:Cut F σ u vis x0 l more A x y B) (hA:A ≠ []) (hB:B=[]):WInv F σ u (x0 / 3 :: vis) ((σ (nxc x0) :: (A ++ [x])) :: more):=by
 obtain ⟨h0,h1,h2,h3⟩:=hI.cur
 obtain ⟨n1,n2,n3,n4⟩:=hC.nd hI
 obtain ⟨a1,a2,a3,a4,a5⟩:=across_new h h1 h2 hI
 have hp:σ (nxc x0) / 3 ∉ vis:=fun g=>hA (hC.a0.2 g)
 have hz1:nxc x0 ∉ ((x0 :: l) :: more).flatten:=fun g=>hp (a4.1 g)
 have hq:=hC.b0.1 hB
 have ey:=hC.by_.1 hq
 have hpos:=pos_of hA
 subst hB
 have hfl:((x0 :: l) :: more).flatten=x0 :: (A ++ [x,y]) ++ more.flatten:=by rw [List.flatten_cons,hC.eq]
 rw [hfl] at a1 hz1
 refine winv_mk h hI (fun L hL=>?_) (fun L hL=>?_) (fun z t hL=>?_) ?_ fun e=>?_
 · rcases List.mem_cons.1 hL with rfl | hL
   · simp only [List.length_cons,List.length_append,List.length_nil]
     omega
   exact hI.len L (.tail _ hL)
 · rcases List.mem_cons.1 hL with rfl | hL
   · exact (hC.verts h hI).1
   exact hI.nd L (.tail _ hL)
 · rcases List.mem_cons.1 hL with e | hL
   · injection e with e1 e2
     rw [e1,e2]
     exact hC.loopP h hI hp
   exact hC.more_ h hI z t hL
 · rw [List.flatten_cons]
   simp only [List.mem_cons,List.mem_append,List.not_mem_nil,or_false,not_or,List.cons_append] at a1
   obtain ⟨k1,k2,k3⟩:=List.nodup_append.1 (List.nodup_cons.1 n1).2
   refine List.nodup_append.2 ⟨List.nodup_cons.2 ⟨fun hm=>?_,List.nodup_append.2 ⟨k1,by simp,fun a ha b hb=>?_⟩⟩,n3,fun a ha b hb e=>?_⟩
   · rcases List.mem_append.1 hm with g | g
     · exact a1.2.1.1 g
     exact a1.2.1.2.1 (List.mem_singleton.1 g)
   · rw [List.mem_singleton.1 hb]
     exact k3 a ha x (.head _)
   subst e
   rcases List.mem_cons.1 ha with g | g
   · exact a1.2.2 (g ▸ hb)
   refine n2 a (.tail _ ?_) hb
   rcases List.mem_append.1 g with g | g
   · exact List.mem_append.2 (.inl g)
   exact List.mem_append.2 (.inr (by rw [List.mem_singleton.1 g]; exact .head _))
 rw [List.flatten_cons,hfl]
 have hy1:∀ e,e ∈ A ∨ e=x → e ≠ y:=fun e he e'=>by
  obtain ⟨k1,k2,k3⟩:=List.nodup_append.1 (List.nodup_cons.1 n1).2
  rcases he with g | g
  · exact k3 e g y (.tail _ (.head _)) e'
  rw [← g,e'] at k2
  exact (List.nodup_cons.1 k2).1 (.head _)
 have hx0:∀ e,e ∈ A ∨ e=x → e ≠ x0:=fun e he e'=>by
  refine (List.nodup_cons.1 n1).1 (e' ▸ ?_)
  rcases he with g | g
  · exact List.mem_append.2 (.inl g)
  exact List.mem_append.2 (.inr (by rw [g]; exact .head _))
 have hm1:∀ e ∈ more.flatten,e ≠ x0 ∧ e ≠ y:=fun e he=>⟨fun e'=>n2 x0 (.head _) (e' ▸ he),fun e'=>n2 y (.tail _ (List.mem_append.2 (.inr (.tail _ (.head _))))) (e' ▸ he)⟩
 simp only [List.mem_cons,List.mem_append,List.not_mem_nil,or_false,not_or,List.cons_append] at hz1 ⊢
 rw [← ey]
 constructor
 · rintro (rfl | (g | g) | g)
   · exact .inr (.inl ⟨rfl,hp⟩)
   · exact .inl ⟨.inr (.inl (.inl g)),hx0 e (.inl g),fun e'=>hz1.2.1.1 (e' ▸ g),hy1 e (.inl g)⟩
   · exact .inl ⟨.inr (.inl (.inr (.inl g))),hx0 e (.inr g),fun e'=>hz1.2.1.2.1 (e' ▸ g),hy1 e (.inr g)⟩
   exact .inl ⟨.inr (.inr g),(hm1 e g).1,fun e'=>hz1.2.2 (e' ▸ g),(hm1 e g).2⟩
 rintro (⟨g | (g | g | g) | g,g1,g2,g3⟩ | ⟨g,_⟩ | ⟨_,g⟩)
 · exact absurd g g1
 · exact .inr (.inl (.inl g))
 · exact .inr (.inl (.inr g))
 · exact absurd g g3
 · exact .inr (.inr g)
 · exact .inl g
 rw [ey] at g
 exact absurd hq g
end
end
section
section
variable {α:Type} [DecidableEq α] {F:Nat} {σ:Nat → Nat} {u:Nat → α} {vis:List Nat} {V:List α} {x0:Nat} {l:List Nat} {more:List (List Nat)} {A B:List Nat} {x y:Nat}
theorem winv_r (h:Closed3 F σ u) (hI:WInv F σ u vis ((x0 :: l) :: more)) (hC:Cut F σ u vis x0 l more A x y B) (hA:A=[]) (hB:B ≠ []):WInv F σ u (x0 / 3 :: vis) ((σ (pvc x0) :: y :: B) :: more):=by
 obtain ⟨h0,h1,h2,h3⟩:=hI.cur
 obtain ⟨n1,n2,n3,n4⟩:=hC.nd hI
 obtain ⟨a1,a2,a3,a4,a5⟩:=across_new h h1 h2 hI
 have hq:σ (pvc x0) / 3 ∉ vis:=fun g=>hB (hC.b0.2 g)
 have hzp:pvc x0 ∉ ((x0 :: l) :: more).flatten:=fun g=>hq (a5.1 g)
 have hp:=hC.a0.1 hA
 have ex:=hC.ax.1 hp
 have hpos:=pos_of hB
 subst hA
 have hfl:((x0 :: l) :: more).flatten=x0 :: x :: y :: B ++ more.flatten:=by rw [List.flatten_cons,hC.eq]; rfl
 rw [hfl] at a2 hzp
 refine winv_mk h hI (fun L hL=>?_) (fun L hL=>?_) (fun z t hL=>?_) ?_ fun e=>?_
 · rcases List.mem_cons.1 hL with rfl | hL
   · simp only [List.length_cons]
     omega
   exact hI.len L (.tail _ hL)
 · rcases List.mem_cons.1 hL with rfl | hL
   · exact (hC.verts h hI).2
   exact hI.nd L (.tail _ hL)
 · rcases List.mem_cons.1 hL with e | hL
   · injection e with e1 e2
     rw [e1,e2]
     exact hC.loopQ h hI hq
   exact hC.more_ h hI z t hL
 · rw [List.flatten_cons]
   simp only [List.nil_append,List.mem_cons,List.mem_append,List.nodup_cons,List.cons_append,List.nodup_append,not_or] at a2 n1 n2 ⊢
   grind
 rw [List.flatten_cons,hfl,← ex]
 rw [← ex] at hp
 simp only [List.nil_append,List.mem_cons,List.mem_append,List.nodup_cons,List.cons_append,List.nodup_append,not_or] at a2 n1 n2 hzp ⊢
 grind
theorem winv_s (h:Closed3 F σ u) (hI:WInv F σ u vis ((x0 :: l) :: more)) (hC:Cut F σ u vis x0 l more A x y B) (hA:A ≠ []) (hB:B ≠ []):WInv F σ u (x0 / 3 :: vis) ((σ (pvc x0) :: y :: B) :: (σ (nxc x0) :: (A ++ [x])) :: more):=by
 obtain ⟨h0,h1,h2,h3⟩:=hI.cur
 obtain ⟨n1,n2,n3,n4⟩:=hC.nd hI
 obtain ⟨a1,a2,a3,a4,a5⟩:=across_new h h1 h2 hI
 have hq:σ (pvc x0) / 3 ∉ vis:=fun g=>hB (hC.b0.2 g)
 have hp:σ (nxc x0) / 3 ∉ vis:=fun g=>hA (hC.a0.2 g)
 have hz1:nxc x0 ∉ ((x0 :: l) :: more).flatten:=fun g=>hp (a4.1 g)
 have hzp:pvc x0 ∉ ((x0 :: l) :: more).flatten:=fun g=>hq (a5.1 g)
 have hposB:=pos_of hB
 have hposA:=pos_of hA
 have hfl:((x0 :: l) :: more).flatten=x0 :: (A ++ x :: y :: B) ++ more.flatten:=by rw [List.flatten_cons,hC.eq]
 rw [hfl] at a1 a2 hzp hz1
 refine winv_mk h hI (fun L hL=>?_) (fun L hL=>?_) (fun z t hL=>?_) ?_ fun e=>?_
 · rcases List.mem_cons.1 hL with rfl | hL
   · simp only [List.length_cons]
     omega
   rcases List.mem_cons.1 hL with rfl | hL
   · simp only [List.length_cons,List.length_append,List.length_nil]
     omega
   exact hI.len L (.tail _ hL)
 · rcases List.mem_cons.1 hL with rfl | hL
   · exact (hC.verts h hI).2
   rcases List.mem_cons.1 hL with rfl | hL
   · exact (hC.verts h hI).1
   exact hI.nd L (.tail _ hL)
 · rcases List.mem_cons.1 hL with e | hL
   · injection e with e1 e2
     rw [e1,e2]
     exact hC.loopQ h hI hq
   rcases List.mem_cons.1 hL with e | hL
   · injection e with e1 e2
     rw [e1,e2]
     exact hC.loopP h hI hp
   exact hC.more_ h hI z t hL
 · rw [List.flatten_cons,List.flatten_cons]
   simp only [List.nil_append,List.mem_cons,List.mem_append,List.nodup_cons,List.cons_append,List.nodup_append,not_or,List.not_mem_nil,or_false] at a1 a2 n1 n2 ⊢
   grind
 rw [List.flatten_cons,List.flatten_cons,hfl]
 simp only [List.nil_append,List.mem_cons,List.mem_append,List.nodup_cons,List.cons_append,List.nodup_append,not_or,List.not_mem_nil,or_false] at a1 a2 n1 n2 hz1 hzp ⊢
 grind
end
end
section
section
variable {α:Type} [DecidableEq α] {F:Nat} {σ:Nat → Nat} {u:Nat → α} {vis:List Nat} {V:List α} {x0:Nat} {l:List Nat} {more:List (List Nat)} {A B:List Nat} {x y:Nat}
def idxX (u:Nat → α) (x0:Nat) (l:List Nat):Nat:=((x0 :: l).map fun x=>u (nxc x)).idxOf (u x0)
def stepX (σ:Nat → Nat) (u:Nat → α) (seen:List α) (x0:Nat) (l:List Nat) (more:List (List Nat)):Nat × List α × List (List Nat) :=
 if u x0 ∈ seen then
  if l.length=2 then (69,seen,more)
  else if idxX u x0 l=l.length then (76,seen,(σ (nxc x0) :: l.take (l.length - 1)) :: more)
  else if idxX u x0 l=2 then (82,seen,(σ (pvc x0) :: l.drop 1) :: more)
  else (83,seen,(σ (pvc x0) :: l.drop (idxX u x0 l - 1)) :: (σ (nxc x0) :: l.take (idxX u x0 l - 1)) :: more)
 else (67,seen ++ [u x0],(σ (pvc x0) :: σ (nxc x0) :: l) :: more)
theorem Cut.idx (hI:WInv F σ u vis ((x0 :: l) :: more)) (hC:Cut F σ u vis x0 l more A x y B):idxX u x0 l=A.length + 2:=by
 have hnd:=hI.nd _ (.head _)
 unfold idxX
 rw [hC.eq] at hnd ⊢
 have e:(x0 :: (A ++ x :: y :: B)).map (fun x=>u (nxc x))=(x0 :: (A ++ [x])).map (fun x=>u (nxc x)) ++ u x0 :: B.map fun x=>u (nxc x):=by
  simp [hC.at_]
 rw [e] at hnd ⊢
 have hn:u x0 ∉ (x0 :: (A ++ [x])).map fun x=>u (nxc x):=fun hm=>(List.nodup_append.1 hnd).2.2 _ hm _ (.head _) rfl
 rw [List.idxOf_append,if_neg hn,List.idxOf_cons_self]
 simp
theorem step_x (hS:Sph F σ u V) {seen:List α} (hI:WInv F σ u vis ((x0 :: l) :: more)) (hs:∀ v,v ∈ seen ↔ ComeV F u vis v) :
  WInv F σ u (x0 / 3 :: vis) (stepX σ u seen x0 l more).2.2 ∧ (∀ v,v ∈ (stepX σ u seen x0 l more).2.1 ↔ ComeV F u (x0 / 3 :: vis) v) ∧ (u x0 ∈ seen → 2 ≤ idxX u x0 l ∧ idxX u x0 l ≤ l.length):=by
 have h:=hS.C
 obtain ⟨h0,h1,h2,h3⟩:=hI.cur
 have hcome:∀ v,ComeV F u (x0 / 3 :: vis) v ↔ ComeV F u vis v ∨ v=u x0:=fun v=>by
  constructor
  · rintro ⟨d,hd,hm,e⟩
    rcases List.mem_cons.1 hm with g | g
    · have hc:=loop_come h hI h0
      rcases of_tri g.symm with r | r | r
      · rw [← e,r]
        exact .inr rfl
      · rw [← e,r]
        exact .inl hc.1
      rw [← e,r]
      exact .inl hc.2
    exact .inl ⟨d,hd,g,e⟩
  rintro (⟨d,hd,hm,e⟩ | rfl)
  · exact ⟨d,hd,.tail _ hm,e⟩
  exact ⟨x0,h1,.head _,rfl⟩
 unfold stepX
 by_cases hv:u x0 ∈ seen
 · rw [if_pos hv]
   obtain ⟨A,x,y,B,hC⟩:=winv_cut hS hI ((hs _).1 hv)
   have hi:=hC.idx hI
   have hl:l.length=A.length + 2 + B.length:=by rw [hC.eq]; simp; omega
   have hsame:∀ v,v ∈ seen ↔ ComeV F u (x0 / 3 :: vis) v:=fun v=>by
    rw [hcome,← hs]
    exact ⟨.inl,fun g=>g.elim id fun e=>e ▸ hv⟩
   have hA:A=[] ↔ A.length=0:=List.length_eq_zero_iff.symm
   have hB:B=[] ↔ B.length=0:=List.length_eq_zero_iff.symm
   have ht:l.take (A.length + 1)=A ++ [x]:=by
    rw [hC.eq,show A ++ x :: y :: B=(A ++ [x]) ++ y :: B by simp]
    exact List.take_left' (by simp)
   have hd:l.drop (A.length + 1)=y :: B:=by
    rw [hC.eq,show A ++ x :: y :: B=(A ++ [x]) ++ y :: B by simp]
    exact List.drop_left' (by simp)
   refine ⟨?_,?_,fun _=>by omega⟩
   · rw [hi]
     by_cases c1:l.length=2
     · rw [if_pos c1]
       exact winv_e h hI hC (hA.2 (by omega)) (hB.2 (by omega))
     rw [if_neg c1]
     by_cases c2:A.length + 2=l.length
     · rw [if_pos c2,show l.length - 1=A.length + 1 by omega,ht]
       exact winv_l h hI hC (fun e=>c1 (by have:=hA.1 e; omega)) (hB.2 (by omega))
     rw [if_neg c2]
     have hBn:B ≠ []:=fun e=>c2 (by have:=hB.1 e; omega)
     by_cases c3:A.length + 2=2
     · rw [if_pos c3,show 1=A.length + 1 by omega,hd]
       exact winv_r h hI hC (hA.2 (by omega)) hBn
     rw [if_neg c3,show A.length + 2 - 1=A.length + 1 by omega,hd,ht]
     exact winv_s h hI hC (fun e=>c3 (by rw [hA.1 e])) hBn
   intro v
   rw [← hsame]
   split
   · rfl
   split
   · rfl
   split <;> rfl
 rw [if_neg hv]
 refine ⟨winv_c h hI fun g=>hv ((hs _).2 g),fun v=>?_,fun g=>absurd g hv⟩
 rw [hcome,← hs]
 simp
end
end
section
section
variable {α:Type} [DecidableEq α] {F:Nat} {σ:Nat → Nat} {u:Nat → α} {vis:List Nat} {V:List α}
def startX (σ:Nat → Nat) (c:Nat):List Nat:=[σ (pvc c),σ (nxc c),σ c]
def seen0 (u:Nat → α) (c:Nat):List α:=[u c,u (nxc c),u (pvc c)]
theorem winv_start (h:Closed3 F σ u) {c:Nat} (hc:c < 3 * F):WInv F σ u [c / 3] [startX σ c] ∧ ∀ v,v ∈ seen0 u c ↔ ComeV F u [c / 3] v:=by
 have h1:=nxc_lt hc
 have h2:=pvc_lt hc
 have ht:=h.tri c hc
 have hfan:∀ {d},d < 3 * F → d / 3=c / 3 → Fan σ [c / 3] (σ (pvc d)) (σ (nxc d)):=fun {d} hd e=>by
  have:=fan_c (vis:=[]) h hd fun w _ _ hm=>by cases hm
  rw [e] at this
  exact this
 have f1:=hfan hc rfl
 have f2:=hfan h2 (tpv_div c)
 have f3:=hfan h1 (tnx_div c)
 rw [tpv_pv,tnx_pv] at f2
 rw [tpv_nx,tnx_nx] at f3
 have e1:u (nxc (σ (pvc c)))=u (nxc c):=by rw [h.A.nx _ h2,tpv_pv]
 have e2:u (nxc (σ (nxc c)))=u c:=by rw [h.A.nx _ h1,tpv_nx]
 have e3:u (nxc (σ c))=u (pvc c):=h.A.nx _ hc
 refine ⟨⟨by simp,fun x hx=>?_,fun L hL=>?_,fun L hL=>?_,fun x l hL=>?_,fun x hx=>?_,fun x hx=>?_,?_,fun x hx y hy=>?_⟩,fun v=>?_⟩
 · rw [List.mem_singleton.1 hx]
   omega
 · rw [List.mem_singleton.1 hL]
   exact Nat.le_refl _
 · rw [List.mem_singleton.1 hL]
   simp only [startX,List.map_cons,List.map_nil,e1,e2,e3]
   simp only [List.nodup_cons,List.mem_cons,List.not_mem_nil,or_false,not_or,not_false_eq_true,List.nodup_nil,and_true]
   exact ⟨⟨fun e=>ht.1 e.symm,ht.2.2⟩,ht.2.1⟩
 · have e:=List.mem_singleton.1 hL
   unfold startX at e
   injection e with e1 e2
   rw [e1,e2]
   exact ⟨f1,f2,f3⟩
 · simp only [startX,List.flatten_cons,List.flatten_nil,List.append_nil,List.mem_cons,List.not_mem_nil,or_false] at hx
   rcases hx with rfl | rfl | rfl
   · exact h.A.lt _ h2
   · exact h.A.lt _ h1
   exact h.A.lt _ hc
 · simp only [startX,List.flatten_cons,List.flatten_nil,List.append_nil,List.mem_cons,List.not_mem_nil,or_false]
   constructor
   · rintro ⟨_,g⟩
     have hb:=h.A.back x hx
     rcases of_tri g.symm with r | r | r
     · rw [r] at hb; exact .inr (.inr hb.symm)
     · rw [r] at hb; exact .inr (.inl hb.symm)
     rw [r] at hb; exact .inl hb.symm
   rintro (rfl | rfl | rfl)
   · have:=h.A.ne _ h2
     rw [tpv_div] at this
     exact ⟨this,by rw [h.A.back _ h2,tpv_div]⟩
   · have:=h.A.ne _ h1
     rw [tnx_div] at this
     exact ⟨this,by rw [h.A.back _ h1,tnx_div]⟩
   exact ⟨h.A.ne _ hc,by rw [h.A.back _ hc]⟩
 · simp only [startX,List.flatten_cons,List.flatten_nil,List.append_nil]
   simp only [List.nodup_cons,List.mem_cons,List.not_mem_nil,or_false,not_or,not_false_eq_true,List.nodup_nil,and_true]
   refine ⟨⟨fun e=>ht.1 ?_,fun e=>ht.2.2 ?_⟩,fun e=>ht.2.1 ?_⟩
   · rw [← e1,← e2,e]
   · rw [← e1,← e3,e]
   rw [← e2,← e3,e]
 · rw [List.mem_singleton.1 hx,List.mem_singleton.1 hy]
   exact .refl _
 simp only [seen0,List.mem_cons,List.not_mem_nil,or_false]
 constructor
 · rintro (rfl | rfl | rfl)
   · exact ⟨c,hc,.head _,rfl⟩
   · exact ⟨_,h1,by rw [tnx_div]; exact .head _,rfl⟩
   exact ⟨_,h2,by rw [tpv_div]; exact .head _,rfl⟩
 rintro ⟨d,hd,hm,rfl⟩
 rcases of_tri (List.mem_singleton.1 hm).symm with r | r | r
 · rw [r]; exact .inl rfl
 · rw [r]; exact .inr (.inl rfl)
 rw [r]; exact .inr (.inr rfl)
theorem winv_end (hS:Sph F σ u V) (hI:WInv F σ u vis []) (hne:vis ≠ []):∀ x,x < F → x ∈ vis:=fun x hx=>by
 match vis,hne,hI with
 | r :: t,_,hI =>
  have hr:=hI.vlt r (.head _)
  have:=hS.one r x hr hx
  refine Classical.byContradiction fun hn=>?_
  obtain ⟨o,h1,h2,h3,_⟩:=this.out (vis:=r :: t) (.head _) hn
  have hl:=hS.C.A.lt o h1
  have:=(hI.bd (σ o) hl).1 ⟨h3,by rw [hS.C.A.back o h1]; exact h2⟩
  cases this
def runX (σ:Nat → Nat) (u:Nat → α):Nat → List α → List (List Nat) → List (Nat × Nat) × List α × List (List Nat)
 | n + 1,seen,(x0 :: l) :: more =>
  let r:=runX σ u n (stepX σ u seen x0 l more).2.1 (stepX σ u seen x0 l more).2.2
  (((stepX σ u seen x0 l more).1,x0) :: r.1,r.2)
 | _,seen,Ls=>([],seen,Ls)
theorem run_end (hS:Sph F σ u V):∀ (n:Nat) {vis:List Nat} {seen:List α} {Ls:List (List Nat)},F ≤ vis.length + n → vis ≠ [] → WInv F σ u vis Ls → (∀ v,v ∈ seen ↔ ComeV F u vis v) → (runX σ u n seen Ls).2.2=[]
 | n,vis,seen,[],_,_,_,_=>by cases n <;> rfl
 | n,vis,seen,[] :: more,_,_,hI,_=>by
  have:=hI.len [] (.head _)
  simp at this
 | 0,vis,seen,(x0 :: l) :: more,hn,_,hI,_=>by
  exfalso
  obtain ⟨h0,h1,h2,h3⟩:=hI.cur
  have hsub:(x0 / 3 :: vis).length ≤ (List.range F).length:=List.Nodup.length_le_of_subset (List.nodup_cons.2 ⟨h2,hI.vnd⟩) fun y hy=>by
   rcases List.mem_cons.1 hy with rfl | hy
   · exact List.mem_range.2 (by omega)
   exact List.mem_range.2 (hI.vlt y hy)
  rw [List.length_cons,List.length_range] at hsub
  omega
 | n + 1,vis,seen,(x0 :: l) :: more,hn,_,hI,hs=>by
  obtain ⟨g1,g2,_⟩:=step_x hS hI hs
  show (runX σ u n _ _).2.2=[]
  exact run_end hS n (vis:=x0 / 3 :: vis) (by rw [List.length_cons]; omega) (by simp) g1 g2
end
end
section
section
variable {α:Type} [DecidableEq α] {F:Nat} {σ:Nat → Nat} {u:Nat → α} {V:List α}
theorem step_len {seen:List α} {x0:Nat} {l:List Nat} {more:List (List Nat)} (hi:u x0 ∈ seen → 2 ≤ idxX u x0 l ∧ idxX u x0 l ≤ l.length) :
  ((stepX σ u seen x0 l more).1=67 ∧ (stepX σ u seen x0 l more).2.2.map List.length=(l.length + 2) :: more.map List.length) ∨
  ((stepX σ u seen x0 l more).1=69 ∧ l.length=2 ∧ (stepX σ u seen x0 l more).2.2.map List.length=more.map List.length) ∨
  ((stepX σ u seen x0 l more).1=76 ∧ 0 < l.length ∧ (stepX σ u seen x0 l more).2.2.map List.length=l.length :: more.map List.length) ∨
  ((stepX σ u seen x0 l more).1=82 ∧ 0 < l.length ∧ (stepX σ u seen x0 l more).2.2.map List.length=l.length :: more.map List.length) ∨
  ((stepX σ u seen x0 l more).1=83 ∧ 2 ≤ idxX u x0 l ∧ idxX u x0 l ≤ l.length ∧ (stepX σ u seen x0 l more).2.2.map List.length=(l.length - (idxX u x0 l - 1) + 1) :: idxX u x0 l :: more.map List.length):=by
 unfold stepX
 by_cases hv:u x0 ∈ seen
 · have:=hi hv
   rw [if_pos hv]
   by_cases c1:l.length=2
   · rw [if_pos c1]
     exact .inr (.inl ⟨rfl,c1,rfl⟩)
   rw [if_neg c1]
   by_cases c2:idxX u x0 l=l.length
   · rw [if_pos c2]
     refine .inr (.inr (.inl ⟨rfl,by omega,?_⟩))
     simp only [List.map_cons,List.length_cons,List.length_take]
     congr 1
     omega
   rw [if_neg c2]
   by_cases c3:idxX u x0 l=2
   · rw [if_pos c3]
     refine .inr (.inr (.inr (.inl ⟨rfl,by omega,?_⟩)))
     simp only [List.map_cons,List.length_cons,List.length_drop]
     congr 1
     omega
   rw [if_neg c3]
   refine .inr (.inr (.inr (.inr ⟨rfl,this.1,this.2,?_⟩)))
   simp only [List.map_cons,List.length_cons,List.length_drop,List.length_take]
   congr 2
   omega
 rw [if_neg hv]
 exact .inl ⟨rfl,rfl⟩
theorem lens_eq (hS:Sph F σ u V):∀ (n n':Nat) {vis vis':List Nat} {seen seen':List α} {Ls Ls':List (List Nat)},F ≤ vis.length + n → F ≤ vis'.length + n' → vis ≠ [] → vis' ≠ [] → WInv F σ u vis Ls → WInv F σ u vis' Ls' →
  (∀ v,v ∈ seen ↔ ComeV F u vis v) → (∀ v,v ∈ seen' ↔ ComeV F u vis' v) → (runX σ u n seen Ls).1.map Prod.fst=(runX σ u n' seen' Ls').1.map Prod.fst → Ls.map List.length=Ls'.map List.length:=by
 intro n
 induction n with
 | zero =>
  intro n' vis vis' seen seen' Ls Ls' hn hn' hne hne' hI hI' hs hs' he
  have hend:=run_end hS 0 hn hne hI hs
  have e0:Ls=[]:=hend
  subst e0
  match n',Ls',he,hI',hn' with
  | 0,[],_,_,_=>rfl
  | 0,(y0 :: k) :: more',_,hI',hn'=>exact absurd (run_end hS 0 hn' hne' hI' hs') (by simp [runX])
  | n' + 1,[],_,_,_=>rfl
  | _,[] :: _,_,hI',_=>exact absurd (hI'.len [] (.head _)) (by simp)
  | n' + 1,(y0 :: k) :: more',he,_,_=>cases he
 | succ n ih =>
  intro n' vis vis' seen seen' Ls Ls' hn hn' hne hne' hI hI' hs hs' he
  match Ls,Ls',n',he,hI,hI',hn' with
  | [] :: _,_,_,_,hI,_,_=>exact absurd (hI.len [] (.head _)) (by simp)
  | _,[] :: _,_,_,_,hI',_=>exact absurd (hI'.len [] (.head _)) (by simp)
  | [],[],_,_,_,_,_=>rfl
  | [],(y0 :: k) :: more',0,_,_,hI',hn'=>exact absurd (run_end hS 0 hn' hne' hI' hs') (by simp [runX])
  | (x0 :: l) :: more,(y0 :: k) :: more',0,_,_,hI',hn'=>exact absurd (run_end hS 0 hn' hne' hI' hs') (by simp [runX])
  | [],(y0 :: k) :: more',n' + 1,he,_,_,_=>cases he
  | (x0 :: l) :: more,[],n',he,_,_,_=>cases n' <;> cases he
  | (x0 :: l) :: more,(y0 :: k) :: more',n' + 1,he,hI,hI',hn' =>
   obtain ⟨g1,g2,g3⟩:=step_x hS hI hs
   obtain ⟨k1,k2,k3⟩:=step_x hS hI' hs'
   have he:(stepX σ u seen x0 l more).1 :: ((runX σ u n _ _).1.map Prod.fst)=(stepX σ u seen' y0 k more').1 :: ((runX σ u n' _ _).1.map Prod.fst):=he
   injection he with hl hr
   have hm:=ih n' (by rw [List.length_cons]; omega) (by rw [List.length_cons]; omega) (by simp) (by simp) g1 k1 g2 k2 hr
   simp only [List.map_cons,List.length_cons]
   rcases step_len (σ:=σ) (more:=more) g3 with ⟨a,b⟩ | ⟨a,c,b⟩ | ⟨a,c,b⟩ | ⟨a,c,b⟩ | ⟨a,c,d,b⟩ <;>
   rcases step_len (σ:=σ) (more:=more') k3 with ⟨a',b'⟩ | ⟨a',c',b'⟩ | ⟨a',c',b'⟩ | ⟨a',c',b'⟩ | ⟨a',c',d',b'⟩ <;>
   (rw [a,a'] at hl; first | (exfalso; revert hl; decide) | (rw [b,b'] at hm; first | (rw [hm,c,c']) | (injection hm with e1 e2; first | (injection e2 with e3 e4; rw [e4]; congr 1; omega) | (rw [e2]; congr 1; omega))))
end
end
section
def movL {β:Type} (k i:Nat) (p q:β) (l:List β) (more:List (List β)):List (List β) :=
 if k=69 then more
 else if k=76 then (p :: l.take (l.length - 1)) :: more
 else if k=82 then (q :: l.drop 1) :: more
 else if k=83 then (q :: l.drop (i - 1)) :: (p :: l.take (i - 1)) :: more
 else (q :: p :: l) :: more
theorem movL_map {β γ:Type} (f:β → γ) (k i:Nat) (p q:β) (l:List β) (more:List (List β)):(movL k i p q l more).map (List.map f)=movL k i (f p) (f q) (l.map f) (more.map (List.map f)):=by
 unfold movL
 by_cases h1:k=69
 · simp [h1]
 by_cases h2:k=76
 · simp [h2,List.map_take]
 by_cases h3:k=82
 · simp [h3,List.map_drop]
 by_cases h4:k=83
 · simp [h4,List.map_drop,List.map_take]
 simp [h1,h2,h3,h4]
section
variable {β:Type} {s n p:β → β}
def CPs (n p:β → β) (M:List β) (z:β):Prop:=∃ a ∈ M,z=a ∨ z=n a ∨ z=p a
structure PInv (s n p:β → β) (M:List β) (PL:List (List β)):Prop where
 k1:∀ z ∈ PL.flatten,CPs n p M (s z)
 k2:∀ z,CPs n p M z → CPs n p M (s z) ∨ s z ∈ PL.flatten
theorem CPs.mono {M:List β} {z a:β} (h:CPs n p M z):CPs n p (a :: M) z:=by
 obtain ⟨b,hb,h⟩:=h
 exact ⟨b,.tail _ hb,h⟩
theorem pinv_step {M:List β} {a:β} {l:List β} {more:List (List β)} (k i:Nat) (h:PInv s n p M ((a :: l) :: more)) (hn:s (s (n a))=n a) (hp:s (s (p a))=p a)
  (hE:k=69 → l=[n a,p a]) (hL:k=76 → ∃ A,l=A ++ [p a]) (hR:k=82 → ∃ B,l=n a :: B):PInv s n p (a :: M) (movL k i (s (n a)) (s (p a)) l more):=by
 have ha:∀ z,z=a ∨ z=n a ∨ z=p a → CPs n p (a :: M) z:=fun z hz=>⟨a,.head _,hz⟩
 have hnew:∀ z,(z=s (n a) ∨ z=s (p a) ∨ z ∈ ((a :: l) :: more).flatten) → CPs n p (a :: M) (s z):=by
  rintro z (rfl | rfl | hz)
  · rw [hn]; exact ha _ (.inr (.inl rfl))
  · rw [hp]; exact ha _ (.inr (.inr rfl))
  exact (h.k1 z hz).mono
 -- what is in the new loops
 have hin:∀ z ∈ (movL k i (s (n a)) (s (p a)) l more).flatten,z=s (n a) ∨ z=s (p a) ∨ z ∈ ((a :: l) :: more).flatten:=by
  intro z hz
  simp only [List.flatten_cons,List.mem_append,List.mem_cons]
  unfold movL at hz
  split at hz
  · exact .inr (.inr (.inr hz))
  split at hz
  · simp only [List.flatten_cons,List.mem_append,List.mem_cons] at hz
    rcases hz with (rfl | hz) | hz
    · exact .inl rfl
    · exact .inr (.inr (.inl (.inr (List.mem_of_mem_take hz))))
    exact .inr (.inr (.inr hz))
  split at hz
  · simp only [List.flatten_cons,List.mem_append,List.mem_cons] at hz
    rcases hz with (rfl | hz) | hz
    · exact .inr (.inl rfl)
    · exact .inr (.inr (.inl (.inr (List.mem_of_mem_drop hz))))
    exact .inr (.inr (.inr hz))
  split at hz
  · simp only [List.flatten_cons,List.mem_append,List.mem_cons] at hz
    rcases hz with (rfl | hz) | (rfl | hz) | hz
    · exact .inr (.inl rfl)
    · exact .inr (.inr (.inl (.inr (List.mem_of_mem_drop hz))))
    · exact .inl rfl
    · exact .inr (.inr (.inl (.inr (List.mem_of_mem_take hz))))
    exact .inr (.inr (.inr hz))
  simp only [List.flatten_cons,List.mem_append,List.mem_cons] at hz
  rcases hz with (rfl | rfl | hz) | hz
  · exact .inr (.inl rfl)
  · exact .inl rfl
  · exact .inr (.inr (.inl (.inr hz)))
  exact .inr (.inr (.inr hz))
 -- what was in the loops is there still, or is of the triangle
 have hout:∀ z ∈ ((a :: l) :: more).flatten,CPs n p (a :: M) z ∨ z ∈ (movL k i (s (n a)) (s (p a)) l more).flatten:=by
  intro z hz
  simp only [List.flatten_cons,List.mem_append,List.mem_cons] at hz
  rcases hz with (rfl | hz) | hz
  · exact .inl (ha _ (.inl rfl))
  · unfold movL
    split
    · rename_i e
      rw [hE e] at hz
      rcases List.mem_cons.1 hz with rfl | hz
      · exact .inl (ha _ (.inr (.inl rfl)))
      rw [List.mem_singleton.1 hz]
      exact .inl (ha _ (.inr (.inr rfl)))
    split
    · rename_i e
      obtain ⟨A,hA⟩:=hL e
      rw [hA] at hz ⊢
      rcases List.mem_append.1 hz with hz | hz
      · right
        simp [hz]
      rw [List.mem_singleton.1 hz]
      exact .inl (ha _ (.inr (.inr rfl)))
    split
    · rename_i e
      obtain ⟨B,hB⟩:=hR e
      rw [hB] at hz ⊢
      rcases List.mem_cons.1 hz with rfl | hz
      · exact .inl (ha _ (.inr (.inl rfl)))
      right
      simp [hz]
    split
    · right
      simp only [List.flatten_cons,List.mem_append,List.mem_cons]
      rw [← List.take_append_drop (i - 1) l] at hz
      rcases List.mem_append.1 hz with hz | hz
      · exact .inr (.inl (.inr hz))
      exact .inl (.inr hz)
    right
    simp only [List.flatten_cons,List.mem_append,List.mem_cons]
    exact .inl (.inr (.inr hz))
  right
  unfold movL
  split
  · exact hz
  split
  · simp only [List.flatten_cons,List.mem_append]; exact .inr hz
  split
  · simp only [List.flatten_cons,List.mem_append]; exact .inr hz
  split
  · simp only [List.flatten_cons,List.mem_append]; exact .inr (.inr hz)
  simp only [List.flatten_cons,List.mem_append]; exact .inr hz
 have h0:a ∈ ((a :: l) :: more).flatten:=List.mem_flatten.2 ⟨_,.head _,.head _⟩
 refine ⟨fun z hz=>hnew z (hin z hz),fun z hz=>?_⟩
 obtain ⟨b,hb,hz⟩:=hz
 rcases List.mem_cons.1 hb with rfl | hb
 · -- the new triangle
   rcases hz with rfl | rfl | rfl
   · exact .inl (hnew _ (.inr (.inr h0)))
   · by_cases e1:k=69
     · refine .inl (hnew _ (.inr (.inr ?_)))
       rw [hE e1]; simp
     by_cases e3:k=82
     · obtain ⟨B,hB⟩:=hR e3
       refine .inl (hnew _ (.inr (.inr ?_)))
       rw [hB]; simp
     right
     unfold movL
     rw [if_neg e1,if_neg e3]
     split
     · simp
     split <;> simp
   by_cases e1:k=69
   · refine .inl (hnew _ (.inr (.inr ?_)))
     rw [hE e1]; simp
   by_cases e2:k=76
   · obtain ⟨A,hA⟩:=hL e2
     refine .inl (hnew _ (.inr (.inr ?_)))
     rw [hA]; simp
   right
   unfold movL
   rw [if_neg e1,if_neg e2]
   split
   · simp
   split <;> simp
 rcases h.k2 z ⟨b,hb,hz⟩ with g | g
 · exact .inl g.mono
 exact hout _ g
end
section
variable {α:Type} [DecidableEq α] {F:Nat} {σ:Nat → Nat} {u:Nat → α} {V:List α} {vis:List Nat}
theorem stepX_mov (σ:Nat → Nat) (u:Nat → α) (seen:List α) (x0:Nat) (l:List Nat) (more:List (List Nat)) :
  (stepX σ u seen x0 l more).2.2=movL (stepX σ u seen x0 l more).1 (idxX u x0 l) (σ (nxc x0)) (σ (pvc x0)) l more:=by
 unfold stepX movL
 split
 · split
   · rfl
   split
   · rfl
   split <;> rfl
 rfl
theorem step_tells (hS:Sph F σ u V) {seen:List α} {x0:Nat} {l:List Nat} {more:List (List Nat)} (hI:WInv F σ u vis ((x0 :: l) :: more)) (hs:∀ v,v ∈ seen ↔ ComeV F u vis v) :
  ((stepX σ u seen x0 l more).1=69 → l=[nxc x0,pvc x0]) ∧ ((stepX σ u seen x0 l more).1=76 → ∃ A,l=A ++ [pvc x0]) ∧ ((stepX σ u seen x0 l more).1=82 → ∃ B,l=nxc x0 :: B):=by
 unfold stepX
 by_cases hv:u x0 ∈ seen
 · rw [if_pos hv]
   obtain ⟨A,x,y,B,hC⟩:=winv_cut hS hI ((hs _).1 hv)
   have hi:=hC.idx hI
   have hl:l.length=A.length + 2 + B.length:=by rw [hC.eq]; simp; omega
   have hxx:A=[] → x=nxc x0:=fun e=>hC.ax.1 (hC.a0.1 e)
   have hyy:B=[] → y=pvc x0:=fun e=>hC.by_.1 (hC.b0.1 e)
   by_cases c1:l.length=2
   · rw [if_pos c1]
     have hA:A=[]:=List.length_eq_zero_iff.1 (by omega)
     have hB:B=[]:=List.length_eq_zero_iff.1 (by omega)
     refine ⟨fun _=>?_,fun e=>by simp at e,fun e=>by simp at e⟩
     rw [hC.eq,hxx hA,hyy hB,hA,hB]
     rfl
   rw [if_neg c1]
   by_cases c2:idxX u x0 l=l.length
   · rw [if_pos c2]
     have hB:B=[]:=List.length_eq_zero_iff.1 (by omega)
     refine ⟨fun e=>by simp at e,fun _=>⟨A ++ [x],?_⟩,fun e=>by simp at e⟩
     rw [hC.eq,hyy hB,hB]
     simp
   rw [if_neg c2]
   by_cases c3:idxX u x0 l=2
   · rw [if_pos c3]
     have hA:A=[]:=List.length_eq_zero_iff.1 (by omega)
     refine ⟨fun e=>by simp at e,fun e=>by simp at e,fun _=>⟨y :: B,?_⟩⟩
     rw [hC.eq,hxx hA,hA]
     rfl
   rw [if_neg c3]
   exact ⟨fun e=>by simp at e,fun e=>by simp at e,fun e=>by simp at e⟩
 rw [if_neg hv]
 exact ⟨fun e=>by simp at e,fun e=>by simp at e,fun e=>by simp at e⟩
def s2 (σ:Nat → Nat) (z:Nat × Nat):Nat × Nat:=(σ z.1,σ z.2)
theorem zip_of:∀ {l:List (Nat × Nat)} {A B:List Nat},l.map Prod.fst=A → l.map Prod.snd=B → l=A.zip B
 | [],_,_,h1,h2=>by rw [← h1,← h2]; rfl
 | a :: t,_,_,h1,h2=>by
  rw [← h1,← h2]
  show a :: t=(a.1,a.2) :: (t.map Prod.fst).zip (t.map Prod.snd)
  rw [← zip_of (l:=t) rfl rfl]
theorem map_snoc2 {l:List (Nat × Nat)} {A A':List Nat} {x x':Nat} (h1:l.map Prod.fst=A ++ [x]) (h2:l.map Prod.snd=A' ++ [x']):∃ C,l=C ++ [(x,x')]:=by
 have hne:l ≠ []:=fun e=>by rw [e] at h1; simp at h1
 refine ⟨l.dropLast,?_⟩
 have e:=List.dropLast_concat_getLast hne
 have g1:(l.getLast hne).1=x:=by
  have:=congrArg List.getLast? h1
  rw [List.getLast?_map,List.getLast?_eq_getLast hne] at this
  simpa using this
 have g2:(l.getLast hne).2=x':=by
  have:=congrArg List.getLast? h2
  rw [List.getLast?_map,List.getLast?_eq_getLast hne] at this
  simpa using this
 rw [← g1,← g2]
 exact e.symm
theorem pairs_run (hS:Sph F σ u V):∀ (n:Nat) {vis vis':List Nat} {seen seen':List α} {PL:List (List (Nat × Nat))} {M:List (Nat × Nat)},F ≤ vis.length + n → F ≤ vis'.length + n → vis ≠ [] → vis' ≠ [] →
  WInv F σ u vis (PL.map (List.map Prod.fst)) → WInv F σ u vis' (PL.map (List.map Prod.snd)) →
  (∀ v,v ∈ seen ↔ ComeV F u vis v) → (∀ v,v ∈ seen' ↔ ComeV F u vis' v) →
  (runX σ u n seen (PL.map (List.map Prod.fst))).1.map Prod.fst=(runX σ u n seen' (PL.map (List.map Prod.snd))).1.map Prod.fst →
  PInv (s2 σ) (s2 nxc) (s2 pvc) M PL → M.map (fun a=>a.1 / 3)=vis → M.map (fun a=>a.2 / 3)=vis' → (∀ a ∈ M,a.1 < 3 * F ∧ a.2 < 3 * F) →
  ∃ M',(∀ a ∈ M,a ∈ M') ∧ (∀ a ∈ M',a.1 < 3 * F ∧ a.2 < 3 * F) ∧ (M'.map (fun a=>a.1 / 3)).Nodup ∧ (M'.map (fun a=>a.2 / 3)).Nodup ∧ (∀ x,x < F → x ∈ M'.map (fun a=>a.1 / 3)) ∧ (∀ z,CPs (s2 nxc) (s2 pvc) M' z → CPs (s2 nxc) (s2 pvc) M' (s2 σ z)):=by
 intro n
 induction n with
 | zero =>
  intro vis vis' seen seen' PL M hn hn' hne hne' hI hI' hs hs' he hP hM hM' hlt
  have hend:=run_end hS 0 hn hne hI hs
  have e0:PL.map (List.map Prod.fst)=[]:=hend
  have e1:PL=[]:=List.map_eq_nil_iff.1 e0
  subst e1
  refine ⟨M,fun _ h=>h,hlt,by rw [hM]; exact hI.vnd,by rw [hM']; exact hI'.vnd,fun x hx=>?_,fun z hz=>?_⟩
  · rw [hM]
    exact winv_end hS hI hne x hx
  rcases hP.k2 z hz with g | g
  · exact g
  cases g
 | succ n ih =>
  intro vis vis' seen seen' PL M hn hn' hne hne' hI hI' hs hs' he hP hM hM' hlt
  match PL,hI,hI',he,hP with
  | [],hI,hI',he,hP =>
   refine ⟨M,fun _ h=>h,hlt,by rw [hM]; exact hI.vnd,by rw [hM']; exact hI'.vnd,fun x hx=>?_,fun z hz=>?_⟩
   · rw [hM]
     exact winv_end hS hI hne x hx
   rcases hP.k2 z hz with g | g
   · exact g
   cases g
  | [] :: _,hI,_,_,_=>exact absurd (hI.len [] (.head _)) (by simp)
  | (a :: l) :: more,hI,hI',he,hP =>
   have hI:WInv F σ u vis ((a.1 :: l.map Prod.fst) :: more.map (List.map Prod.fst)):=hI
   have hI':WInv F σ u vis' ((a.2 :: l.map Prod.snd) :: more.map (List.map Prod.snd)):=hI'
   obtain ⟨g1,g2,g3⟩:=step_x hS hI hs
   obtain ⟨k1,k2,k3⟩:=step_x hS hI' hs'
   have he:(stepX σ u seen a.1 (l.map Prod.fst) (more.map (List.map Prod.fst))).1 :: ((runX σ u n _ _).1.map Prod.fst)=(stepX σ u seen' a.2 (l.map Prod.snd) (more.map (List.map Prod.snd))).1 :: ((runX σ u n _ _).1.map Prod.fst):=he
   injection he with hl hr
   have hlens:=lens_eq hS n n (by rw [List.length_cons]; omega) (by rw [List.length_cons]; omega) (by simp) (by simp) g1 k1 g2 k2 hr
   obtain ⟨t1,t2,t3⟩:=step_tells hS hI hs
   obtain ⟨t1',t2',t3'⟩:=step_tells hS hI' hs'
   have m1:=stepX_mov σ u seen a.1 (l.map Prod.fst) (more.map (List.map Prod.fst))
   have m2:=stepX_mov σ u seen' a.2 (l.map Prod.snd) (more.map (List.map Prod.snd))
   -- the index matters for one letter alone, and is alike there
   obtain ⟨i,hi,hi'⟩:∃ i,(stepX σ u seen a.1 (l.map Prod.fst) (more.map (List.map Prod.fst))).2.2=movL (stepX σ u seen a.1 (l.map Prod.fst) (more.map (List.map Prod.fst))).1 i (σ (nxc a.1)) (σ (pvc a.1)) (l.map Prod.fst) (more.map (List.map Prod.fst)) ∧
     (stepX σ u seen' a.2 (l.map Prod.snd) (more.map (List.map Prod.snd))).2.2=movL (stepX σ u seen a.1 (l.map Prod.fst) (more.map (List.map Prod.fst))).1 i (σ (nxc a.2)) (σ (pvc a.2)) (l.map Prod.snd) (more.map (List.map Prod.snd)):=by
    refine ⟨idxX u a.1 (l.map Prod.fst),m1,?_⟩
    rw [m2,← hl]
    by_cases c:(stepX σ u seen a.1 (l.map Prod.fst) (more.map (List.map Prod.fst))).1=83
    · have hidx:idxX u a.1 (l.map Prod.fst)=idxX u a.2 (l.map Prod.snd):=by
       rcases step_len (σ:=σ) (more:=more.map (List.map Prod.fst)) g3 with ⟨x,y⟩ | ⟨x,_,y⟩ | ⟨x,_,y⟩ | ⟨x,_,y⟩ | ⟨x,xx,xy,y⟩ <;>
       first | (exfalso; rw [c] at x; revert x; decide) | skip
       rcases step_len (σ:=σ) (more:=more.map (List.map Prod.snd)) k3 with ⟨x',y'⟩ | ⟨x',_,y'⟩ | ⟨x',_,y'⟩ | ⟨x',_,y'⟩ | ⟨x',xx',xy',y'⟩ <;>
       first | (exfalso; rw [← hl,c] at x'; revert x'; decide) | skip
       rw [y,y'] at hlens
       injection hlens with _ h2
       injection h2
      rw [hidx]
    · unfold movL
      simp only [if_neg c]
   have hmap1:(stepX σ u seen a.1 (l.map Prod.fst) (more.map (List.map Prod.fst))).2.2=(movL (stepX σ u seen a.1 (l.map Prod.fst) (more.map (List.map Prod.fst))).1 i (s2 σ (s2 nxc a)) (s2 σ (s2 pvc a)) l more).map (List.map Prod.fst):=by
    rw [movL_map,hi]
    rfl
   have hmap2:(stepX σ u seen' a.2 (l.map Prod.snd) (more.map (List.map Prod.snd))).2.2=(movL (stepX σ u seen a.1 (l.map Prod.fst) (more.map (List.map Prod.fst))).1 i (s2 σ (s2 nxc a)) (s2 σ (s2 pvc a)) l more).map (List.map Prod.snd):=by
    rw [movL_map,hi']
    rfl
   obtain ⟨c0,c1,c2,c3⟩:=hI.cur
   obtain ⟨d0,d1,d2,d3⟩:=hI'.cur
   have hA:=hS.C.A
   have hP':=pinv_step (s:=s2 σ) (n:=s2 nxc) (p:=s2 pvc) (stepX σ u seen a.1 (l.map Prod.fst) (more.map (List.map Prod.fst))).1 i hP
    (by show (σ (σ (nxc a.1)),σ (σ (nxc a.2)))=_; rw [hA.back _ (nxc_lt c1),hA.back _ (nxc_lt d1)]; rfl)
    (by show (σ (σ (pvc a.1)),σ (σ (pvc a.2)))=_; rw [hA.back _ (pvc_lt c1),hA.back _ (pvc_lt d1)]; rfl)
    (fun e=>by
     have e1:=t1 e
     have e2:=t1' (hl ▸ e)
     exact zip_of e1 e2)
    (fun e=>by
     obtain ⟨A,e1⟩:=t2 e
     obtain ⟨A',e2⟩:=t2' (hl ▸ e)
     exact map_snoc2 e1 e2)
    (fun e=>by
     obtain ⟨B,e1⟩:=t3 e
     obtain ⟨B',e2⟩:=t3' (hl ▸ e)
     match l,e1,e2 with
     | b :: l,e1,e2 =>
      simp only [List.map_cons] at e1 e2
      injection e1 with x1 x2
      injection e2 with y1 y2
      refine ⟨l,?_⟩
      show b :: l=(nxc a.1,nxc a.2) :: l
      rw [← x1,← y1])
   rw [hmap1] at g1 hr
   rw [hmap2] at k1 hr
   obtain ⟨M',q1,q2⟩:=ih (vis:=a.1 / 3 :: vis) (vis':=a.2 / 3 :: vis') (M:=a :: M) (by rw [List.length_cons]; omega) (by rw [List.length_cons]; omega) (by simp) (by simp) g1 k1 g2 k2 hr hP'
    (by rw [List.map_cons,hM]) (by rw [List.map_cons,hM']) (fun b hb=>by
     rcases List.mem_cons.1 hb with rfl | hb
     · exact ⟨c1,d1⟩
     exact hlt b hb)
   exact ⟨M',fun b hb=>q1 b (.tail _ hb),q2⟩
theorem nodup_key {β:Type} {k:β → Nat}:∀ {M:List β},(M.map k).Nodup → ∀ {a b:β},a ∈ M → b ∈ M → k a=k b → a=b
 | [],_,_,_,ha,_,_=>by cases ha
 | x :: t,h,a,b,ha,hb,e=>by
  obtain ⟨h1,h2⟩:=List.nodup_cons.1 h
  rcases List.mem_cons.1 ha with ra | ha'
  · rcases List.mem_cons.1 hb with rb | hb'
    · rw [ra,rb]
    exact absurd (List.mem_map.2 ⟨b,hb',by rw [← e,ra]⟩) h1
  rcases List.mem_cons.1 hb with rb | hb'
  · exact absurd (List.mem_map.2 ⟨a,ha',by rw [e,rb]⟩) h1
  exact nodup_key h2 ha' hb' e
theorem cps_fun {M:List (Nat × Nat)} (hn:(M.map fun a=>a.1 / 3).Nodup) {z z' z'':Nat} (h:CPs (s2 nxc) (s2 pvc) M (z,z')) (g:CPs (s2 nxc) (s2 pvc) M (z,z'')):z'=z'':=by
 obtain ⟨a,ha,h⟩:=h
 obtain ⟨b,hb,g⟩:=g
 have key:∀ {w:Nat × Nat} {c:Nat × Nat},(w=c ∨ w=s2 nxc c ∨ w=s2 pvc c) → w.1 / 3=c.1 / 3:=fun {w c} h=>by
  rcases h with h | h | h <;> rw [h]
  · exact tnx_div _
  exact tpv_div _
 have hab:a=b:=nodup_key (k:=fun a=>a.1 / 3) hn ha hb ((key (w:=(z,z')) h).symm.trans (key (w:=(z,z'')) g))
 subst hab
 have:=tnx_ne a.1
 rcases h with h | h | h <;> rcases g with g | g | g <;> rw [Prod.ext_iff] at h g <;> simp only [s2] at h g <;>
 first
 | exact h.2.trans g.2.symm
 | (exfalso; have e:=h.1.symm.trans g.1; first | exact this.1 e | exact this.1 e.symm | exact this.2.1 e | exact this.2.1 e.symm | exact this.2.2 e | exact this.2.2 e.symm)
theorem cps_fun2 {M:List (Nat × Nat)} (hn:(M.map fun a=>a.2 / 3).Nodup) {z z' z'':Nat} (h:CPs (s2 nxc) (s2 pvc) M (z',z)) (g:CPs (s2 nxc) (s2 pvc) M (z'',z)):z'=z'':=by
 obtain ⟨a,ha,h⟩:=h
 obtain ⟨b,hb,g⟩:=g
 have key:∀ {w:Nat × Nat} {c:Nat × Nat},(w=c ∨ w=s2 nxc c ∨ w=s2 pvc c) → w.2 / 3=c.2 / 3:=fun {w c} h=>by
  rcases h with h | h | h <;> rw [h]
  · exact tnx_div _
  exact tpv_div _
 have hab:a=b:=nodup_key (k:=fun a=>a.2 / 3) hn ha hb ((key (w:=(z',z)) h).symm.trans (key (w:=(z'',z)) g))
 subst hab
 have:=tnx_ne a.2
 rcases h with h | h | h <;> rcases g with g | g | g <;> rw [Prod.ext_iff] at h g <;> simp only [s2] at h g <;>
 first
 | exact h.1.trans g.1.symm
 | (exfalso; have e:=h.2.symm.trans g.2; first | exact this.1 e | exact this.1 e.symm | exact this.2.1 e | exact this.2.1 e.symm | exact this.2.2 e | exact this.2.2 e.symm)
theorem cps_nx {M:List (Nat × Nat)} {z:Nat × Nat} (h:CPs (s2 nxc) (s2 pvc) M z):CPs (s2 nxc) (s2 pvc) M (s2 nxc z):=by
 obtain ⟨a,ha,h⟩:=h
 rcases h with h | h | h <;> rw [h]
 · exact ⟨a,ha,.inr (.inl rfl)⟩
 · refine ⟨a,ha,.inr (.inr ?_)⟩
   unfold s2
   rw [tnx_nx,tnx_nx]
 refine ⟨a,ha,.inl ?_⟩
 unfold s2
 rw [tnx_pv,tnx_pv]
theorem cps_lt {M:List (Nat × Nat)} (hM:∀ a ∈ M,a.1 < 3 * F ∧ a.2 < 3 * F) {z:Nat × Nat} (h:CPs (s2 nxc) (s2 pvc) M z):z.1 < 3 * F ∧ z.2 < 3 * F:=by
 obtain ⟨a,ha,h⟩:=h
 rcases h with h | h | h <;> rw [h]
 · exact hM a ha
 · exact ⟨nxc_lt (hM a ha).1,nxc_lt (hM a ha).2⟩
 exact ⟨pvc_lt (hM a ha).1,pvc_lt (hM a ha).2⟩
structure CMap (F:Nat) (σ:Nat → Nat) (f:Nat → Nat):Prop where
 lt:∀ z,z < 3 * F → f z < 3 * F
 nx:∀ z,z < 3 * F → f (nxc z)=nxc (f z)
 op:∀ z,z < 3 * F → f (σ z)=σ (f z)
 inj:∀ z w,z < 3 * F → w < 3 * F → f z=f w → z=w
theorem pairs_map (hA:Across F σ u) {M:List (Nat × Nat)} (hM:∀ a ∈ M,a.1 < 3 * F ∧ a.2 < 3 * F) (h1:(M.map fun a=>a.1 / 3).Nodup) (h2:(M.map fun a=>a.2 / 3).Nodup) (h3:∀ x,x < F → x ∈ M.map fun a=>a.1 / 3)
  (h4:∀ z,CPs (s2 nxc) (s2 pvc) M z → CPs (s2 nxc) (s2 pvc) M (s2 σ z)):∃ f,CMap F σ f ∧ ∀ a ∈ M,f a.1=a.2:=by
 have hex:∀ z,z < 3 * F → ∃ z',CPs (s2 nxc) (s2 pvc) M (z,z'):=fun z hz=>by
  obtain ⟨a,ha,e⟩:=List.mem_map.1 (h3 (z / 3) (by omega))
  rcases of_tri (c:=a.1) (d:=z) e with r | r | r
  · exact ⟨a.2,a,ha,.inl (by rw [r])⟩
  · exact ⟨nxc a.2,a,ha,.inr (.inl (by rw [r]; rfl))⟩
  exact ⟨pvc a.2,a,ha,.inr (.inr (by rw [r]; rfl))⟩
 obtain ⟨f,hf⟩:∃ f:Nat → Nat,∀ z,z < 3 * F → CPs (s2 nxc) (s2 pvc) M (z,f z):=by
  refine ⟨fun z=>if hz:z < 3 * F then Classical.choose (hex z hz) else 0,fun z hz=>?_⟩
  dsimp only
  rw [dif_pos hz]
  exact Classical.choose_spec (hex z hz)
 refine ⟨f,⟨fun z hz=>(cps_lt hM (hf z hz)).2,fun z hz=>cps_fun h1 (hf _ (nxc_lt hz)) (cps_nx (hf z hz)),fun z hz=>cps_fun h1 (hf _ (hA.lt z hz)) (h4 _ (hf z hz)),fun z w hz hw e=>?_⟩,fun a ha=>cps_fun h1 (hf a.1 (hM a ha).1) ⟨a,ha,.inl rfl⟩⟩
 have g:=hf w hw
 rw [← e] at g
 exact cps_fun2 h2 (hf z hz) g
def wordX (F:Nat) (σ:Nat → Nat) (u:Nat → α) (c:Nat):List Nat:=(runX σ u F (seen0 u c) [startX σ c]).1.map Prod.fst
theorem words_map (hS:Sph F σ u V) {c d:Nat} (hc:c < 3 * F) (hd:d < 3 * F) (e:wordX F σ u c=wordX F σ u d):∃ f,CMap F σ f ∧ f c=d:=by
 have hA:=hS.C.A
 obtain ⟨a1,a2⟩:=winv_start hS.C hc
 obtain ⟨b1,b2⟩:=winv_start hS.C hd
 have hP:PInv (s2 σ) (s2 nxc) (s2 pvc) [(c,d)] [[s2 σ (s2 pvc (c,d)),s2 σ (s2 nxc (c,d)),s2 σ (c,d)]]:=by
  have hb:∀ z:Nat × Nat,z.1 < 3 * F → z.2 < 3 * F → s2 σ (s2 σ z)=z:=fun z h1 h2=>by
   unfold s2
   rw [hA.back _ h1,hA.back _ h2]
  constructor
  · intro z hz
    simp only [List.flatten_cons,List.flatten_nil,List.append_nil,List.mem_cons,List.not_mem_nil,or_false] at hz
    rcases hz with rfl | rfl | rfl
    · rw [hb _ (pvc_lt hc) (pvc_lt hd)]
      exact ⟨_,.head _,.inr (.inr rfl)⟩
    · rw [hb _ (nxc_lt hc) (nxc_lt hd)]
      exact ⟨_,.head _,.inr (.inl rfl)⟩
    rw [hb _ hc hd]
    exact ⟨_,.head _,.inl rfl⟩
  rintro z ⟨a,ha,hz⟩
  rw [List.mem_singleton.1 ha] at hz
  right
  simp only [List.flatten_cons,List.flatten_nil,List.append_nil,List.mem_cons,List.not_mem_nil,or_false]
  rcases hz with rfl | rfl | rfl
  · exact .inr (.inr rfl)
  · exact .inr (.inl rfl)
  exact .inl rfl
 obtain ⟨M',q1,q2,q3,q4,q5,q6⟩:=pairs_run hS F (vis:=[c / 3]) (vis':=[d / 3]) (PL:=[[s2 σ (s2 pvc (c,d)),s2 σ (s2 nxc (c,d)),s2 σ (c,d)]]) (M:=[(c,d)]) (by simp) (by simp) (by simp) (by simp) a1 b1 a2 b2 e hP rfl rfl (fun a ha=>by rw [List.mem_singleton.1 ha]; exact ⟨hc,hd⟩)
 obtain ⟨f,hf,hg⟩:=pairs_map hA q2 q3 q4 q5 q6
 exact ⟨f,hf,hg _ (q1 _ (.head _))⟩
section
variable {f:Nat → Nat}
theorem CMap.pv (hf:CMap F σ f) {z:Nat} (hz:z < 3 * F):f (pvc z)=pvc (f z):=by
 rw [← tnx_nx,hf.nx _ (nxc_lt hz),hf.nx _ hz,tnx_nx]
theorem CMap.rot (hf:CMap F σ f) (h:Closed3 F σ u) {r s:Nat} (hr:r < 3 * F) (g:Rot σ r s):Rot σ (f r) (f s):=by
 induction g with
 | refl=>exact .refl _
 | more _ ih =>
  have:=ih (tau_lt h hr)
  rw [hf.op _ (nxc_lt hr),hf.nx _ hr] at this
  exact .more this
theorem CMap.rot_back (hf:CMap F σ f) (h:Closed3 F σ u) {a t:Nat} (g:Rot σ a t):∀ {r:Nat},r < 3 * F → a=f r → ∃ s,s < 3 * F ∧ t=f s ∧ Rot σ r s:=by
 induction g with
 | refl=>exact fun {r} hr e=>⟨r,hr,e,.refl _⟩
 | more _ ih =>
  intro r hr e
  obtain ⟨s,h1,h2,h3⟩:=ih (tau_lt h hr) (by rw [e,hf.op _ (nxc_lt hr),hf.nx _ hr])
  exact ⟨s,h1,h2,.more h3⟩
theorem CMap.vx (hf:CMap F σ f) (h:Closed3 F σ u) {x y:Nat} (hx:x < 3 * F) (hy:y < 3 * F):u (f x)=u (f y) ↔ u x=u y:=by
 have e:∀ z,z < 3 * F → u (f z)=u (pvc (f (nxc z))):=fun z hz=>by rw [hf.nx z hz,tpv_nx]
 have e':∀ z,u z=u (pvc (nxc z)):=fun z=>by rw [tpv_nx]
 constructor
 · intro g
   rw [e x hx,e y hy] at g
   have hr:=h.star _ _ (hf.lt _ (nxc_lt hx)) (hf.lt _ (nxc_lt hy)) g
   obtain ⟨s,h1,h2,h3⟩:=hf.rot_back h hr (nxc_lt hx) rfl
   have:=hf.inj _ _ (nxc_lt hy) h1 h2
   rw [← this] at h3
   have:=(h3.lt h (nxc_lt hx)).2
   rw [tpv_nx,tpv_nx] at this
   exact this.symm
 intro g
 rw [e' x,e' y] at g
 have hr:=hf.rot h (nxc_lt hx) (h.star _ _ (nxc_lt hx) (nxc_lt hy) g)
 have:=(hr.lt h (hf.lt _ (nxc_lt hx))).2
 rw [← e x hx,← e y hy] at this
 exact this.symm
end
end
end
section
section
variable {α:Type} [DecidableEq α] {F:Nat} {σ:Nat → Nat} {u:Nat → α} {f:Nat → Nat} {g:α → α}
structure Carry (F:Nat) (σ:Nat → Nat) (u:Nat → α) (f:Nat → Nat) (g:α → α):Prop where
 nx:∀ d,d < 3 * F → f (nxc d)=nxc (f d)
 op:∀ d,d < 3 * F → f (σ d)=σ (f d)
 vx:∀ d,d < 3 * F → u (f d)=g (u d)
 inj:∀ a b,(∃ d,d < 3 * F ∧ u d=a) → (∃ d,d < 3 * F ∧ u d=b) → g a=g b → a=b
theorem Carry.pv (h:Carry F σ u f g) {d:Nat} (hd:d < 3 * F):f (pvc d)=pvc (f d):=by
 rw [← tnx_nx,h.nx _ (nxc_lt hd),h.nx _ hd,tnx_nx]
theorem idx_map {P:α → Prop} {g:α → α} (hg:∀ a b,P a → P b → g a=g b → a=b) {v:α} (hv:P v):∀ {L:List α},(∀ a ∈ L,P a) → (L.map g).idxOf (g v)=L.idxOf v
 | [],_=>rfl
 | a :: t,h=>by
  by_cases e:a=v
  · subst e
    rw [List.map_cons,List.idxOf_cons_self,List.idxOf_cons_self]
  have:g a ≠ g v:=fun e'=>e (hg a v (h a (.head _)) hv e')
  have ih:=idx_map hg hv (L:=t) fun b hb=>h b (.tail _ hb)
  simp only [List.map_cons,List.idxOf_cons,beq_eq_false_iff_ne.2 this,beq_eq_false_iff_ne.2 e,cond_false,ih]
theorem mem_mapg {P:α → Prop} {g:α → α} (hg:∀ a b,P a → P b → g a=g b → a=b) {v:α} (hv:P v) {L:List α} (hL:∀ a ∈ L,P a):g v ∈ L.map g ↔ v ∈ L:=by
 constructor
 · intro hm
   obtain ⟨a,ha,e⟩:=List.mem_map.1 hm
   rw [← hg a v (hL a ha) hv e]
   exact ha
 exact List.mem_map_of_mem
theorem step_carry (h:Carry F σ u f g) {seen:List α} {x0:Nat} {l:List Nat} {more:List (List Nat)} (hx:x0 < 3 * F) (hl:∀ e ∈ l,e < 3 * F) (hs:∀ v ∈ seen,∃ d,d < 3 * F ∧ u d=v) :
  stepX σ u (seen.map g) (f x0) (l.map f) (more.map (List.map f))=((stepX σ u seen x0 l more).1,(stepX σ u seen x0 l more).2.1.map g,(stepX σ u seen x0 l more).2.2.map (List.map f)):=by
 have hi:idxX u (f x0) (l.map f)=idxX u x0 l:=by
  unfold idxX
  rw [h.vx x0 hx,← idx_map (P:=fun v=>∃ d,d < 3 * F ∧ u d=v) h.inj ⟨x0,hx,rfl⟩ (L:=(x0 :: l).map fun x=>u (nxc x)) fun a ha=>by
   obtain ⟨e,he,rfl⟩:=List.mem_map.1 ha
   rcases List.mem_cons.1 he with rfl | he
   · exact ⟨_,nxc_lt hx,rfl⟩
   exact ⟨_,nxc_lt (hl e he),rfl⟩]
  congr 1
  rw [List.map_map,← List.map_cons,List.map_map]
  refine List.map_congr_left fun e he=>?_
  have he3:e < 3 * F:=by
   rcases List.mem_cons.1 he with rfl | he
   · exact hx
   exact hl e he
  show u (nxc (f e))=g (u (nxc e))
  rw [← h.nx e he3,h.vx _ (nxc_lt he3)]
 have hm:=mem_mapg (P:=fun v=>∃ d,d < 3 * F ∧ u d=v) h.inj ⟨x0,hx,rfl⟩ hs
 unfold stepX
 rw [h.vx x0 hx,hi,List.length_map,← h.nx x0 hx,← h.pv hx,← h.op _ (nxc_lt hx),← h.op _ (pvc_lt hx)]
 by_cases c0:u x0 ∈ seen
 · rw [if_pos (hm.2 c0),if_pos c0]
   by_cases c1:l.length=2
   · rw [if_pos c1,if_pos c1]
   rw [if_neg c1,if_neg c1]
   by_cases c2:idxX u x0 l=l.length
   · rw [if_pos c2,if_pos c2]
     simp [List.map_take]
   rw [if_neg c2,if_neg c2]
   by_cases c3:idxX u x0 l=2
   · rw [if_pos c3,if_pos c3]
     simp [List.map_drop]
   rw [if_neg c3,if_neg c3]
   simp [List.map_take,List.map_drop]
 rw [if_neg (fun e=>c0 (hm.1 e)),if_neg c0]
 simp
theorem step_in (hA:Across F σ u) {seen:List α} {x0:Nat} {l:List Nat} {more:List (List Nat)} (hx:x0 < 3 * F) (hl:∀ e ∈ l,e < 3 * F) (hm:∀ L ∈ more,∀ e ∈ L,e < 3 * F) (hs:∀ v ∈ seen,∃ d,d < 3 * F ∧ u d=v) :
  (∀ L ∈ (stepX σ u seen x0 l more).2.2,∀ e ∈ L,e < 3 * F) ∧ ∀ v ∈ (stepX σ u seen x0 l more).2.1,∃ d,d < 3 * F ∧ u d=v:=by
 have hp:=hA.lt _ (nxc_lt hx)
 have hq:=hA.lt _ (pvc_lt hx)
 have ht:∀ k,∀ e ∈ l.take k,e < 3 * F:=fun k e he=>hl e (List.mem_of_mem_take he)
 have hd:∀ k,∀ e ∈ l.drop k,e < 3 * F:=fun k e he=>hl e (List.mem_of_mem_drop he)
 have hc:∀ {a:Nat} {k:List Nat},a < 3 * F → (∀ e ∈ k,e < 3 * F) → ∀ e ∈ a :: k,e < 3 * F:=fun {a k} ha hk e he=>by
  rcases List.mem_cons.1 he with rfl | he
  · exact ha
  exact hk e he
 have hcc:∀ {a:List Nat} {M:List (List Nat)},(∀ e ∈ a,e < 3 * F) → (∀ L ∈ M,∀ e ∈ L,e < 3 * F) → ∀ L ∈ a :: M,∀ e ∈ L,e < 3 * F:=fun {a M} ha hM L hL=>by
  rcases List.mem_cons.1 hL with rfl | hL
  · exact ha
  exact hM L hL
 unfold stepX
 split
 · split
   · exact ⟨hm,hs⟩
   split
   · exact ⟨hcc (hc hp (ht _)) hm,hs⟩
   split
   · exact ⟨hcc (hc hq (hd _)) hm,hs⟩
   exact ⟨hcc (hc hq (hd _)) (hcc (hc hp (ht _)) hm),hs⟩
 refine ⟨hcc (hc hq (hc hp hl)) hm,fun v hv=>?_⟩
 rcases List.mem_append.1 hv with g | g
 · exact hs v g
 exact ⟨x0,hx,(List.mem_singleton.1 g).symm⟩
theorem run_carry (hA:Across F σ u) (h:Carry F σ u f g):∀ (n:Nat) {seen:List α} {Ls:List (List Nat)},(∀ L ∈ Ls,∀ e ∈ L,e < 3 * F) → (∀ v ∈ seen,∃ d,d < 3 * F ∧ u d=v) →
  (runX σ u n (seen.map g) (Ls.map (List.map f))).1.map Prod.fst=(runX σ u n seen Ls).1.map Prod.fst
 | 0,_,_,_,_=>rfl
 | n + 1,_,[],_,_=>rfl
 | n + 1,_,[] :: _,_,_=>rfl
 | n + 1,seen,(x0 :: l) :: more,hL,hs=>by
  have hx:=hL _ (.head _) x0 (.head _)
  have hl:∀ e ∈ l,e < 3 * F:=fun e he=>hL _ (.head _) e (.tail _ he)
  have hm:∀ L ∈ more,∀ e ∈ L,e < 3 * F:=fun L hM=>hL L (.tail _ hM)
  have e:=step_carry h (more:=more) hx hl hs
  obtain ⟨g1,g2⟩:=step_in (seen:=seen) hA hx hl hm hs
  have ih:=run_carry hA h n g1 g2
  show (stepX σ u (seen.map g) (f x0) (l.map f) (more.map (List.map f))).1 :: (runX σ u n _ _).1.map Prod.fst=(stepX σ u seen x0 l more).1 :: (runX σ u n _ _).1.map Prod.fst
  rw [e,ih]
end
end
end Go.Proofs.YtffmfhkiienmaaaGreat
