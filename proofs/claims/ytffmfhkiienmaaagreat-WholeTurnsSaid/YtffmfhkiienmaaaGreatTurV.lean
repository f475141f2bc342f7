/- A walk's step on lists of vertices. Plain. -/
import Derived.Test.YtffmfhkiienmaaaGreatTq47
set_option maxRecDepth 100000
set_option maxHeartbeats 4000000
set_option maxRecDepth 100000
set_option maxHeartbeats 16000000
set_option linter.all false
namespace Go.Proofs.YtffmfhkiienmaaaGreat
section
variable {α:Type} [DecidableEq α] [Inhabited α] {F:Nat} {σ:Nat → Nat} {u:Nat → α}
def stepV (seen:List α) (R:List α) (more:List (List α)) (v:α):Nat × List α × List (List α) :=
 if v ∈ seen then
  if R.length=3 then (69,seen,more)
  else if R.idxOf v=R.length - 1 then (76,seen,(v :: (R.drop 1).take (R.length - 2)) :: more)
  else if R.idxOf v=2 then (82,seen,(R.headD default :: R.drop 2) :: more)
  else (83,seen,(R.headD default :: R.drop (R.idxOf v)) :: (v :: (R.take (R.idxOf v)).drop 1) :: more)
 else (67,seen ++ [v],(R.headD default :: v :: R.drop 1) :: more)
def vtL (u:Nat → α) (L:List Nat):List α:=L.map fun x=>u (nxc x)
theorem stepV_x (hA:Across F σ u) {seen:List α} {x0:Nat} {l:List Nat} {more:List (List Nat)} (hx:x0 < 3 * F) (hi2:u x0 ∈ seen → 2 ≤ idxX u x0 l) :
  stepV seen (vtL u (x0 :: l)) (more.map (vtL u)) (u x0)=((stepX σ u seen x0 l more).1,(stepX σ u seen x0 l more).2.1,(stepX σ u seen x0 l more).2.2.map (vtL u)):=by
 have hq:u (nxc (σ (pvc x0)))=u (nxc x0):=by rw [hA.nx _ (pvc_lt hx),tpv_pv]
 have hp:u (nxc (σ (nxc x0)))=u x0:=by rw [hA.nx _ (nxc_lt hx),tpv_nx]
 have hlen:(vtL u (x0 :: l)).length=l.length + 1:=by unfold vtL; simp
 have hi:(vtL u (x0 :: l)).idxOf (u x0)=idxX u x0 l:=rfl
 have hd:(vtL u (x0 :: l)).headD default=u (nxc x0):=rfl
 have h1:(vtL u (x0 :: l)).drop 1=vtL u l:=rfl
 have hdr:∀ k,1 ≤ k → (vtL u (x0 :: l)).drop k=vtL u (l.drop (k - 1)):=fun k hk=>by
  obtain ⟨j,rfl⟩:∃ j,k=j + 1:=⟨k - 1,by omega⟩
  unfold vtL
  simp
 have htk:∀ k,1 ≤ k → ((vtL u (x0 :: l)).take k).drop 1=vtL u (l.take (k - 1)):=fun k hk=>by
  obtain ⟨j,rfl⟩:∃ j,k=j + 1:=⟨k - 1,by omega⟩
  unfold vtL
  simp
 have ht:∀ k,(vtL u l).take k=vtL u (l.take k):=fun k=>by
  unfold vtL
  simp
 have hc:∀ (x:Nat) (L:List Nat),vtL u (x :: L)=u (nxc x) :: vtL u L:=fun x L=>rfl
 unfold stepV stepX
 rw [hlen,hi,hd,h1]
 by_cases c0:u x0 ∈ seen
 · rw [if_pos c0,if_pos c0]
   by_cases c1:l.length=2
   · rw [if_pos (by omega),if_pos c1]
   rw [if_neg (by omega),if_neg c1]
   by_cases c2:idxX u x0 l=l.length
   · rw [if_pos (by omega),if_pos c2,ht]
     show _=(76,seen,vtL u (_ :: _) :: more.map (vtL u))
     rw [hc,hp,show l.length + 1 - 2=l.length - 1 by omega]
   rw [if_neg (by omega),if_neg c2]
   by_cases c3:idxX u x0 l=2
   · rw [if_pos c3,if_pos c3,hdr 2 (by omega)]
     show _=(82,seen,vtL u (_ :: _) :: more.map (vtL u))
     rw [hc,hq]
   have hpos:1 ≤ idxX u x0 l:=Nat.le_trans (by decide) (hi2 c0)
   rw [if_neg c3,if_neg c3,hdr _ hpos,htk _ hpos]
   show _=(83,seen,vtL u (_ :: _) :: vtL u (_ :: _) :: more.map (vtL u))
   rw [hc,hc,hq,hp]
 rw [if_neg c0,if_neg c0]
 show _=(67,seen ++ [u x0],vtL u (_ :: _ :: _) :: more.map (vtL u))
 rw [hc,hc,hq,hp]
end
end Go.Proofs.YtffmfhkiienmaaaGreat
