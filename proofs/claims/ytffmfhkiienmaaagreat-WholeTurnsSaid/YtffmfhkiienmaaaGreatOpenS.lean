/- A soup that came in, opened. No condition. -/
import Derived.Test.YtffmfhkiienmaaaGreatB1
import Derived.Test.YtffmfhkiienmaaaGreatProg
import Derived.Deep.Slices
import Derived.Laws.IdiomArrays
set_option maxRecDepth 100000
set_option maxHeartbeats 16000000
set_option linter.all false
namespace Go.Proofs.YtffmfhkiienmaaaGreat
open Go.ChangeShapes Go.WideShapes Go.ChangeAt Go.RowKit
def TriWf (t:Tri):Prop:=(Lit.int .i64 t.a).wf=true ∧ (Lit.int .i64 t.b).wf=true ∧ (Lit.int .i64 t.c).wf=true
theorem open_tris {H:Type} {enc:TypeId × Value → H} {w:World} {base:Nat} {spare:Nat → Bool} {held:Bool} {fuel:Nat} {v:Value} {x:DataW H × List MemPlace}
  (h:DataW.trod enc Tryz.prog w base spare held fuel 22 [v]=some x) :
  ∃ (A:Option Addr) (n c:Nat) (T:List Tri),v=.slice A n c ∧ n ≤ c ∧ c ≤ maxLen ∧ TrisAt w w.heap.size A n T ∧ ∀ t ∈ T,TriWf t:=by
 have h3c:Tryz.prog.cellsOf 65 = 3:=by kernel_rfl
 have h1c:Tryz.prog.cellsOf 3 = 1:=by kernel_rfl
 rcases Deep.open_slice Tryz.underlying22 h with ⟨hcs,_⟩ | ⟨a,n,c,m,f,D,Pl,hcs,_,hl,hm,hmm,_,hx⟩
 · simp at hcs
   exact ⟨none,0,0,[],hcs,Nat.le_refl _,Nat.zero_le _,⟨Reads.none_,rfl⟩,fun p hp=>by cases hp⟩
 simp at hcs
 have hnm:n ≤ m:=by rw [hmm]; split <;> omega
 rw [h3c] at hx
 have key:∀ i,i < n → ∃ t:Tri,(∀ j u,t.cells[j]?=some u → w.cell? (a.add (i * 3 + j))=some u) ∧ TriWf t:=by
  intro i hi
  obtain ⟨cs',h1,h2⟩:=hx i (by omega)
  obtain ⟨_,hlen,hc⟩:=World.cells?_some h1
  obtain ⟨u,v,z,rfl⟩:∃ u v z,cs'=[u,v,z]:=by
   match cs',hlen with
   | [u,v,z],_=>exact ⟨u,v,z,rfl⟩
  obtain ⟨y0,y1,y2,fn,_,t0,t1,t2⟩:=trod_array3 Tryz.underlying65 h1c h2
  obtain ⟨z0,e0,_,w0⟩:=DataW.trod_int Tryz.underlying3 t0
  obtain ⟨z1,e1,_,w1⟩:=DataW.trod_int Tryz.underlying3 t1
  obtain ⟨z2,e2,_,w2⟩:=DataW.trod_int Tryz.underlying3 t2
  injection e0 with e0 _
  injection e1 with e1 _
  injection e2 with e2 _
  subst e0 e1 e2
  refine ⟨⟨z0,z1,z2⟩,fun j u hj=>?_,w0,w1,w2⟩
  have hj3:j < 3:=(List.getElem?_eq_some_iff.1 hj).1
  have:=hc j (by simpa using hj3)
  rw [Deep.add_add] at this
  rw [this]
  exact hj
 haveI:Inhabited Tri:=⟨⟨0,0,0⟩⟩
 obtain ⟨F,hF⟩:=Deep.choose_lt key
 refine ⟨some a,n,c,(List.range n).map F,hcs,hl,hm,TrisAt.mk_ ⟨?_,fun hn=>⟨a,rfl,?_,fun j u hj=>?_⟩⟩,fun t ht=>?_⟩
 · rw [flatMap_len 3 _ (fun _=>rfl)]; simp
 · have:=World.block_lt_of_cell? w _ ((hF 0 hn).1 0 _ rfl)
   rwa [block_of_add] at this
 · have hj2:j < n * 3:=by
    have:=(List.getElem?_eq_some_iff.1 hj).1
    rw [flatMap_len 3 _ (fun _=>rfl)] at this
    simpa using this
   have hi:j / 3 < n:=(Nat.div_lt_iff_lt_mul (by omega)).2 hj2
   have h1:=flatMap_at 3 Tri.cells (fun _=>rfl) ((List.range n).map F) (j / 3) (j % 3) (F (j / 3)) (by simp [hi]) (Nat.mod_lt _ (by omega))
   have e:j / 3 * 3 + j % 3=j:=by rw [Nat.mul_comm]; exact Nat.div_add_mod j 3
   rw [e,hj] at h1
   have:=(hF (j / 3) hi).1 (j % 3) u h1.symm
   rwa [e] at this
 · obtain ⟨i,hi,rfl⟩:=List.mem_map.1 ht
   exact (hF i (List.mem_range.1 hi)).2
theorem open_soup {H:Type} {enc:TypeId × Value → H} {w:World} {base:Nat} {spare:Nat → Bool} {held:Bool} {r:Reach} {b0:Nat} {v:Value} {d:DataW H} {p:List MemPlace}
  (hv:Value.okWide Tryz.prog w r b0 24 v) (h:DataW.Trod enc Tryz.prog w base spare held 24 v d p) :
  ∃ (N:Int) (A:Option Addr) (n c:Nat) (T:List Tri),v=.agg #[.int .i64 N,.slice A n c] ∧ (Lit.int .i64 N).wf=true ∧ n ≤ maxLen ∧ c ≤ maxLen ∧ TrisAt w w.heap.size A n T ∧ ∀ t ∈ T,TriWf t:=by
 obtain ⟨v0,v1,y0,y1,f,rfl,_,_,h0,h1⟩:=Joins.open_agg2 Tryz.underlying24 (by kernel_rfl) (by kernel_rfl) hv h
 obtain ⟨x,e0,_,wx⟩:=DataW.trod_int Tryz.underlying3 h0
 obtain ⟨A,n,c,T,rfl,hn,hc,hT,hwf⟩:=open_tris h1
 injection e0 with e0 _
 subst e0
 exact ⟨x,A,n,c,T,rfl,wx,Nat.le_trans hn hc,hc,hT,hwf⟩
end Go.Proofs.YtffmfhkiienmaaaGreat
