/- Of a sphere the walks from two corners have the same word just if the surface has the same form from both: plain. No condition. -/
import Derived.Test.YtffmfhkiienmaaaGreatTq47
import Derived.Test.YtffmfhkiienmaaaGreatWz47
set_option maxRecDepth 100000
set_option maxHeartbeats 16000000
set_option linter.all false
namespace Go.Proofs.YtffmfhkiienmaaaGreat
open Go.RowKit
def oppC (T:List Tri) (c:Nat):Nat:=(oppF T c).getD 0
def ClosedC (T:List Tri):Prop:=∀ c,c < 3 * T.length → (oppF T c).isSome=true
section
variable {m:Nat} {T:List Tri}
theorem opp_clo (hcl:ClosedC T) {c:Nat} (hc:c < 3 * T.length):oppF T c=some (oppC T c):=by
 have:=hcl c hc
 unfold oppC
 cases ho:oppF T c with
 | none=>rw [ho] at this; cases this
 | some o=>rfl
theorem across_clo (hs:SurfE m T) (hcl:ClosedC T):Across T.length (oppC T) (cv T):=by
 have hb:∀ d,d < 3 * T.length → oppC T d < 3 * T.length ∧ ce T (oppC T d)=((ce T d).2,(ce T d).1) ∧ oppF T (oppC T d)=some d ∧ oppC T d / 3 ≠ d / 3 ∧ cv T (oppC T d) ≠ cv T d:=fun d hd=>opp_back hs hd (opp_clo hcl hd)
 refine ⟨fun d hd=>(hb d hd).1,fun d hd=>?_,fun d hd=>(hb d hd).2.2.2.1,fun d hd=>?_,fun d hd=>?_⟩
 · have:=(hb d hd).2.2.1
   show (oppF T (oppC T d)).getD 0=d
   rw [this]
   rfl
 · have:=(hb d hd).2.1
   injection this with h1 h2
 have:=(hb d hd).2.1
 injection this with h1 h2
theorem closed_clo (hs:SurfE m T) (hcl:ClosedC T):Closed3 T.length (oppC T) (cv T):=by
 have hA:=across_clo hs hcl
 refine ⟨hA,fun d e hd he h1 h2=>ce_inj hs hd he (Prod.ext h1 h2),fun d hd=>?_,fun r s hr hs' e=>?_⟩
 · obtain ⟨_,_,_,_,_,_,ab,bc,ca⟩:=tri_ok hs (i:=d / 3) (by omega)
   rw [cv_ct,cv_ct,cv_ct,nxc_div,pvc_div,nxc_mod,pvc_mod]
   have:=Nat.mod_lt d (by omega:0 < 3)
   rcases (by omega:d % 3=0 ∨ d % 3=1 ∨ d % 3=2) with h | h | h
   · rw [h,show (d + 1) % 3=1 by omega,show (d + 2) % 3=2 by omega]
     simp only [cornerT]
     refine ⟨?_,?_,?_⟩ <;> (intro e; first | exact ab e | exact bc e | exact ca e | exact ab e.symm | exact bc e.symm | exact ca e.symm)
   · rw [h,show (d + 1) % 3=2 by omega,show (d + 2) % 3=0 by omega]
     simp only [cornerT]
     refine ⟨?_,?_,?_⟩ <;> (intro e; first | exact ab e | exact bc e | exact ca e | exact ab e.symm | exact bc e.symm | exact ca e.symm)
   rw [h,show (d + 1) % 3=0 by omega,show (d + 2) % 3=1 by omega]
   simp only [cornerT]
   refine ⟨?_,?_,?_⟩ <;> (intro e; first | exact ab e | exact bc e | exact ca e | exact ab e.symm | exact bc e.symm | exact ca e.symm)
 have hp:=pvc_lt hs'
 obtain ⟨L,hL,_,hlt⟩:=on_of hs hp
 have hf:First T (pvc s) (pvc s) false:=by
  refine ⟨hp,rfl,fun e=>absurd e (by decide),fun _=>⟨rfl,fun M hM=>?_⟩⟩
  rcases hM.last with g | g
  · exfalso
    have hm:=hM.all (P:=fun x=>x < 3 * T.length) (fun a b _ hb=>aft_lt hs a b hb) hp (lastN M (pvc s)) (lastN_mem hM.ne)
    unfold aftF at g
    rw [if_pos hm,opp_clo hcl (nxc_lt hm)] at g
    cases g
  exact g
 have hm:=around_all hs hf hL (pvc r) (pvc_lt hr) e
 have:=hL.all (P:=fun x=>Rot (oppC T) (nxc x) s) (fun a b ha hb=>by
  have hb':=(aft_bef hs).1 hb
  obtain ⟨hb3,o,ho,e'⟩:=bef_some hb'
  refine .more ?_
  rw [nxc_nxc]
  have:oppC T (pvc b)=nxc a:=by
   unfold oppC
   rw [ho,e',nx_pv]
   rfl
  rw [this]
  exact ha) (by rw [nx_pv]; exact .refl _) _ hm
 rw [nx_pv] at this
 exact this
def vertL (m:Nat):List Int:=(List.range m).map fun v:Nat=>(v:Int)
theorem re_b {x y:Nat} (h:Re T x y):ReB T.length (oppC T) (fun _=>False) x y:=by
 induction h with
 | refl=>exact .refl _
 | step _ ha ih =>
  obtain ⟨d,o,hd,rfl,ho,rfl⟩:=ha
  have:oppC T d=o:=by unfold oppC; rw [ho]; rfl
  rw [← this]
  exact ih.step hd id
theorem sph_of (hs:SurfE m T) (hcl:ClosedC T) (h1:kN T=1) (hpos:0 < T.length) (hnum:2 * m=T.length + 4):Sph T.length (oppC T) (cv T) (vertL m) where
 C:=closed_clo hs hcl
 pos:=hpos
 vnd:=by
  unfold vertL List.Nodup
  rw [List.pairwise_map]
  exact List.nodup_range.imp fun h e=>h (by omega)
 cor:=fun v hv=>by
  obtain ⟨k,hk,rfl⟩:=List.mem_map.1 hv
  obtain ⟨s,hs'⟩:=cornerF_used hs (List.mem_range.1 hk)
  exact ⟨s,(cornerF_some hs').1,(cornerF_some hs').2.1⟩
 all:=fun d hd=>by
  obtain ⟨h0,h2⟩:=cv_bd hs hd
  exact List.mem_map.2 ⟨(cv T d).toNat,List.mem_range.2 (by omega),by omega⟩
 num:=by unfold vertL; simp [hnum]
 one:=fun x y hx hy=>re_b (conn_re hs h1 hx hy)
theorem goesL_inj (hs:SurfE m T) (h1:kN T=1) {d a b:Nat} (hd:d < 3 * T.length) (al:a < 3 * T.length) (bl:b < 3 * T.length) (e:goesL T T m d a=goesL T T m d b):a=b:=by
 refine rootO_inj hs al bl ?_
 have hla:=conn_len hs h1 al
 have hlb:=conn_len hs h1 bl
 have hld:=conn_len hs h1 hd
 refine List.ext_getElem (by rw [hla,hlb]) fun i a1 a2=>?_
 have hi:i < (rootO T d).length:=by omega
 have hv:=List.getElem_mem hi
 have hb':=(conn_rootO hs h1 hd _).1 hv
 have g1:=goesL_at (T:=T) (U:=T) (c:=d) (d:=a) (m:=m) hb'
 have g2:=goesL_at (T:=T) (U:=T) (c:=d) (d:=b) (m:=m) hb'
 rw [e,g2] at g1
 unfold goesTo at g1
 have hix:(rootO T d).idxOf (rootO T d)[i]=i:=by
  have hl:=List.idxOf_lt_length_iff.2 hv
  exact nodup_at (oldC_nd _) hl hi (List.getElem_idxOf _)
 rw [hix,List.getD_eq_getElem?_getD,List.getElem?_eq_getElem a2,List.getD_eq_getElem?_getD,List.getElem?_eq_getElem a1] at g1
 exact g1.symm
theorem carry_word (hA:Across T.length (oppC T) (cv T)) {f:Nat → Nat} {g:Int → Int} (h:Carry T.length (oppC T) (cv T) f g) {c:Nat} (hc:c < 3 * T.length):wordX T.length (oppC T) (cv T) (f c)=wordX T.length (oppC T) (cv T) c:=by
 have h1:=nxc_lt hc
 have h2:=pvc_lt hc
 unfold wordX
 have e1:startX (oppC T) (f c)=(startX (oppC T) c).map f:=by
  unfold startX
  simp only [List.map_cons,List.map_nil]
  rw [h.op _ h2,h.op _ h1,h.op _ hc,h.pv hc,h.nx _ hc]
 have e2:seen0 (cv T) (f c)=(seen0 (cv T) c).map g:=by
  unfold seen0
  simp only [List.map_cons,List.map_nil]
  rw [← h.vx _ h2,← h.vx _ h1,← h.vx _ hc,h.pv hc,h.nx _ hc]
 rw [e1,e2]
 refine run_carry hA h T.length (Ls:=[startX (oppC T) c]) (fun L hL e he=>?_) fun v hv=>?_
 · rw [List.mem_singleton.1 hL] at he
   unfold startX at he
   simp only [List.mem_cons,List.not_mem_nil,or_false] at he
   rcases he with rfl | rfl | rfl
   · exact hA.lt _ h2
   · exact hA.lt _ h1
   exact hA.lt _ hc
 unfold seen0 at hv
 simp only [List.mem_cons,List.not_mem_nil,or_false] at hv
 rcases hv with rfl | rfl | rfl
 · exact ⟨c,hc,rfl⟩
 · exact ⟨_,h1,rfl⟩
 exact ⟨_,h2,rfl⟩
theorem word_iff (hs:SurfE m T) (hcl:ClosedC T) (h1:kN T=1) (hpos:0 < T.length) (hnum:2 * m=T.length + 4) {c d:Nat} (hc:c < 3 * T.length) (hd:d < 3 * T.length) :
  wordX T.length (oppC T) (cv T) d=wordX T.length (oppC T) (cv T) c ↔ rowC T d=rowC T c:=by
 have hS:=sph_of hs hcl h1 hpos hnum
 have hA:=across_clo hs hcl
 constructor
 · intro e
   obtain ⟨f,hf,rfl⟩:=words_map hS hc hd e.symm
   have hex:∀ v:Int,∃ w:Int,∀ x,x < 3 * T.length → cv T x=v → cv T (f x)=w:=fun v=>by
    by_cases hv:∃ x,x < 3 * T.length ∧ cv T x=v
    · obtain ⟨x,hx,rfl⟩:=hv
      exact ⟨cv T (f x),fun y hy e=>(hf.vx hS.C hy hx).2 e⟩
    exact ⟨0,fun x hx e=>absurd ⟨x,hx,e⟩ hv⟩
   obtain ⟨g,hg⟩:∃ g:Int → Int,∀ x,x < 3 * T.length → cv T (f x)=g (cv T x):=⟨fun v=>Classical.choose (hex v),fun x hx=>Classical.choose_spec (hex (cv T x)) x hx rfl⟩
   have hE:Emb T T f g:=⟨Nat.le_refl _,hf.lt,hf.nx,fun x hx=>by rw [opp_clo hcl (hf.lt x hx),opp_clo hcl hx,Option.map_some,hf.op x hx],hf.inj,hg,fun x y hx hy e=>(hf.vx hS.C hx hy).1 (by rw [hg x hx,hg y hy,e])⟩
   exact hE.rowC hc
 intro e
 obtain ⟨_,_,hi⟩:=conn_iso hs h1 hs h1 hc hd e.symm
 obtain ⟨f,hE,_,_⟩:=hi.emb hs hs rfl
 have hfc:f c=d:=goesL_inj hs h1 hc (hE.lt c hc) hd (goes_emb hs h1 hi hE hc)
 have hC:Carry T.length (oppC T) (cv T) f (gS (goesL T T m c d)):=by
  refine ⟨hE.nx,fun x hx=>?_,hE.cv,fun a b ⟨x,hx,hxa⟩ ⟨y,hy,hyb⟩ e=>?_⟩
  · have:=hE.op x hx
    unfold oppC
    rw [this,opp_clo hcl hx]
    rfl
  rw [← hxa,← hyb] at e ⊢
  exact hE.gi x y hx hy e
 rw [← hfc]
 exact carry_word hA hC hc
theorem word_count (hs:SurfE m T) (hcl:ClosedC T) (h1:kN T=1) (hpos:0 < T.length) (hnum:2 * m=T.length + 4):((List.range (3 * T.length)).filter fun c=>decide (wordX T.length (oppC T) (cv T) c=wordX T.length (oppC T) (cv T) 0)).length=(allR m T).length:=by
 rw [← class_len hs h1 (d:=0) (by omega)]
 congr 1
 refine List.filter_congr fun c hc=>?_
 have:=word_iff hs hcl h1 hpos hnum (c:=0) (d:=c) (by omega) (List.mem_range.1 hc)
 rw [Bool.eq_iff_iff,decide_eq_true_iff,decide_eq_true_iff]
 exact this
theorem order_conn (hs:SurfE m T) (h1:kN T=1) (hn:T.length ≤ 1000):∃ n,orderN (kindsL T (kN T)) (kN T)=some n ∧ (allR m T).length=n ∧ n ≤ 3000:=by
 have hk:(kindsL T (kN T))[0]?=some (kindV (partOf T 0)):=by
  unfold kindsL
  rw [List.getElem?_map,List.getElem?_range (by omega)]
  rfl
 have h3:=ways_short hs (i:=0) (by omega)
 have hp:=(part_sub hs 0).len
 have hle:(kindV (partOf T 0)).ws.length ≤ 3000:=by omega
 have hl:likeN (kindsL T (kN T)) (kindV (partOf T 0)) 0=1:=by
  have:=likeN_le (kindsL T (kN T)) (kindV (partOf T 0)) 0
  have h2:1 ≤ likeN (kindsL T (kN T)) (kindV (partOf T 0)) 0:=by unfold likeN; omega
  omega
 have ho:orderN (kindsL T (kN T)) 1=some (1 * (kindV (partOf T 0)).ws.length * 1):=by
  rw [orderN_succ (i:=0) (n:=1) rfl hk,timesN_yes (by omega),Option.bind_some,hl,timesN_yes (by omega)]
 refine ⟨1 * (kindV (partOf T 0)).ws.length * 1,by rw [h1]; rw [h1] at ho; exact ho,allR_len hs (by rw [h1]; rw [h1] at ho; exact ho),by omega⟩
end
end Go.Proofs.YtffmfhkiienmaaaGreat
