/- Lists of numbers as cells. No condition. -/
import Derived.Test.YtffmfhkiienmaaaGreatB2
import Derived.Test.YtffmfhkiienmaaaGreatPlB
import Derived.Test.YtffmfhkiienmaaaGreatCornerB
import Derived.Test.YtffmfhkiienmaaaGreatShelf9
import Derived.Test.YtffmfhkiienmaaaGreatShelf47
import Derived.Test.YtffmfhkiienmaaaGreatIs
set_option maxRecDepth 100000
set_option maxHeartbeats 16000000
set_option linter.all false
namespace Go.Proofs.YtffmfhkiienmaaaGreat
open Go.RowKit
section
def ZL (l:List Int):List Value:=l.map (Value.int .i64)
theorem zl_read {w:World} {B n:Nat} {A:Option Addr} {l:List Int} (h:Reads w B 1 A n (ZL l)) {k:Nat} (hk:k < n):∃ ad x,A=some ad ∧ ad.block < B ∧ l[k]?=some x ∧ w.cell? (ad.add k)=some (.int .i64 x):=by
 obtain ⟨ad,u,e,hb,hu,hc⟩:=h.at_ hk
 unfold ZL at hu
 rw [List.getElem?_map] at hu
 cases hx:l[k]? with
 | none=>rw [hx] at hu; cases hu
 | some x =>
  rw [hx] at hu
  injection hu with hu
  subst hu
  exact ⟨ad,x,e,hb,rfl,hc⟩
end
section
def IR (w:World) (B:Nat) (A:Option Addr) (c:Nat) (L:List Int):Prop:=w.ownsRow B 3 1 (.slice A L.length c) L.length (ZL L)
section
variable {w w':World} {B:Nat} {A:Option Addr} {c:Nat} {L:List Int}
theorem IR.nil (w:World) (B:Nat):IR w B none 0 []:=World.ownsRow_nil _ _ _ _
theorem IR.below (h:IR w B A c L) (hb:Below w.heap.size w w'):IR w' B A c L:=own_same h fun k hk=>hb.block k (h.lt k hk).2
theorem IR.alloc (h:IR w B A c L) (o:Obj):IR (w.alloc o) B A c L:=h.below ((Below.refl _ _).alloc (Nat.le_refl _) _)
theorem IR.drew (h:IR w B A c L):IR w.drew B A c L:=h
theorem IR.reads (h:IR w B A c L):Reads w w.heap.size 1 A L.length (ZL L):=Reads.of_own h
theorem ir_of {n:Nat} {xs:List Value} (h:w.ownsRow B 3 1 (.slice A n c) n xs) (hn:n=L.length) (hx:xs=ZL L):IR w B A c L:=by
 subst hn hx
 exact h
theorem IR.far (h:IR w B A c L) {g i:Nat} {cs:Array Value} {t:TypeId} (hb:Blk w g t cs) (ht:t ≠ 3) (u:Value):IR (w.setCell ⟨g,i,none⟩ u) B A c L:=by
 refine own_same h fun k hk=>?_
 obtain ⟨ds,hd⟩:=own_blk h hk
 exact Below.heap_setCell _ _ _ _ (hd.ne_ hb (Ne.symm ht))
end
structure CellQ (w:World) (p:Addr) (u:Value):Prop where
 c:w.cell? p=some u
 lt:p.block < w.heap.size
structure TriQ (w:World) (q:Addr) (t:Tri):Prop where
 c:Cells3 w q (.int .i64 t.a) (.int .i64 t.b) (.int .i64 t.c)
 lt:q.block < w.heap.size
section
variable {w w':World} {p:Addr} {u:Value} {t:Tri}
theorem CellQ.below (h:CellQ w p u) (hb:Below w.heap.size w w'):CellQ w' p u:=⟨(hb.cell h.lt).trans h.c,Nat.lt_of_lt_of_le h.lt hb.size⟩
theorem CellQ.drew (h:CellQ w p u):CellQ w.drew p u:=⟨h.c,h.lt⟩
theorem TriQ.below (h:TriQ w p t) (hb:Below w.heap.size w w'):TriQ w' p t:=⟨h.c.below hb h.lt,Nat.lt_of_lt_of_le h.lt hb.size⟩
theorem TriQ.drew (h:TriQ w p t):TriQ w.drew p t:=⟨h.c.keep fun _ _=>rfl,h.lt⟩
theorem TrisAt.triQ {B n:Nat} {A:Option Addr} {T:List Tri} (h:TrisAt w B A n T) (hB:B ≤ w.heap.size) {k:Nat} (hk:k < n):∃ ad,A=some ad ∧ TriQ w (ad.add (k * 3)) (tri T k):=by
 obtain ⟨ad,t,e,htt,_,hb,hc⟩:=h.at_ hk
 exact ⟨ad,e,by rw [tri_of htt]; exact hc,by rw [block_of_add]; omega⟩
theorem IR.cellQ {B:Nat} {A:Option Addr} {c:Nat} {L:List Int} (h:IR w B A c L) {k:Nat} {x:Int} (hx:L[k]?=some x):∃ ad,A=some ad ∧ CellQ w (ad.add k) (.int .i64 x):=by
 have hk:k < L.length:=(List.getElem?_eq_some_iff.1 hx).1
 obtain ⟨ad,y,e,hb,hy,hc⟩:=zl_read h.reads hk
 rw [hx] at hy
 injection hy with hy
 subst hy
 exact ⟨ad,e,hc,by rw [block_of_add]; exact hb⟩
end
end
section
theorem tdiv_nat (k n:Nat):Int.tdiv (k:Int) (n:Int)=((k / n:Nat):Int):=rfl
def intsA (O:List Int):Array Value:=(ZL O).toArray
theorem intsA_size (O:List Int):(intsA O).size=O.length:=by simp [intsA,ZL]
theorem intsA_at {O:List Int} {x:Nat} (h:x < O.length):(intsA O)[x]?=some (.int .i64 (O.getD x 0)):=by
 unfold intsA ZL
 rw [List.getElem?_toArray,List.getElem?_map,List.getElem?_eq_getElem h,List.getD_eq_getElem?_getD,List.getElem?_eq_getElem h]
 rfl
theorem intsA_set (O:List Int) (x:Nat) (v:Int):(intsA O).setIfInBounds x (.int .i64 v)=intsA (O.set x v):=by
 apply Array.ext'
 unfold intsA ZL
 rw [Array.toList_setIfInBounds,List.map_set]
theorem madeI1 (n:Nat):madeCells (Value.int .i64 0).cells (n * 1)=intsA (List.replicate n 0):=by
 apply Array.ext'
 refine List.ext_getElem? fun i=>?_
 by_cases hi:i < n
 · simp [madeCells,intsA,ZL,hi,Value.cells,Nat.mod_one]
 simp [madeCells,intsA,ZL,hi,Value.cells]
theorem ints_own {w:World} {g B:Nat} {O:List Int} (h:Blk w g 3 (intsA O)) (hB:B ≤ g) (hl:O.length ≤ maxLen):IR w B (some ⟨g,0,none⟩) O.length O:=by
 refine ⟨by simp [ZL],.inr ⟨g,O.length,intsA O,rfl,hB,h,Nat.le_refl _,hl,by rw [intsA_size,Nat.mul_one],?_⟩⟩
 rw [Nat.mul_one]
 unfold intsA ZL
 rw [List.toList_toArray]
 exact List.take_of_length_le (by rw [List.length_map]; exact Nat.le_refl _)
def natL (L:List Nat):List Int:=List.map (fun x:Nat=>(x:Int)) L
theorem natL_len (L:List Nat):(natL L).length=L.length:=by unfold natL; simp
theorem ir_at {w:World} {B c x:Nat} {A:Option Addr} {L:List Nat} (h:IR w B A c (natL L)) (hx:x < L.length):∃ g,A=some ⟨g,0,none⟩ ∧ w.cell? ⟨g,x,none⟩=some (.int .i64 (L.getD x 0:Nat)):=by
 have hl:=natL_len L
 obtain ⟨g,cap,hv,_,_⟩:=World.ownsRow.form h (show 0 < (natL L).length by omega)
 have hA:A=some ⟨g,0,none⟩:=by injection hv
 subst hA
 refine ⟨g,rfl,?_⟩
 have:=World.ownsRow.cells h (g:=g) rfl x (.int .i64 (L.getD x 0:Nat)) (by
  unfold ZL natL
  rw [List.map_map,List.getElem?_map,List.getElem?_eq_getElem hx,List.getD_eq_getElem?_getD,List.getElem?_eq_getElem hx]; rfl)
 rw [show (⟨g,x,none⟩:Addr)=(⟨g,0,none⟩:Addr).add x by simp [Addr.add]]
 exact this
structure OfAt (w:World) (B go:Nat) (A:Option Addr) (c:Nat) (s:List Int × List Nat) (W:World):Prop where
 o:Blk W go 3 (intsA s.1)
 r:IR W B A c (natL s.2)
 ne:∀ k,(Value.slice A (natL s.2).length c).ownBlock=some k → k ≠ go
 b:Below w.heap.size w W
theorem OfAt.below {w W W':World} {B go c:Nat} {A:Option Addr} {s:List Int × List Nat} (h:OfAt w B go A c s W) (hb:Below W.heap.size W W'):OfAt w B go A c s W' :=
 ⟨h.o.below hb h.o.lt,h.r.below hb,h.ne,bw_call h.b hb⟩
theorem OfAt.set {w W:World} {B go c x:Nat} {A:Option Addr} {s:List Int × List Nat} (h:OfAt w B go A c s W) (hg:w.heap.size ≤ go) (v:Int):OfAt w B go A c (s.1.set x v,s.2) (W.setCell ⟨go,x,none⟩ (.int .i64 v)) :=
 ⟨intsA_set s.1 x v ▸ h.o.set_ x _,own_same h.r fun k hk=>Below.heap_setCell _ _ _ _ (h.ne k hk),h.ne,h.b.setCell hg _⟩
theorem ir_nat {w:World} {B c:Nat} {A:Option Addr} {L:List Nat} (h:IR w B A c (natL L)):w.ownsRow B 3 1 (.slice A L.length c) L.length (ZL (natL L)):=by
 have e:=natL_len L
 unfold IR at h
 rw [e] at h
 exact h
theorem nat_ir {w:World} {B c n:Nat} {A:Option Addr} {L L':List Nat} {q:Nat} (h:w.ownsRow B 3 1 (.slice A n c) n (ZL (natL L) ++ [.int .i64 (q:Int)])) (hn:n=L.length + 1) (hL:L'=L ++ [q]):IR w B A c (natL L'):=by
 unfold IR
 rw [natL_len,hL,List.length_append,List.length_singleton,← hn]
 have e:ZL (natL (L ++ [q]))=ZL (natL L) ++ [.int .i64 (q:Int)]:=by unfold ZL natL; rw [List.map_append,List.map_append]; rfl
 rw [e]; exact h
theorem OfAt.push {w W W':World} {B go c c' q n:Nat} {A A':Option Addr} {s:List Int × List Nat} {o:Obj} (h:OfAt w B go A c s W) (hg:w.heap.size ≤ go) (hB:w.heap.size ≤ B) (h1:W'.ownsRow B 3 1 (.slice A' n c') n (ZL (natL s.2) ++ [.int .i64 (q:Int)])) (hn:n=s.2.length + 1)
  (h2:(W.alloc o).grownBy W' (Value.slice A s.2.length c).ownBlock) (h3:(Value.slice A' n c').ownBlock=(Value.slice A s.2.length c).ownBlock ∨ (Value.slice A' n c').ownBlock=some (W.alloc o).heap.size):OfAt w B go A' c' (s.1,s.2 ++ [q]) W':=by
 have hne:∀ k,(Value.slice A s.2.length c).ownBlock=some k → k ≠ go:=by
  intro k hk
  refine h.ne k ?_
  rw [natL_len]; exact hk
 have hr:=nat_ir h1 hn rfl
 refine ⟨((h.o.alloc o).grown h2 fun e=>hne go e.symm rfl),hr,fun k hk=>?_,(bw_alloc h.b o).grown h2 (by rw [World.size_alloc]; have:=h.b.size; omega) fun k hk=>?_⟩
 · have hk':(Value.slice A' n c').ownBlock=some k:=by
    rw [natL_len,List.length_append,List.length_singleton,← hn] at hk; exact hk
   rcases h3 with e | e
   · rw [e] at hk'; exact hne k hk'
   rw [e] at hk'; injection hk' with hk'
   have:=h.o.lt
   rw [World.size_alloc] at hk'
   omega
 · have:=((ir_nat h.r).lt k hk).1
   omega
def OfPost (w:World) (T:List Tri) (e:Ending) (w':World):Prop:=∃ (A:Option Addr) (c:Nat),e=.returned (.slice A T.length c) ∧ IR w' w.heap.size A c (ofL T) ∧ Below w.heap.size w w'
attribute [local irreducible] Blk World.alloc World.setCell World.cell? World.frozen? MapV
theorem of_any (g m:Nat) (T:List Tri) (w:World) (h:TabN w g m T) :
  Calls Tryz.prog 49 #[.pointer (some ⟨g,0,none⟩)] w (OfPost w T):=by
 have HT:=jJ h
 obtain ⟨i0,hi0,hz0,hz1,hz2⟩:=info_parts int_infoC
 have hn1000:=h.n
 have HTR:Hid (Calls Tryz.prog 31 #[.pointer (some ⟨g,0,none⟩)] w (IsPost w (.int .i64 T.length))):=jJ (tris_any g 0 m T w h.t.s)
 clear h
 have hmk:∀ wx:World,(Instr.makeSlice 30 (.int .i64 (T.length:Int)) (.int .i64 (T.length:Int))).run Tryz.prog wx=.ok (.slice (some ⟨wx.heap.size,0,none⟩) T.length T.length) (wx.alloc (.cells (intsA (List.replicate T.length 0)) 3)):=fun wx=>by
  have:=run_make_rowN (P:=Tryz.prog) 30 3 i0 _ Tryz.underlying30 hi0 hz0 .i64 .i64 T.length T.length (Nat.le_refl _) (by rw [hz2]; omega) (by omega) wx
  rw [hz1,madeI1] at this
  exact this
 go_enter Tryz.func49,Tryz.ntmps49
 go_wp2_with fail
 refine HTR.out.mono ?_
 rintro e w' ⟨rfl,hw⟩
 replace hw:=hw.symm
 subst hw
 go_upto_region 2 with (fail)
 obtain ⟨go,hgo⟩:=jX w.heap.size
 have hgo2:w.heap.size ≤ go:=by omega
 rw [← hgo]
 have hgw:go < (w.alloc (.cells (intsA (List.replicate T.length 0)) 3)).heap.size:=by rw [World.size_alloc]; omega
 have GO1:Hid (Blk (w.alloc (.cells (intsA (List.replicate T.length 0)) 3)) go 3 (intsA (List.replicate T.length 0))):=by rw [hgo]; exact jJ (Blk.new _ _ _)
 have HB1:=jJ (bw_alloc (Below.refl w.heap.size w) (.cells (intsA (List.replicate T.length 0)) 3))
 generalize w.alloc (.cells (intsA (List.replicate T.length 0)) 3)=w1 at *
 clear hgo hmk HTR hgw
 go_wp2_with fail
 go_loopw [4,16] (fun _ kv wr=>∃ k:Nat,k ≤ T.length ∧ kv=.int .i64 (k:Int) ∧ Hid (Blk wr go 3 (intsA (List.replicate k (-1) ++ List.replicate (T.length - k) 0))) ∧ Hid (Below w.heap.size w wr)) (fun _ kv _=>T.length - (intOf kv).toNat)
 case atStart=>exact ⟨0,by omega,rfl,by rw [List.replicate_zero,List.nil_append,Nat.sub_zero]; exact GO1,HB1⟩
 obtain ⟨k,hk,rfl,HO,HB⟩:=hrel
 by_cases hlt:k < T.length
 · have hki:(k:Int) < (T.length:Int):=by omega
   have hl:(List.replicate k (-1:Int) ++ List.replicate (T.length - k) 0).length=T.length:=by simp; omega
   have c0:=(HO.out.cell k).trans (intsA_at (by rw [hl]; exact hlt))
   have cf:=HO.out.frozen k
   have he:(List.replicate k (-1:Int) ++ List.replicate (T.length - k) 0).set k (-1)=List.replicate (k + 1) (-1) ++ List.replicate (T.length - (k + 1)) 0:=by
    rw [List.set_append_right _ _ (by simp),List.length_replicate,Nat.sub_self,show T.length - k=(T.length - (k + 1)) + 1 by omega,List.replicate_succ,List.set_cons_zero,List.replicate_succ',List.append_assoc]
    rfl
   have HE:=jJ he
   clear he hl
   go_wp2_with fail
   go_roundw
   case rel=>exact ⟨k + 1,by omega,by go_num,by rw [← HE.out,← intsA_set]; exact jJ (HO.out.set_ k _),jJ (HB.out.setCell (p:=⟨go,k,none⟩) hgo2 _)⟩
   case measure=>simp [intOf]; omega
 obtain rfl:k=T.length:=by omega
 rw [Nat.sub_self,List.replicate_zero,List.append_nil] at HO
 have HO0:Hid (Blk wr go 3 (intsA (ofS T 0).1)):=HO
 have hof0:(ofS T 0).2=0:=rfl
 go_wp2_with fail
 go_loopw [5,6,7,8,9,10,25] (fun nv _ _ _ _ _ kv wr=>∃ k:Nat,k ≤ T.length ∧ kv=.int .i64 (k:Int) ∧ nv=.int .i64 ((ofS T k).2:Int) ∧ Hid (Blk wr go 3 (intsA (ofS T k).1)) ∧ Hid (Below w.heap.size w wr)) (fun _ _ _ _ _ _ kv _=>T.length - (intOf kv).toNat)
 case atStart=>exact ⟨0,by omega,rfl,rfl,HO0,HB⟩
 obtain ⟨k,hk,rfl,rfl,HOk,HBk⟩:=hrel
 obtain ⟨wB,hwB⟩:=jX (wr:World)
 rw [← hwB] at HOk HBk ⊢
 clear hwB HO HO0 HB hof0
 have HIV:=jJ (of_inv (T:=T) k (by omega))
 by_cases hlt:k < T.length
 · have hki:(k:Int) < (T.length:Int):=by omega
   have hn2:=HIV.out.n
   have hol:=HIV.out.len
   have c0:=(HOk.out.cell k).trans (intsA_at (by rw [hol]; exact hlt))
   have cf:=HOk.out.frozen k
   obtain ⟨y,hy⟩:=jX ((ofS T k).1.getD k 0)
   have HYK:=jJ hy
   rw [← hy] at c0
   clear hol hy
   by_cases h0:0 ≤ y
   · have HS:Hid (ofS T (k + 1)=ofS T k):=jJ (by show shellS T k (ofS T k)=_; unfold shellS; rw [if_pos (HYK.out ▸ h0)])
     go_wp2_with fail
     go_roundw
     case rel=>exact ⟨k + 1,by omega,by go_num,by rw [HS.out],by rw [HS.out]; exact HOk,HBk⟩
     case measure=>simp [intOf]; omega
   have HS:Hid (ofS T (k + 1)=((bfsS T (ofS T k).2 (T.length + 1) 0 ((ofS T k).1.set k ((ofS T k).2:Int),[k])).1,(ofS T k).2 + 1)):=jJ (by show shellS T k (ofS T k)=_; unfold shellS; rw [if_neg (HYK.out ▸ h0)])
   have HF0:=jJ (first_bf HIV.out hlt)
   obtain ⟨n,hn⟩:=jX ((ofS T k).2)
   obtain ⟨O,hO⟩:=jX ((ofS T k).1)
   rw [← hn,← hO] at HS HF0
   rw [← hn] at hn2 ⊢
   rw [← hO] at HOk
   clear hn hO HIV
   have HOL:Hid (O.length=T.length):=jJ (by have:=HF0.out.len; rw [List.length_set] at this; exact this)
   go_upto_region 13 with (fail)
   obtain ⟨w3,hw3⟩:=jX (wB.alloc (.cells #[.int .i64 (k:Int)] 3))
   have HO3:Hid (OfAt w w.heap.size go (some ⟨wB.heap.size,0,none⟩) 1 (O,[k]) w3):=by
    subst hw3
    refine jJ ⟨HOk.out.alloc _,?_,fun j hj e=>?_,bw_alloc HBk.out _⟩
    · exact ints_own (O:=[(k:Int)]) (Blk.new _ _ _) HBk.out.size (by simp [maxLen])
    simp only [Value.ownBlock,Option.some.injEq] at hj
    have:=HOk.out.lt
    omega
   rw [← hw3]
   obtain ⟨gw,hgw⟩:=jX wB.heap.size
   rw [← hgw] at HO3 ⊢
   clear hw3 hgw HOk HBk c0 cf
   have c0:=(HO3.out.o.cell k).trans (intsA_at (by rw [HOL.out]; exact hlt))
   have cf:=HO3.out.o.frozen k
   go_upto_region 14 with (fail)
   have HO4:=jJ (HO3.out.set hgo2 (x:=k) (n:Int))
   generalize w3.setCell ⟨go,k,none⟩ (.int .i64 (n:Int))=w4 at *
   clear c0 cf HO3 h0 HYK
   obtain ⟨fin,hfin⟩:=jX (bfsS T n (T.length + 1) 0 (O.set k (n:Int),[k]))
   have HFIN:=jJ hfin
   rw [← hfin] at HS
   have hbfin:=bfsS_bf (T.length + 1) 0 HF0.out
   rw [← hfin] at hbfin
   have HBFIN:=jJ hbfin
   clear hfin hbfin
   go_wp2_with fail
   go_loopw [7,8,9,10] (fun xv iv _ _ wr=>∃ (i:Nat) (s:List Int × List Nat) (A2:Option Addr) (c2:Nat),i ≤ s.2.length ∧ iv=.int .i64 (i:Int) ∧ xv=.slice A2 s.2.length c2 ∧ Hid (OfAt w w.heap.size go A2 c2 s wr) ∧ Hid (BFi T n s) ∧ Hid (bfsS T n (T.length + 1 - i) i s=fin)) (fun _ iv _ _ _=>T.length + 1 - (intOf iv).toNat)
   case atStart=>exact ⟨0,(O.set k (n:Int),[k]),_,_,by simp,rfl,rfl,HO4.out,HF0.out,HFIN.out.symm⟩
   obtain ⟨i,s,A2,c2,hi,rfl,rfl,HOs,HBF,HFS⟩:=hrel
   obtain ⟨wD,hwD⟩:=jX (wr:World)
   rw [← hwD] at HOs ⊢
   clear hwD HO4
   have hsl:=HBF.out.short
   by_cases hil:i < s.2.length
   · have hii:(i:Int) < (s.2.length:Int):=by omega
     obtain ⟨t,ht⟩:=jX (s.2.getD i 0)
     have hmem:s.2.getD i 0 ∈ s.2:=by rw [List.getD_eq_getElem?_getD,List.getElem?_eq_getElem hil]; exact List.getElem_mem hil
     have htl:t < T.length:=by rw [ht]; exact HBF.out.lt _ hmem
     have HTI:=jJ ht
     have HFS2:Hid (bfsS T n (T.length + 1 - (i + 1)) (i + 1) (overN T n t 3 s)=fin):=by
      have h1:=HFS.out
      rw [show T.length + 1 - i=(T.length + 1 - (i + 1)) + 1 by omega,bfs_step hil,← ht] at h1
      exact jJ h1
     clear ht hmem
     go_wp2_with fail
     go_loopw [7,9,10,45] (fun xv _ _ jv wr=>∃ (j:Nat) (A3:Option Addr) (c3:Nat),j ≤ 3 ∧ jv=.int .i64 (j:Int) ∧ xv=.slice A3 (overN T n t j s).2.length c3 ∧ Hid (OfAt w w.heap.size go A3 c3 (overN T n t j s) wr)) (fun _ _ _ jv _=>3 - (intOf jv).toNat)
     case atStart=>exact ⟨0,A2,c2,by omega,rfl,rfl,HOs⟩
     obtain ⟨j,A3,c3,hj,rfl,rfl,HOj⟩:=hrel
     obtain ⟨wE,hwE⟩:=jX (wr:World)
     rw [← hwE] at HOj ⊢
     clear hwE HOs
     by_cases hj3:j < 3
     · have hji:(j:Int) < 3:=by omega
       obtain ⟨hjl,hja⟩:=overN_at (T:=T) (n:=n) (t:=t) (j:=j) hil
       have HZ:Hid (overN T n t (j + 1) s=overS T n (3 * t + j) (overN T n t j s)):=jJ rfl
       have HBZ:=jJ (overN_bf HBF.out t j)
       obtain ⟨z,hz⟩:=jX (overN T n t j s)
       rw [← hz] at hjl hja HZ HBZ HOj ⊢
       clear hz
       have hzl:=HBZ.out.short
       obtain ⟨gj,rfl,y0⟩:=ir_at HOj.out.r hjl
       rw [hja,← HTI.out] at y0
       have hd:3 * t + j < 3 * T.length:=by omega
       have HOP:Hid (Calls Tryz.prog 58 #[.pointer (some ⟨g,0,none⟩),.int .i64 (3 * (t:Int) + (j:Int))] wE (IntPost wE (optI (oppF T (3 * t + j))))):=by
        have:=(HT.out.below HOj.out.b).opp hd
        rw [show ((3 * t + j:Nat):Int)=3 * (t:Int) + (j:Int) by omega] at this
        exact jJ this
       have hjzi:(i:Int) < (z.2.length:Int):=by omega
       clear hja
       cases ho:oppF T (3 * t + j) with
       | none =>
        have HZ2:Hid (overN T n t (j + 1) s=z):=jJ (by rw [HZ.out]; unfold overS; rw [ho])
        rw [ho] at HOP
        have hop:optI none=-1:=rfl
        rw [hop] at HOP
        clear ho hop HZ
        go_wp2_with fail
        refine HOP.out.mono ?_
        rintro e w5 ⟨rfl,hb⟩
        have HO5:=jJ (HOj.out.below hb)
        clear hb y0 HOj
        go_wp2_with fail
        go_roundw
        case rel=>exact ⟨j + 1,_,c3,by omega,by go_num,by rw [HZ2.out],by rw [HZ2.out]; exact HO5⟩
        case measure=>simp [intOf]; omega
       | some o =>
        have hot:=opp_tri ho
        obtain ⟨q,hq⟩:=jX (o / 3)
        have HZ2:Hid (overN T n t (j + 1) s=if z.1.getD q 0 < 0 then (z.1.set q (n:Int),z.2 ++ [q]) else z):=jJ (by rw [HZ.out]; unfold overS; rw [ho,hq])
        rw [ho] at HOP
        have hop:optI (some o)=(o:Int):=rfl
        rw [hop] at HOP
        have ho3:=(facing_some ho).1
        have hqd:Int.tdiv (o:Int) 3=(q:Int):=by rw [hq]; exact tdiv_nat o 3
        rw [← hq] at hot
        have hqi:(q:Int) < (T.length:Int):=by omega
        have hwq:IntKind.i64.wrap (q:Int)=(q:Int):=IntWalk.i64_in _ (by omega)
        clear ho hop HZ hq
        go_wp2_with fail
        refine HOP.out.mono ?_
        rintro e w5 ⟨rfl,hb⟩
        have HO5:=jJ (HOj.out.below hb)
        obtain ⟨y,hy⟩:=jX (z.1.getD q 0)
        have c0:=(HO5.out.o.cell q).trans (intsA_at (by rw [HBZ.out.len]; exact hot))
        have cf:=HO5.out.o.frozen q
        rw [← hy] at c0 HZ2
        clear hb y0 HOj hy HOP
        by_cases hy0:y < 0
        · rw [if_pos hy0] at HZ2
          go_upto_region 23 with (fail)
          have HO6:=jJ (HO5.out.set hgo2 (x:=q) (n:Int))
          generalize w5.setCell ⟨go,q,none⟩ (.int .i64 (n:Int))=w6 at *
          clear c0 cf HO5 hy0
          go_wp2_with (at_builtin; go_must (refine wpList_append_sl _ rfl (.tmp 72) (.tmp 75) _ rfl w.heap.size 3 i0 _ 1 8 Tryz.underlying30 hi0 hz0 hz1 hz2 rfl (by omega) (.slice (some ⟨gj,0,none⟩) z.2.length c3) z.2.length (ZL (natL z.2)) rfl (own_same (ir_nat HO6.out.r) fun k hk=>Below.heap_alloc _ _ _ ((ir_nat HO6.out.r).lt k hk).2) (w6.heap.size + 1) (some ⟨w6.heap.size,0,none⟩) 1 1 [.int .i64 (q:Int)] rfl (reads_new w6 #[.int .i64 (q:Int)] 3 1 1 rfl) (by simp [Value.oneCell']) (by simp only [maxLen]; omega) (by omega) (by rw [World.size_alloc]; have:=HO6.out.b.size; omega) ?_); intro A7 c7 w7 hown7 hg7 hat7)
          have HO7:=jJ (HO6.out.push hgo2 (Nat.le_refl _) hown7 rfl hg7 hat7)
          clear hown7 hg7 hat7
          go_roundw
          case rel=>exact ⟨j + 1,A7,c7,by omega,by go_num,by rw [HZ2.out]; simp,by rw [HZ2.out]; exact HO7⟩
          case measure=>simp [intOf]; omega
        rw [if_neg hy0] at HZ2
        go_wp2_with fail
        go_roundw
        case rel=>exact ⟨j + 1,_,c3,by omega,by go_num,by rw [HZ2.out],by rw [HZ2.out]; exact HO5⟩
        case measure=>simp [intOf]; omega
     obtain rfl:j=3:=by omega
     obtain ⟨hjl,_⟩:=overN_at (T:=T) (n:=n) (t:=t) (j:=3) hil
     have HBZ:=jJ (overN_bf HBF.out t 3)
     go_wp2_with fail
     go_roundw
     case rel=>exact ⟨i + 1,overN T n t 3 s,A3,c3,by omega,by go_num,rfl,HOj,HBZ,HFS2⟩
     case measure=>simp [intOf]; omega
   obtain rfl:i=s.2.length:=by omega
   go_wp2_with fail
   go_roundw
   case rel =>
    have e:s=fin:=by rw [← HFS.out,bfs_stop (Nat.le_refl _)]
    exact ⟨k + 1,by omega,by go_num,by rw [HS.out]; go_num,by rw [HS.out,← e]; exact jJ HOs.out.o,jJ HOs.out.b⟩
   case measure=>simp [intOf]; omega
 obtain rfl:k=T.length:=by omega
 go_wp2_with fail
 go_ret
 have hl:=HIV.out.len
 have hr:=ints_own HOk.out hgo2 (by rw [hl]; simp only [maxLen]; omega)
 exact ⟨some ⟨go,0,none⟩,T.length,rfl,hl ▸ hr,HBk.out⟩
def maxL (L:List Int):Int:=L.foldl (fun n k=>max n (k + 1)) 0
theorem maxL_snoc (L:List Int) (k:Int):maxL (L ++ [k])=max (maxL L) (k + 1):=by unfold maxL; rw [List.foldl_append]; rfl
theorem count_any (g m:Nat) (T:List Tri) (w:World) (h:TabN w g m T) :
  Calls Tryz.prog 48 #[.pointer (some ⟨g,0,none⟩)] w (IntPost w (maxL (ofL T))):=by
 have HT:=jJ h
 have hn1000:=h.n
 clear h
 go_enter Tryz.func48,Tryz.ntmps48
 go_wp2_with fail
 refine (of_any g m T w HT.out).mono ?_
 rintro e w1 ⟨A,c,rfl,hr,hb⟩
 have hl:=ofL_len (T:=T)
 have HIN:Hid (∀ x,x < T.length → 0 ≤ (ofL T).getD x 0 ∧ (ofL T).getD x 0 < (T.length:Int)):=jJ fun x hx=>by
  have h1:=ofL_in hx
  have h2:=countL_le (T:=T)
  omega
 obtain ⟨O,hO⟩:=jX (ofL T)
 rw [← hO] at hl HIN hr
 have HOE:=jJ hO
 clear hO
 have HR:=jJ hr
 have HB:=jJ hb
 have HL:=jJ hl
 clear hr hb hl
 have h00:(0:Int)=maxL (O.take 0):=rfl
 have H00:=jJ h00
 clear h00
 go_wp2_with fail
 go_loopw [3,5,9] (fun nv _ kv wr=>∃ k:Nat,k ≤ T.length ∧ kv=.int .i64 (k:Int) ∧ ∃ n:Int,nv=.int .i64 n ∧ 0 ≤ n ∧ n ≤ (T.length:Int) ∧ Hid (n=maxL (O.take k)) ∧ wr=w1) (fun _ _ kv _=>T.length - (intOf kv).toNat)
 case atStart=>exact ⟨0,by omega,rfl,0,rfl,by omega,by omega,H00,rfl⟩
 obtain ⟨k,hk,rfl,n,rfl,hn0,hn1,HN,hw⟩:=hrel
 subst hw
 by_cases hlt:k < T.length
 · have hki:(k:Int) < (T.length:Int):=by omega
   have hkl:k < O.length:=by rw [HL.out]; exact hlt
   obtain ⟨ad,u,rfl,_,hu,hc⟩:=HR.out.reads.at_ (show k < O.length from hkl)
   unfold ZL at hu
   rw [List.getElem?_map,List.getElem?_eq_getElem hkl] at hu
   obtain rfl:Value.int .i64 O[k]=u:=by injection hu
   obtain ⟨y,hy⟩:=jX (O[k])
   have hin:=HIN.out k hlt
   rw [List.getD_eq_getElem?_getD,List.getElem?_eq_getElem hkl,Option.getD_some,← hy] at hin
   have HS:Hid (max n (y + 1)=maxL (O.take (k + 1))):=jJ (by rw [List.take_succ_eq_append_getElem hkl,maxL_snoc,← HN.out,hy])
   rw [← hy] at hc
   have hmx:0 ≤ max n (y + 1) ∧ max n (y + 1) ≤ (T.length:Int):=by omega
   clear hu hy
   go_wp2_with fail
   go_roundw
   case rel=>exact ⟨k + 1,by omega,by go_num,max n (y + 1),rfl,by omega,by omega,HS,by first | rfl | trivial⟩
   case measure=>simp [intOf]; omega
 obtain rfl:k=T.length:=by omega
 go_wp2_with fail
 go_ret
 have e:n=maxL O:=by rw [HN.out,List.take_of_length_le (by rw [HL.out]; exact Nat.le_refl _)]
 exact ⟨by rw [e,HOE.out]; rfl,HB.out⟩
end
section
open Go.RowKit Go.Sort
def insD (x:Int):List Int → List Int
 | []=>[x]
 | y :: l=>if x < y then x :: y :: l else if x=y then y :: l else y :: insD x l
def vsL (L:List Int):List Int:=L.foldr insD []
theorem mem_insD {x z:Int}:∀ {l:List Int},z ∈ insD x l ↔ z=x ∨ z ∈ l
 | []=>by simp [insD]
 | y :: l=>by
  unfold insD
  split
  · simp
  split
  · rename_i h
    subst h
    simp
  rw [List.mem_cons,mem_insD (l:=l),List.mem_cons]
  constructor
  · rintro (h | h | h)
    · exact .inr (.inl h)
    · exact .inl h
    exact .inr (.inr h)
  rintro (h | h | h)
  · exact .inr (.inl h)
  · exact .inl h
  exact .inr (.inr h)
theorem insD_up {x:Int}:∀ {l:List Int},l.Pairwise (· < ·) → (insD x l).Pairwise (· < ·)
 | [],_=>by simp [insD]
 | y :: l,h=>by
  obtain ⟨h1,h2⟩:=List.pairwise_cons.1 h
  unfold insD
  split
  · rename_i hxy
    refine List.pairwise_cons.2 ⟨fun z hz=>?_,h⟩
    rcases List.mem_cons.1 hz with rfl | hz
    · exact hxy
    exact Int.lt_trans hxy (h1 z hz)
  split
  · exact h
  rename_i h3 h4
  refine List.pairwise_cons.2 ⟨fun z hz=>?_,insD_up h2⟩
  rcases mem_insD.1 hz with rfl | hz
  · omega
  exact h1 z hz
theorem mem_vsL {z:Int}:∀ {L:List Int},z ∈ vsL L ↔ z ∈ L
 | []=>Iff.rfl
 | x :: L=>by
  show z ∈ insD x (vsL L) ↔ _
  rw [mem_insD,mem_vsL (L:=L),List.mem_cons]
theorem vsL_up:∀ (L:List Int),(vsL L).Pairwise (· < ·)
 | []=>List.Pairwise.nil
 | x :: L=>insD_up (vsL_up L)
theorem up_uniq:∀ {a b:List Int},a.Pairwise (· < ·) → b.Pairwise (· < ·) → (∀ z,z ∈ a ↔ z ∈ b) → a=b
 | [],[],_,_,_=>rfl
 | [],y :: b,_,_,h=>by have:=(h y).2 (by simp); simp at this
 | x :: a,[],_,_,h=>by have:=(h x).1 (by simp); simp at this
 | x :: a,y :: b,ha,hb,h=>by
  obtain ⟨a1,a2⟩:=List.pairwise_cons.1 ha
  obtain ⟨b1,b2⟩:=List.pairwise_cons.1 hb
  have hxy:x=y:=by
   rcases List.mem_cons.1 ((h x).1 (by simp)) with e | e
   · exact e
   rcases List.mem_cons.1 ((h y).2 (by simp)) with e' | e'
   · exact e'.symm
   have:=b1 x e
   have:=a1 y e'
   omega
  subst hxy
  refine congrArg (x :: ·) (up_uniq a2 b2 fun z=>⟨fun hz=>?_,fun hz=>?_⟩)
  · rcases List.mem_cons.1 ((h z).1 (List.mem_cons_of_mem _ hz)) with e | e
    · have:=a1 z hz; omega
    exact e
  rcases List.mem_cons.1 ((h z).2 (List.mem_cons_of_mem _ hz)) with e | e
  · have:=b1 z hz; omega
  exact e
theorem compact_up {d:Array Int} (hs:∀ i j,i ≤ j → j < d.size → d[i]! ≤ d[j]!):∀ m,m ≤ d.size → (∀ x,x ∈ Lib.compactUpTo d m ↔ ∃ j,j < m ∧ d[j]! = x) ∧ (Lib.compactUpTo d m).Pairwise (· < ·)
 | 0,_=>by
  have:Lib.compactUpTo d 0=[]:=by simp [Lib.compactUpTo]
  rw [this]
  exact ⟨fun x=>⟨fun h=>(by simp at h),fun ⟨j,h,_⟩=>absurd h (Nat.not_lt_zero j)⟩,List.Pairwise.nil⟩
 | m + 1,hm=>by
  obtain ⟨h1,h2⟩:=compact_up hs m (by omega)
  rw [Lib.compactUpTo_succ]
  by_cases hk:m=0 ∨ d[m]! ≠ d[m - 1]!
  · have hkk:Lib.keeps d m=true:=by simp only [Lib.keeps,decide_eq_true_eq]; exact hk
    rw [if_pos hkk]
    refine ⟨fun x=>?_,List.pairwise_append.2 ⟨h2,by simp,fun a ha b hb=>?_⟩⟩
    · rw [List.mem_append,h1 x,List.mem_singleton]
      constructor
      · rintro (⟨j,hj,e⟩ | e)
        · exact ⟨j,by omega,e⟩
        exact ⟨m,by omega,e.symm⟩
      rintro ⟨j,hj,e⟩
      by_cases hjm:j=m
      · subst hjm; exact .inr e.symm
      exact .inl ⟨j,by omega,e⟩
    obtain ⟨j,hj,rfl⟩:=(h1 a).1 ha
    rw [List.mem_singleton.1 hb]
    have h3:=hs j (m - 1) (by omega) (by omega)
    have h4:=hs (m - 1) m (by omega) (by omega)
    rcases hk with hk | hk
    · omega
    omega
  have hkk:¬ Lib.keeps d m=true:=by simp only [Lib.keeps,decide_eq_true_eq]; exact hk
  rw [if_neg hkk,List.append_nil]
  refine ⟨fun x=>?_,h2⟩
  rw [h1 x]
  constructor
  · rintro ⟨j,hj,e⟩
    exact ⟨j,by omega,e⟩
  rintro ⟨j,hj,e⟩
  by_cases hjm:j=m
  · subst hjm
    have h5:j ≠ 0:=fun e=>hk (.inl e)
    have h6:d[j]! = d[j - 1]! := Decidable.byContradiction fun e=>hk (.inr e)
    exact ⟨j - 1,by omega,by rw [← h6]; exact e⟩
  exact ⟨j,by omega,e⟩
theorem compact_sorted {L:List Int} (hs:L.Pairwise (· ≤ ·)):Lib.compact L=vsL L:=by
 have hg:∀ i,i < L.length → L.toArray[i]! = L.getD i 0:=fun i hi=>by
  rw [getElem!_pos L.toArray i (by simpa using hi),List.getD_eq_getElem?_getD,List.getElem?_eq_getElem hi]
  simp
 obtain ⟨h1,h2⟩:=compact_up (d:=L.toArray) (fun i j hij hj=>by
  have hj':j < L.length:=by simpa using hj
  rw [hg i (by omega),hg j hj',List.getD_eq_getElem?_getD,List.getElem?_eq_getElem (show i < L.length by omega),List.getD_eq_getElem?_getD,List.getElem?_eq_getElem hj']
  show L[i] ≤ L[j]
  rcases Nat.lt_or_eq_of_le hij with h | h
  · exact List.pairwise_iff_getElem.1 hs i j (by omega) hj' h
  subst h; exact Int.le_refl _) L.length (by simp)
 refine up_uniq h2 (vsL_up L) fun z=>?_
 show z ∈ Lib.compactUpTo L.toArray L.length ↔ _
 rw [h1 z,mem_vsL]
 constructor
 · rintro ⟨j,hj,e⟩
   rw [hg j hj,List.getD_eq_getElem?_getD,List.getElem?_eq_getElem hj] at e
   rw [← e]; exact List.getElem_mem hj
 intro hz
 obtain ⟨j,hj,e⟩:=List.getElem_of_mem hz
 exact ⟨j,hj,by rw [hg j hj,List.getD_eq_getElem?_getD,List.getElem?_eq_getElem hj]; exact e⟩
def sortL (L:List Int):List Int:=L.mergeSort fun x y=>decide (x ≤ y)
theorem sortL_len (L:List Int):(sortL L).length=L.length:=List.length_mergeSort _
theorem sortL_up (L:List Int):(sortL L).Pairwise (· ≤ ·):=by
 have h:=List.pairwise_mergeSort (le:=fun (x y:Int)=>decide (x ≤ y)) (fun a b c h1 h2=>by simp only [decide_eq_true_eq] at *; omega) (fun a b=>by simp only [Bool.or_eq_true,decide_eq_true_eq]; omega) L
 exact h.imp fun h=>by simpa using h
theorem compact_sortL (L:List Int):Lib.compact (sortL L)=vsL L:=by
 rw [compact_sorted (sortL_up L)]
 exact up_uniq (vsL_up _) (vsL_up _) fun z=>by rw [mem_vsL,mem_vsL]; exact List.mem_mergeSort
end
section
def updF {α:Type} (f:Nat → α) (k:Nat) (a:α):Nat → α:=fun i=>if i=k then a else f i
theorem updF_at {α:Type} (f:Nat → α) (k:Nat) (a:α):updF f k a k=a:=if_pos rfl
theorem updF_ne {α:Type} (f:Nat → α) {k i:Nat} (a:α) (h:i ≠ k):updF f k a i=f i:=if_neg h
theorem updF_self {α:Type} (f:Nat → α) (k:Nat):updF f k (f k)=f:=by
 funext i
 unfold updF
 split
 · rename_i h; rw [h]
 rfl
structure PartV where
 n:Int
 t:List Tri
 v:List Int
 l:List Nat
def rE (q:Nat):TypeId:=if q % 3=0 then 65 else 3
def rS (q:Nat):Nat:=if q % 3=0 then 3 else 1
def rKp (p:PartV) (r:Nat):Nat:=if r=0 then p.t.length else if r=1 then p.v.length else p.l.length
def rXp (p:PartV) (r:Nat):List Value:=if r=0 then p.t.flatMap Tri.cells else if r=1 then ZL p.v else ZL (natL p.l)
structure PAt (w:World) (gp K:Nat) (P:Nat → PartV) (v:Nat → Value) (W:World):Prop where
 blk:∃ cs,Blk W gp 94 cs ∧ cs.size=K * 4 ∧ ∀ i,i < K → cs[i * 4]?=some (.int .i64 (P i).n) ∧ ∀ r,r < 3 → cs[i * 4 + 1 + r]?=some (v (3 * i + r))
 own:∀ i r,i < K → r < 3 → W.ownsRow w.heap.size (rE r) (rS r) (v (3 * i + r)) (rKp (P i) r) (rXp (P i) r)
 apart:∀ i j,i < 3 * K → j < 3 * K → i ≠ j → ∀ b,(v i).ownBlock=some b → (v j).ownBlock ≠ some b
 b:Only (fun i=>i=gp) w W
section
variable {w W W':World} {gp K k r:Nat} {P:Nat → PartV} {v:Nat → Value}
theorem rE_part (r:Nat):rE r ≠ 94 := by
 unfold rE
 split <;> decide
theorem PAt.lt (h:PAt w gp K P v W) {j:Nat} (hj:j < 3 * K) {b:Nat} (hb:(v j).ownBlock=some b):w.heap.size ≤ b ∧ b < W.heap.size:=by
 have h0:=h.own (j / 3) (j % 3) (by omega) (by omega)
 rw [show 3 * (j / 3) + j % 3=j by omega] at h0
 exact h0.lt b hb
theorem PAt.ne_gp (h:PAt w gp K P v W) {j:Nat} (hj:j < 3 * K):(v j).ownBlock ≠ some gp:=by
 have h0:=h.own (j / 3) (j % 3) (by omega) (by omega)
 rw [show 3 * (j / 3) + j % 3=j by omega] at h0
 obtain ⟨cs,hc,_⟩:=h.blk
 exact own_blk_ne h0 hc (rE_part _)
theorem PAt.gp_lt (h:PAt w gp K P v W):gp < W.heap.size:=by
 obtain ⟨cs,hc,_⟩:=h.blk
 exact hc.lt
theorem PAt.keep (h:PAt w gp K P v W) (hk:∀ j,j < 3 * K → ∀ b,(v j).ownBlock=some b → W'.heap[b]?=W.heap[b]?) (hg:W'.heap[gp]?=W.heap[gp]?) (hb:Only (fun i=>i=gp) w W'):PAt w gp K P v W':=by
 obtain ⟨cs,hc,h1,h2⟩:=h.blk
 exact ⟨⟨cs,hg.trans hc,h1,h2⟩,fun i r hi hr=>own_same (h.own i r hi hr) fun b hb=>hk (3 * i + r) (by omega) b hb,h.apart,hb⟩
theorem PAt.below (h:PAt w gp K P v W) (hb:Below W.heap.size W W'):PAt w gp K P v W' :=
 h.keep (fun j hj b hbb=>hb.block b (h.lt hj hbb).2) (hb.block gp h.gp_lt) (h.b.trans (Only.of_below hb _))
theorem PAt.drew (h:PAt w gp K P v W):PAt w gp K P v W.drew:=h.below (bw_drew (Below.refl _ _))
theorem PAt.alloc (h:PAt w gp K P v W) (o:Obj):PAt w gp K P v (W.alloc o):=h.below (bw_alloc (Below.refl _ _) _)
theorem PAt.cellN (h:PAt w gp K P v W) (hk:k < K):W.cell? ⟨gp,k * 4,none⟩=some (.int .i64 (P k).n):=by
 obtain ⟨cs,hc,h1,h2⟩:=h.blk
 exact (hc.cell _).trans (h2 k hk).1
theorem PAt.cell (h:PAt w gp K P v W) (hk:k < K) (hr:r < 3):W.cell? ⟨gp,k * 4 + 1 + r,none⟩=some (v (3 * k + r)):=by
 obtain ⟨cs,hc,h1,h2⟩:=h.blk
 exact (hc.cell _).trans ((h2 k hk).2 r hr)
theorem PAt.frozen (h:PAt w gp K P v W) (i:Nat):W.frozen? ⟨gp,i,none⟩=false:=by
 obtain ⟨cs,hc,h1,h2⟩:=h.blk
 exact hc.frozen _
theorem PAt.swap (h:PAt w gp K P v W) (hk:k < K) (hr:r < 3) {p':PartV} {v':Value} (hsame:∀ s,s < 3 → s ≠ r → rKp p' s=rKp (P k) s ∧ rXp p' s=rXp (P k) s) (hn:p'.n=(P k).n)
  (hW:∀ i,i < W.heap.size → (v (3 * k + r)).ownBlock ≠ some i → W'.heap[i]?=W.heap[i]?) (ho:W'.ownsRow w.heap.size (rE r) (rS r) v' (rKp p' r) (rXp p' r)) (hat:∀ x,v'.ownBlock=some x → (v (3 * k + r)).ownBlock=some x ∨ W.heap.size ≤ x) (hb:Only (fun i=>i=gp) w W') :
  PAt w gp K (updF P k p') (updF v (3 * k + r) v') (W'.setCell ⟨gp,k * 4 + 1 + r,none⟩ v'):=by
 obtain ⟨cs,hc,h1,h2⟩:=h.blk
 have hc':Blk W' gp 94 cs:=(hW gp hc.lt (h.ne_gp (by omega))).trans hc
 have hfar:∀ i,i ≠ gp → (W'.setCell ⟨gp,k * 4 + 1 + r,none⟩ v').heap[i]?=W'.heap[i]?:=fun i hi=>Below.heap_setCell _ _ _ _ hi
 refine ⟨⟨cs.setIfInBounds (k * 4 + 1 + r) v',hc'.set_ _ _,by simpa using h1,fun i hi=>⟨?_,fun s hs=>?_⟩⟩,fun i s hi hs=>?_,fun i j hi hj hij b hbi hbj=>?_,hb.setCell (.inl rfl) _⟩
 · rw [Array.getElem?_setIfInBounds_ne (by omega),(h2 i hi).1]
   by_cases hik:i=k
   · subst hik; rw [updF_at,hn]
   rw [updF_ne _ _ hik]
 · by_cases he:i=k ∧ s=r
   · obtain ⟨rfl,rfl⟩:=he
     rw [updF_at,Array.getElem?_setIfInBounds_self_of_lt (by omega)]
   rw [Array.getElem?_setIfInBounds_ne (by omega),(h2 i hi).2 s hs,updF_ne _ _ (by omega)]
 · by_cases he:i=k ∧ s=r
   · obtain ⟨rfl,rfl⟩:=he
     rw [updF_at,updF_at]
     refine own_same ho fun b hbb=>hfar b fun e=>?_
     subst e
     exact own_blk_ne ho hc' (rE_part _) hbb
   rw [updF_ne v _ (by omega)]
   have h0:=h.own i s hi hs
   have hne:∀ b,(v (3 * i + s)).ownBlock=some b → (W'.setCell ⟨gp,k * 4 + 1 + r,none⟩ v').heap[b]?=W.heap[b]?:=fun b hbb=>by
    rw [hfar b (fun e=>h.ne_gp (j:=3 * i + s) (by omega) (e ▸ hbb))]
    exact hW b (h.lt (by omega) hbb).2 (h.apart _ _ (by omega) (by omega) (by omega) b hbb)
   by_cases hik:i=k
   · subst hik
     obtain ⟨e1,e2⟩:=hsame s hs (by omega)
     rw [updF_at,e1,e2]
     exact own_same h0 hne
   rw [updF_ne _ _ hik]
   exact own_same h0 hne
 by_cases hiq:i=3 * k + r
 · subst hiq
   rw [updF_at] at hbi
   rw [updF_ne _ _ (by omega)] at hbj
   rcases hat b hbi with hh | hh
   · exact h.apart _ _ hi hj hij b hh hbj
   have:=(h.lt hj hbj).2
   omega
 rw [updF_ne _ _ hiq] at hbi
 by_cases hjq:j=3 * k + r
 · subst hjq
   rw [updF_at] at hbj
   rcases hat b hbj with hh | hh
   · exact h.apart _ _ hi hj hij b hbi hh
   have:=(h.lt hi hbi).2
   omega
 rw [updF_ne _ _ hjq] at hbj
 exact h.apart _ _ hi hj hij b hbi hbj
theorem PAt.inplace (h:PAt w gp K P v W) (hk:k < K) (hr:r < 3) {p':PartV} (hsame:∀ s,s < 3 → s ≠ r → rKp p' s=rKp (P k) s ∧ rXp p' s=rXp (P k) s) (hn:p'.n=(P k).n)
  (hW:∀ i,i < W.heap.size → (v (3 * k + r)).ownBlock ≠ some i → W'.heap[i]?=W.heap[i]?) (ho:W'.ownsRow w.heap.size (rE r) (rS r) (v (3 * k + r)) (rKp p' r) (rXp p' r)) (hb:Only (fun i=>i=gp) w W') :
  PAt w gp K (updF P k p') v W':=by
 obtain ⟨cs,hc,h1,h2⟩:=h.blk
 have hc':Blk W' gp 94 cs:=(hW gp hc.lt (h.ne_gp (by omega))).trans hc
 refine ⟨⟨cs,hc',h1,fun i hi=>⟨?_,(h2 i hi).2⟩⟩,fun i s hi hs=>?_,h.apart,hb⟩
 · rw [(h2 i hi).1]
   by_cases hik:i=k
   · subst hik; rw [updF_at,hn]
   rw [updF_ne _ _ hik]
 by_cases he:i=k ∧ s=r
 · obtain ⟨rfl,rfl⟩:=he
   rw [updF_at]
   exact ho
 have h0:=h.own i s hi hs
 have hne:∀ b,(v (3 * i + s)).ownBlock=some b → W'.heap[b]?=W.heap[b]?:=fun b hbb =>
  hW b (h.lt (by omega) hbb).2 (h.apart _ _ (by omega) (by omega) (by omega) b hbb)
 by_cases hik:i=k
 · subst hik
   obtain ⟨e1,e2⟩:=hsame s hs (by omega)
   rw [updF_at,e1,e2]
   exact own_same h0 hne
 rw [updF_ne _ _ hik]
 exact own_same h0 hne
theorem PAt.setN (h:PAt w gp K P v W) (hk:k < K) (n:Int):PAt w gp K (updF P k ⟨n,(P k).t,(P k).v,(P k).l⟩) v (W.setCell ⟨gp,k * 4,none⟩ (.int .i64 n)):=by
 obtain ⟨cs,hc,h1,h2⟩:=h.blk
 have hfar:∀ i,i ≠ gp → (W.setCell ⟨gp,k * 4,none⟩ (.int .i64 n)).heap[i]?=W.heap[i]?:=fun i hi=>Below.heap_setCell _ _ _ _ hi
 refine ⟨⟨_,hc.set_ (k * 4) (.int .i64 n),by simpa using h1,fun i hi=>⟨?_,fun s hs=>?_⟩⟩,fun i s hi hs=>?_,h.apart,h.b.setCell (.inl rfl) _⟩
 · by_cases hik:i=k
   · subst hik; rw [updF_at,Array.getElem?_setIfInBounds_self_of_lt (by omega)]
   rw [updF_ne _ _ hik,Array.getElem?_setIfInBounds_ne (by omega),(h2 i hi).1]
 · rw [Array.getElem?_setIfInBounds_ne (by omega),(h2 i hi).2 s hs]
 have h0:=own_same (h.own i s hi hs) fun b hbb=>hfar b (fun e=>h.ne_gp (j:=3 * i + s) (by omega) (e ▸ hbb))
 by_cases hik:i=k
 · subst hik; rw [updF_at]; exact h0
 rw [updF_ne _ _ hik]; exact h0
end
end
section
open Go.RowKit Go.Sort
section
variable {w:World} {B g n c:Nat} {L:List Int}
theorem own_block47 (h:w.ownsRow B 3 1 (.slice (some ⟨g,0,none⟩) n c) n (ZL L)):∃ cur,Blk w g 3 cur ∧ B ≤ g ∧ n ≤ c ∧ c ≤ maxLen ∧ cur.size=c ∧ cur.toList.take n=ZL L:=by
 rcases h.2 with ⟨h0,_⟩ | ⟨g',cap,cur,hv,hB,hh,h1,h2,h3,h4⟩
 · simp at h0
 injection hv with e1 e2 e3
 injection e1 with e1
 injection e1 with e1
 subst e1 e3
 exact ⟨cur,hh,hB,h1,h2,by simpa using h3,by simpa using h4⟩
theorem zl_len (L:List Int):(ZL L).length=L.length:=by simp [ZL]
theorem own_len (h:w.ownsRow B 3 1 (.slice (some ⟨g,0,none⟩) n c) n (ZL L)):L.length=n:=by
 have:=h.1
 rw [zl_len] at this
 omega
theorem own_cell (h:w.ownsRow B 3 1 (.slice (some ⟨g,0,none⟩) n c) n (ZL L)) {j:Nat} (hj:j < L.length):w.cell? ⟨g,0 + j,none⟩=some (.int .i64 (L.getD j 0)):=by
 have:=World.ownsRow.cells h (g:=g) rfl j (.int .i64 (L.getD j 0)) (by
  unfold ZL
  rw [List.getElem?_map,List.getElem?_eq_getElem hj,List.getD_eq_getElem?_getD,List.getElem?_eq_getElem hj]; rfl)
 rw [Nat.zero_add,show (⟨g,j,none⟩:Addr)=(⟨g,0,none⟩:Addr).add j by simp [Addr.add]]
 exact this
theorem own_holds47 (h:w.ownsRow B 3 1 (.slice (some ⟨g,0,none⟩) n c) n (ZL L)):Holds (Value.int .i64) w g 0 L.toArray:=by
 intro j hj
 have hj':j < L.length:=by simpa using hj
 obtain ⟨cur,hb,_⟩:=own_block47 h
 refine ⟨?_,hb.frozen _⟩
 rw [own_cell h hj',getElem!_pos L.toArray j hj,List.getD_eq_getElem?_getD,List.getElem?_eq_getElem hj']
 simp
theorem own_put (h:w.ownsRow B 3 1 (.slice (some ⟨g,0,none⟩) n c) n (ZL L)) {L':List Int} (hl:L'.length=n) (q:Nat) (os:Array Obj) :
  (grow (putRow (Value.int .i64) (Sort.ahead w q) g 0 L'.toArray) os).ownsRow B 3 1 (.slice (some ⟨g,0,none⟩) n c) n (ZL L') ∧ Only (fun i=>i=g) w (grow (putRow (Value.int .i64) (Sort.ahead w q) g 0 L'.toArray) os):=by
 obtain ⟨cur,hb,hB,h1,h2,h3,h4⟩:=own_block47 h
 have hsz:(putRow (Value.int .i64) (Sort.ahead w q) g 0 L'.toArray).heap.size=w.heap.size:=by simp [putRow,mapBlock,Sort.ahead]
 have hne:∀ i,i < w.heap.size → i ≠ g → (grow (putRow (Value.int .i64) (Sort.ahead w q) g 0 L'.toArray) os).heap[i]?=w.heap[i]?:=by
  intro i hi hn
  rw [heap_grow_old _ _ (by rw [hsz]; exact hi)]
  unfold putRow mapBlock Sort.ahead
  simp only [Array.getElem?_modify,if_neg (Ne.symm hn)]
 refine ⟨⟨by rw [zl_len,hl]; omega,.inr ⟨g,c,putCells (Value.int .i64) 0 L'.toArray cur,rfl,hB,?_,h1,h2,?_,?_⟩⟩,⟨rfl,rfl,rfl,?_,fun i hi hn=>hne i hi hn⟩⟩
 · rw [heap_grow_old _ _ (by rw [hsz]; exact hb.lt)]
   unfold putRow mapBlock Sort.ahead
   unfold Blk at hb
   simp only [Array.getElem?_modify,if_true,hb,Option.map_some]
   rfl
 · simp [putCells,h3]
 · apply List.ext_getElem?
   intro j
   rw [Nat.mul_one,List.getElem?_take]
   by_cases hj:j < n
   · rw [if_pos hj,Array.getElem?_toList]
     unfold putCells ZL
     rw [Array.getElem?_mapIdx,Array.getElem?_eq_getElem (show j < cur.size by omega),List.getElem?_map,List.getElem?_eq_getElem (show j < L'.length by omega)]
     simp only [Option.map_some]
     rw [if_pos ⟨Nat.zero_le _,by simp; omega⟩,Nat.sub_zero,getElem!_pos L'.toArray j (by simp; omega)]
     simp
   rw [if_neg hj,List.getElem?_eq_none (by rw [zl_len]; omega)]
 rw [size_grow,hsz]
 exact Nat.le_add_right _ _
theorem own_put0 (h:w.ownsRow B 3 1 (.slice (some ⟨g,0,none⟩) n c) n (ZL L)) {L':List Int} (hl:L'.length=n) (q:Nat) :
  (putRow (Value.int .i64) (Sort.ahead w q) g 0 L'.toArray).ownsRow B 3 1 (.slice (some ⟨g,0,none⟩) n c) n (ZL L') ∧ Only (fun i=>i=g) w (putRow (Value.int .i64) (Sort.ahead w q) g 0 L'.toArray):=by
 have h0:=own_put h hl q #[]
 have e:grow (putRow (Value.int .i64) (Sort.ahead w q) g 0 L'.toArray) #[]=putRow (Value.int .i64) (Sort.ahead w q) g 0 L'.toArray:=by unfold grow; rw [Array.append_empty]
 rw [e] at h0
 exact h0
end
theorem insD_len (x:Int):∀ l:List Int,(insD x l).length ≤ l.length + 1
 | []=>Nat.le_refl _
 | y :: l=>by
  unfold insD
  split
  · simp
  split
  · simp
  have:=insD_len x l
  simp only [List.length_cons]
  omega
theorem vsL_len:∀ L:List Int,(vsL L).length ≤ L.length
 | []=>Nat.le_refl _
 | x :: L=>by
  have:=vsL_len L
  have:=insD_len x (vsL L)
  show (insD x (vsL L)).length ≤ L.length + 1
  omega
theorem sort_own (w:World) (B g n c:Nat) (L:List Int) (h:w.ownsRow B 3 1 (.slice (some ⟨g,0,none⟩) n c) n (ZL L)) (hn:n ≤ 100000) :
  Calls Tryz.prog 67 #[.slice (some ⟨g,0,none⟩) n c] w fun e w'=>e=.returned (.tuple #[]) ∧ w'.ownsRow B 3 1 (.slice (some ⟨g,0,none⟩) n c) n (ZL (sortL L)) ∧ Only (fun i=>i=g) w w':=by
 have hl:=own_len h
 obtain ⟨cur,hb,_⟩:=own_block47 h
 have h0:=Any.slices_Sort_int Tryz.sortI g 0 c L w (own_holds47 h) hb.lt (by omega)
 rw [hl] at h0
 refine h0.mono ?_
 rintro e w' ⟨rfl,q,os,rfl⟩
 exact ⟨rfl,own_put h (by show (sortL L).length=n; rw [sortL_len,hl]) q os⟩
theorem compact_own (w:World) (B g n c:Nat) (L:List Int) (h:w.ownsRow B 3 1 (.slice (some ⟨g,0,none⟩) n c) n (ZL (sortL L))) (hn:n ≤ 100000) :
  Calls Tryz.prog 69 #[.slice (some ⟨g,0,none⟩) n c] w fun e w'=>e=.returned (.slice (some ⟨g,0,none⟩) (vsL L).length c) ∧ ∃ Z,(vsL L ++ Z).length=n ∧ w'.ownsRow B 3 1 (.slice (some ⟨g,0,none⟩) n c) n (ZL (vsL L ++ Z)) ∧ Only (fun i=>i=g) w w':=by
 have hl:=own_len h
 obtain ⟨cur,hb,_,hnc,_⟩:=own_block47 h
 have h0:=Any.slices_Compact_int Tryz.compactI g 0 c (sortL L) w (own_holds47 h) (by omega) (by omega)
 rw [hl,compact_sortL] at h0
 refine h0.mono ?_
 rintro e w' ⟨rfl,q,rfl⟩
 have hle:=vsL_len L
 rw [sortL_len] at hl
 have hz:(vsL L ++ List.replicate (n - (vsL L).length) (0:Int)).length=n:=by rw [List.length_append,List.length_replicate]; omega
 exact ⟨rfl,_,hz,own_put0 h hz q⟩
theorem clone_own (w:World) (B g n c m:Nat) (L:List Int) (h:w.ownsRow B 3 1 (.slice (some ⟨g,0,none⟩) n c) n (ZL L)) (hn:n ≤ 100000) (hm:m ≤ n) :
  Calls Tryz.prog 68 #[.slice (some ⟨g,0,none⟩) m c] w fun e w'=>∃ v',e=.returned v' ∧ w'.ownsRow w.heap.size 3 1 v' m (ZL (L.take m)) ∧ Below w.heap.size w w':=by
 have hl:=own_len h
 refine (Any.slices_Clone_int Tryz.cloneI g 0 m c L w (by omega) (by omega) (fun j hj=>own_cell h hj)).mono ?_
 rintro e w' ⟨v',rfl,h1,_,h2⟩
 exact ⟨v',rfl,h1,h2⟩
theorem count_idx:∀ {V:List Int} {x:Int},V.Pairwise (· < ·) → x ∈ V → V.countP (· < x)=V.idxOf x
 | [],x,_,h=>by simp at h
 | y :: V,x,hp,h=>by
  obtain ⟨h1,h2⟩:=List.pairwise_cons.1 hp
  by_cases hxy:y=x
  · subst hxy
    rw [List.idxOf_cons_self,List.countP_eq_zero]
    intro z hz
    rcases List.mem_cons.1 hz with rfl | hz
    · simp
    have:=h1 z hz
    simp; omega
  have hx:x ∈ V:=by
   rcases List.mem_cons.1 h with e | e
   · exact absurd e.symm hxy
   exact e
  rw [List.countP_cons_of_pos (by have:=h1 x hx; simpa using this),count_idx h2 hx,List.idxOf_cons,beq_false_of_ne hxy]
  rfl
theorem search_own (w:World) (B g n c:Nat) (V:List Int) (x:Int) (h:w.ownsRow B 3 1 (.slice (some ⟨g,0,none⟩) n c) n (ZL V)) (hn:n ≤ 100000) (hV:V.Pairwise (· < ·)) (hx:x ∈ V) :
  Calls Tryz.prog 70 #[.slice (some ⟨g,0,none⟩) n c,.int .i64 x] w fun e w'=>e=.returned (.tuple #[.int .i64 (V.idxOf x:Int),.bool true]) ∧ Below w.heap.size w w':=by
 have hl:=own_len h
 have ht:V.take n=V:=by rw [← hl,List.take_length]
 have h0:=Any.slices_BinarySearch_int Tryz.searchI g 0 n c V x w (by omega) (by omega) (fun j hj=>own_cell h hj) (by rw [ht]; exact hV.imp fun h=>Int.le_of_lt h)
 rw [ht,count_idx hV hx] at h0
 refine h0.mono ?_
 rintro e w' ⟨rfl,q,rfl⟩
 refine ⟨by rw [show V.contains x=true by simpa using hx],?_⟩
 exact ⟨rfl,rfl,rfl,Nat.le_refl _,fun k _=>rfl⟩
end
section
def kN (T:List Tri):Nat:=(maxL (ofL T)).toNat
def lstOf (O:List Int) (i k:Nat):List Nat:=(List.range i).filter fun x=>decide (O.getD x 0=(k:Int))
def vtx (T:List Tri) (l:List Nat):List Int:=l.flatMap fun x=>[(tri T x).a,(tri T x).b,(tri T x).c]
def renT (V:List Int) (t:Tri):Tri:=⟨(V.idxOf t.a:Int),(V.idxOf t.b:Int),(V.idxOf t.c:Int)⟩
def partOf (T:List Tri) (k:Nat):PartV :=
 let l:=lstOf (ofL T) T.length k
 let V:=vsL (vtx T l)
 ⟨V.length,l.map (fun x=>renT V (tri T x)),V,l⟩
def part0 (l:List Nat):PartV:=⟨0,[],[],l⟩
section
variable {T:List Tri}
theorem maxL_from:∀ (L:List Int) (n:Int),n ≤ L.foldl (fun n k=>max n (k + 1)) n ∧ ∀ k ∈ L,k < L.foldl (fun n k=>max n (k + 1)) n
 | [],n=>⟨Int.le_refl _,fun k hk=>by cases hk⟩
 | x :: L,n=>by
  obtain ⟨h1,h2⟩:=maxL_from L (max n (x + 1))
  refine ⟨Int.le_trans (Int.le_max_left _ _) h1,fun k hk=>?_⟩
  rcases List.mem_cons.1 hk with rfl | hk
  · have:=Int.le_max_right n (k + 1)
    show k < List.foldl _ (max n (k + 1)) L
    omega
  exact h2 k hk
theorem maxL_gt {L:List Int} {k:Int} (h:k ∈ L):k < maxL L:=(maxL_from L 0).2 k h
theorem maxL_ge (L:List Int):0 ≤ maxL L:=(maxL_from L 0).1
theorem maxL_up:∀ (L:List Int) (n b:Int),n ≤ b → (∀ k ∈ L,k < b) → L.foldl (fun n k=>max n (k + 1)) n ≤ b
 | [],n,b,h,_=>h
 | x :: L,n,b,h,h2=>maxL_up L _ b (by have:=h2 x (by simp); simp only [Int.max_le]; exact ⟨h,by omega⟩) fun k hk=>h2 k (by simp [hk])
theorem kN_eq (T:List Tri):maxL (ofL T)=(kN T:Int):=by
 unfold kN
 have:=maxL_ge (ofL T)
 omega
theorem kN_le (T:List Tri):kN T ≤ T.length:=by
 have h:=maxL_up (ofL T) 0 (T.length:Int) (by omega) fun k hk=>by
  obtain ⟨x,hx,e⟩:=List.getElem_of_mem hk
  rw [ofL_len] at hx
  have h1:=ofL_in (T:=T) hx
  have h2:=countL_le (T:=T)
  rw [List.getD_eq_getElem?_getD,List.getElem?_eq_getElem (by rw [ofL_len]; exact hx)] at h1
  simp only [Option.getD_some] at h1
  omega
 have:=kN_eq T
 show kN T ≤ T.length
 unfold maxL at *
 omega
def ofN (T:List Tri) (x:Nat):Nat:=((ofL T).getD x 0).toNat
theorem ofN_eq {x:Nat} (hx:x < T.length):(ofL T).getD x 0=(ofN T x:Int):=by
 unfold ofN
 have:=(ofL_in (T:=T) hx).1
 omega
theorem ofN_lt {x:Nat} (hx:x < T.length):ofN T x < kN T:=by
 have h1:=ofN_eq (T:=T) hx
 have h2:(ofL T).getD x 0 ∈ ofL T:=by
  rw [List.getD_eq_getElem?_getD,List.getElem?_eq_getElem (by rw [ofL_len]; exact hx)]
  exact List.getElem_mem _
 have:=maxL_gt h2
 have:=kN_eq T
 omega
theorem lst_next {O:List Int} {i k:Nat}:lstOf O (i + 1) k=if O.getD i 0=(k:Int) then lstOf O i k ++ [i] else lstOf O i k:=by
 unfold lstOf
 rw [List.range_succ,List.filter_append]
 by_cases h:O.getD i 0=(k:Int)
 · rw [if_pos h,List.filter_cons_of_pos (by simpa using h)]; rfl
 rw [if_neg h,List.filter_cons_of_neg (by simpa using h)]; simp
theorem lst_mem {O:List Int} {i k x:Nat} (h:x ∈ lstOf O i k):x < i:=by
 unfold lstOf at h
 have:=(List.mem_filter.1 h).1
 simpa using this
theorem lst_len (O:List Int) (i k:Nat):(lstOf O i k).length ≤ i:=by
 unfold lstOf
 exact Nat.le_trans (List.length_filter_le _ _) (by simp)
theorem lst_step {x:Nat} (hx:x < T.length):updF (fun k=>part0 (lstOf (ofL T) x k)) (ofN T x) (part0 (lstOf (ofL T) x (ofN T x) ++ [x]))=fun k=>part0 (lstOf (ofL T) (x + 1) k):=by
 funext k
 have h:=ofN_eq hx
 by_cases hk:k=ofN T x
 · subst hk
   rw [updF_at,lst_next,if_pos h]
 rw [updF_ne _ _ hk,lst_next,if_neg (by omega)]
theorem of_used:∀ k,k ≤ T.length → ∀ j,j < (ofS T k).2 → ∃ x,x < T.length ∧ (ofS T k).1.getD x 0=(j:Int)
 | 0,_,j,hj=>absurd hj (Nat.not_lt_zero j)
 | k + 1,hk,j,hj=>by
  have h:=of_inv (T:=T) k (by omega)
  have ih:=of_used k (by omega)
  replace hj:j < (shellS T k (ofS T k)).2:=hj
  show ∃ x,x < T.length ∧ (shellS T k (ofS T k)).1.getD x 0=(j:Int)
  unfold shellS at hj ⊢
  by_cases h0:0 ≤ (ofS T k).1.getD k 0
  · rw [if_pos h0] at hj ⊢
    exact ih j hj
  rw [if_neg h0] at hj ⊢
  have hb:=first_bf h (show k < T.length by omega)
  have hs:∀ x,((ofS T k).1.set k ((ofS T k).2:Int)).getD x 0=if k=x then ((ofS T k).2:Int) else (ofS T k).1.getD x 0:=fun x=>getD_set (by rw [h.len]; omega)
  by_cases hjn:j=(ofS T k).2
  · refine ⟨k,by omega,?_⟩
    rw [bfsS_keep _ _ hb (x:=k) (by rw [hs,if_pos rfl]; omega),hs,if_pos rfl,hjn]
  obtain ⟨x,hx,e⟩:=ih j (by simp only at hj; omega)
  have hkx:k ≠ x:=fun e'=>by subst e'; omega
  refine ⟨x,hx,?_⟩
  rw [bfsS_keep _ _ hb (x:=x) (by rw [hs,if_neg hkx,e]; omega),hs,if_neg hkx,e]
theorem lst_pos {k:Nat} (hk:k < kN T):0 < (lstOf (ofL T) T.length k).length:=by
 have h1:maxL (ofL T) ≤ (countL T:Int):=maxL_up (ofL T) 0 _ (by omega) fun y hy=>by
  obtain ⟨x,hx,e⟩:=List.getElem_of_mem hy
  rw [ofL_len] at hx
  have h1:=(ofL_in (T:=T) hx).2
  rw [List.getD_eq_getElem?_getD,List.getElem?_eq_getElem (by rw [ofL_len]; exact hx)] at h1
  simp only [Option.getD_some] at h1
  omega
 have h2:=kN_eq T
 obtain ⟨x,hx,e⟩:=of_used (T:=T) T.length (Nat.le_refl _) k (by unfold countL at h1; omega)
 refine List.length_pos_of_mem (a:=x) ?_
 unfold lstOf
 exact List.mem_filter.2 ⟨by simpa using hx,decide_eq_true e⟩
def p2 (T:List Tri) (k:Nat):Nat → PartV:=fun j=>if j < k then partOf T j else part0 (lstOf (ofL T) T.length j)
theorem p2_zero (T:List Tri):p2 T 0=fun j=>part0 (lstOf (ofL T) T.length j):=by funext j; exact if_neg (Nat.not_lt_zero j)
theorem p2_at (T:List Tri) (k:Nat):p2 T k k=part0 (lstOf (ofL T) T.length k):=if_neg (Nat.lt_irrefl k)
theorem p2_next (T:List Tri) (k:Nat):updF (p2 T k) k (partOf T k)=p2 T (k + 1):=by
 funext j
 by_cases hj:j=k
 · subst hj; rw [updF_at]; exact (if_pos (Nat.lt_succ_self j)).symm
 rw [updF_ne _ _ hj]
 unfold p2
 by_cases h:j < k
 · rw [if_pos h,if_pos (by omega)]
 rw [if_neg h,if_neg (by omega)]
theorem updF_upd {α:Type} (f:Nat → α) (k:Nat) (a b:α):updF (updF f k a) k b=updF f k b:=by
 funext j
 by_cases hj:j=k
 · subst hj; rw [updF_at,updF_at]
 rw [updF_ne _ _ hj,updF_ne _ _ hj,updF_ne _ _ hj]
theorem vtx_snoc (T:List Tri) (l:List Nat) (x:Nat):vtx T (l ++ [x])=vtx T l ++ [(tri T x).a,(tri T x).b,(tri T x).c]:=by unfold vtx; rw [List.flatMap_append]; simp
theorem vtx_len (T:List Tri):∀ l:List Nat,(vtx T l).length=3 * l.length
 | []=>rfl
 | x :: l=>by
  have:=vtx_len T l
  unfold vtx at *
  rw [List.flatMap_cons,List.length_append,this]
  simp
  omega
theorem vtx_mem {l:List Nat} {x:Nat} (h:x ∈ l):(tri T x).a ∈ vtx T l ∧ (tri T x).b ∈ vtx T l ∧ (tri T x).c ∈ vtx T l:=by
 unfold vtx
 simp only [List.mem_flatMap]
 exact ⟨⟨x,h,by simp⟩,⟨x,h,by simp⟩,⟨x,h,by simp⟩⟩
end
theorem part_info:(Tryz.prog.info? 94).map (fun i=>(i.zero,i.size,i.bytes))=some (some (.agg #[.int .i64 0,.slice none 0 0,.slice none 0 0,.slice none 0 0]),4,80):=by kernel_rfl
theorem PAt.congr {w W:World} {gp K:Nat} {P P':Nat → PartV} {v:Nat → Value} (h:PAt w gp K P v W) (he:∀ i,i < K → P i=P' i):PAt w gp K P' v W:=by
 obtain ⟨cs,hc,h1,h2⟩:=h.blk
 exact ⟨⟨cs,hc,h1,fun i hi=>⟨by rw [← he i hi]; exact (h2 i hi).1,(h2 i hi).2⟩⟩,fun i r hi hr=>by rw [← he i hi]; exact h.own i r hi hr,h.apart,h.b⟩
theorem start_parts {W:World} {gp K:Nat} (hb:Blk W gp 94 (madeCells #[.int .i64 0,.slice none 0 0,.slice none 0 0,.slice none 0 0] (K * 4))):PAt W gp K (fun _=>part0 []) (fun _=>.slice none 0 0) W:=by
 have hc:∀ j,j < K * 4 → (madeCells #[.int .i64 0,.slice none 0 0,.slice none 0 0,.slice none 0 0] (K * 4))[j]?=some (if j % 4=0 then .int .i64 0 else .slice none 0 0):=fun j hj=>by
  have h4:=Nat.mod_lt j (show 4 > 0 by decide)
  unfold madeCells
  rw [Array.getElem?_map,Array.getElem?_range,if_pos hj]
  simp only [Option.map_some,List.size_toArray,List.length_cons,List.length_nil]
  rcases (by omega:j % 4=0 ∨ j % 4=1 ∨ j % 4=2 ∨ j % 4=3) with e | e | e | e <;> simp [e]
 refine ⟨⟨_,hb,size_madeCells _ _,fun i hi=>⟨?_,fun r hr=>?_⟩⟩,fun i r hi hr=>?_,fun i j hi hj hij b hb=>?_,Only.refl _ _⟩
 · rw [hc _ (by omega),if_pos (by omega)]; rfl
 · rw [hc _ (by omega),if_neg (by omega)]
 · rcases (by omega:r=0 ∨ r=1 ∨ r=2) with rfl | rfl | rfl <;> exact World.ownsRow_nil _ _ _ _
 simp [Value.ownBlock] at hb
theorem own_only {w W:World} {B gp n s:Nat} {e:TypeId} {v:Value} {xs:List Value} (h:w.ownsRow B e s v n xs) (hb:Only (fun i=>i=gp) w W) (hg:v.ownBlock ≠ some gp):W.ownsRow B e s v n xs :=
 own_same h fun k hk=>hb.block k (h.lt k hk).2 fun e=>hg (e ▸ hk)
theorem ofL_nat (T:List Tri):ofL T=natL ((List.range T.length).map (ofN T)):=by
 apply List.ext_getElem
 · rw [ofL_len]; simp [natL]
 intro i h1 h2
 rw [ofL_len] at h1
 have h:=ofN_eq (T:=T) h1
 rw [List.getD_eq_getElem?_getD,List.getElem?_eq_getElem (by rw [ofL_len]; exact h1)] at h
 simp only [Option.getD_some] at h
 rw [h]
 simp [natL]
theorem ofN_getD (T:List Tri) {i:Nat} (h:i < T.length):((List.range T.length).map (ofN T)).getD i 0=ofN T i:=by
 rw [List.getD_eq_getElem?_getD,List.getElem?_map,List.getElem?_range h]; rfl
theorem ir_cell {w:World} {B c x g:Nat} {L:List Nat} (h:IR w B (some ⟨g,0,none⟩) c (natL L)) (hx:x < L.length):w.cell? ⟨g,x,none⟩=some (.int .i64 (L.getD x 0:Nat)):=by
 obtain ⟨g',e,hc⟩:=ir_at h hx
 injection e with e
 injection e with e
 subst e
 exact hc
theorem triQ_at {w:World} {B c x:Nat} {ad:Addr} {T:List Tri} (h:LRow w B (some ad) c T) (hx:x < T.length):TriQ w (ad.add (x * 3)) (tri T x):=by
 obtain ⟨ad',e,hq⟩:=h.tris.triQ (Nat.le_refl _) hx
 injection e with e
 subst e
 exact hq
theorem reads_tri {w:World} {q:Addr} {t:Tri} (h:TriQ w q t):Reads w w.heap.size 1 (some q) 3 [.int .i64 t.a,.int .i64 t.b,.int .i64 t.c]:=by
 refine ⟨rfl,fun _=>⟨q,rfl,h.lt,fun j u hj=>?_⟩⟩
 have hj3:j < 3:=by have:=(List.getElem?_eq_some_iff.1 hj).1; simpa using this
 rcases (by omega:j=0 ∨ j=1 ∨ j=2) with rfl | rfl | rfl
 · rw [← hj,show q.add 0=q by simp [Addr.add]]; exact h.c.c0
 · rw [← hj]; exact h.c.c1
 rw [← hj]; exact h.c.c2
theorem own_shaped {w:World} {base n:Nat} {e:TypeId} {size:Nat} {v:Value} {xs:List Value} (h:w.ownsRow base e size v n xs) (hn:0 < n):∃ g c,v=.slice (some ⟨g,0,none⟩) n c:=by
 obtain ⟨g,c,hv,_⟩:=World.ownsRow.form h hn
 exact ⟨g,c,hv⟩
theorem lrow_some {w:World} {B c:Nat} {A:Option Addr} {T:List Tri} (h:LRow w B A c T) (hT:0 < T.length):∃ ad,A=some ad:=by
 obtain ⟨ad,e,_⟩:=h.tris.triQ (Nat.le_refl _) hT
 exact ⟨ad,e⟩
theorem own_low {w:World} {B B' n s:Nat} {e:TypeId} {v:Value} {xs:List Value} (h:w.ownsRow B' e s v n xs) (hB:B ≤ B'):w.ownsRow B e s v n xs:=by
 refine ⟨h.1,?_⟩
 rcases h.2 with h0 | ⟨g,cap,cur,h1,h2,h3⟩
 · exact .inl h0
 exact .inr ⟨g,cap,cur,h1,Nat.le_trans hB h2,h3⟩
section
variable {w W W':World} {gp K k g c n:Nat} {P:Nat → PartV} {v:Nat → Value}
theorem PAt.turn (h:PAt w gp K P v W) (hk:k < K) {L':List Int} (hv:v (3 * k + 1)=.slice (some ⟨g,0,none⟩) n c) (hn:(P k).v.length=n) (hl:L'.length=n) (hp:0 < n)
  (ho:W'.ownsRow w.heap.size 3 1 (.slice (some ⟨g,0,none⟩) n c) n (ZL L')) (hb:Only (fun i=>i=g) W W'):PAt w gp K (updF P k ⟨(P k).n,(P k).t,L',(P k).l⟩) v W':=by
 have hg:w.heap.size ≤ g:=(ho.lt g (by simp [Value.ownBlock])).1
 refine h.inplace hk (r:=1) (by decide) (fun s hs hne=>?_) rfl (fun i hi hne=>?_) ?_ ?_
 · rcases (by omega:s=0 ∨ s=2) with rfl | rfl <;> exact ⟨rfl,rfl⟩
 · refine hb.block i hi fun e=>hne ?_
   rw [hv,e]; simp [Value.ownBlock]
 · rw [hv]
   show W'.ownsRow w.heap.size 3 1 _ L'.length (ZL L')
   rw [hl]; exact ho
 exact h.b.trans_ hb fun i hi e=>by omega
theorem PAt.moved (h:PAt w gp K P v W) (hk:k < K) {L':List Int} {A:Option Addr} (hl:L'.length=n) (ho:W'.ownsRow W.heap.size 3 1 (.slice A n c) n (ZL L')) (hb:Below W.heap.size W W') :
  PAt w gp K (updF P k ⟨(P k).n,(P k).t,L',(P k).l⟩) (updF v (3 * k + 1) (.slice A n c)) (W'.setCell ⟨gp,k * 4 + 2,none⟩ (.slice A n c)):=by
 refine h.swap hk (r:=1) (by decide) (fun s hs hne=>?_) rfl (fun i hi hne=>hb.block i hi) ?_ (fun x hx=>.inr (ho.lt x hx).1) (h.b.trans (Only.of_below hb _))
 · rcases (by omega:s=0 ∨ s=2) with rfl | rfl <;> exact ⟨rfl,rfl⟩
 show W'.ownsRow w.heap.size 3 1 _ L'.length (ZL L')
 rw [hl]
 exact own_low ho h.b.size
end
theorem PAt.farX {w W:World} {gp K b i:Nat} {P:Nat → PartV} {v:Nat → Value} (h:PAt w gp K P v W) (hne:∀ q,q < 3 * K → (v q).ownBlock ≠ some b) (hg:b ≠ gp) (hb:w.heap.size ≤ b) (u:Value):PAt w gp K P v (W.setCell ⟨b,i,none⟩ u) :=
 h.keep (fun j hj y hy=>Below.heap_setCell _ _ _ _ fun e=>hne j hj (by rw [hy,e])) (Below.heap_setCell _ _ _ _ (Ne.symm hg)) (h.b.setCell (p:=⟨b,i,none⟩) (.inr hb) _)
theorem vsL_pos {L:List Int} (h:0 < L.length):0 < (vsL L).length:=by
 obtain ⟨x,hx⟩:=List.exists_mem_of_length_pos h
 exact List.length_pos_of_mem (mem_vsL.2 hx)
end
section
def overR (T:List Tri) (d:Nat) (s:List Nat):List Nat :=
 match oppF T d with
 | none=>s
 | some o=>if o / 3 ∈ s.map (· / 3) then s else s ++ [o]
def stepR (T:List Tri) (c:Nat) (s:List Nat):List Nat:=overR T (pvc c) (overR T (nxc c) s)
def bfsR (T:List Tri):Nat → Nat → List Nat → List Nat
 | 0,_,s=>s
 | f + 1,i,s=>if i < s.length then bfsR T f (i + 1) (stepR T (s.getD i 0) s) else s
def rootC (T:List Tri) (c:Nat):List Nat:=bfsR T (T.length + 1) 0 (overR T c [c])
def putW (o:List Int) (v:Int):List Int:=if v ∈ o then o else o ++ [v]
def putX (T:List Tri) (o:List Int) (c:Nat):List Int:=putW (putW (putW o (cv T c)) (cv T (nxc c))) (cv T (pvc c))
def oldC (T:List Tri) (cs:List Nat):List Int:=cs.foldl (putX T) []
def triR (T:List Tri) (o:List Int) (c:Nat):Tri:=⟨(o.idxOf (cv T c):Int),(o.idxOf (cv T (nxc c)):Int),(o.idxOf (cv T (pvc c)):Int)⟩
def rootT (T:List Tri) (c:Nat):List Tri:=(rootC T c).map (triR T (oldC T (rootC T c)))
def rootO (T:List Tri) (c:Nat):List Int:=oldC T (rootC T c)
section
variable {T:List Tri}
structure RFi (T:List Tri) (s:List Nat):Prop where
 lt:∀ x ∈ s,x < 3 * T.length
 nd:(s.map (· / 3)).Nodup
theorem RFi.short {s:List Nat} (h:RFi T s):s.length ≤ T.length:=by
 have:=nodup_leN T.length h.nd fun x hx=>by
  obtain ⟨c,hc,rfl⟩:=List.mem_map.1 hx
  have:=h.lt c hc
  omega
 rw [List.length_map] at this
 exact this
theorem overR_fi {s:List Nat} (h:RFi T s) (d:Nat):RFi T (overR T d s):=by
 unfold overR
 cases ho:oppF T d with
 | none=>exact h
 | some o =>
  dsimp only
  have hl:=(facing_some ho).1
  by_cases hm:o / 3 ∈ s.map (· / 3)
  · rw [if_pos hm]; exact h
  rw [if_neg hm]
  refine ⟨fun x hx=>?_,?_⟩
  · rcases List.mem_append.1 hx with hx | hx
    · exact h.lt x hx
    rw [List.mem_singleton.1 hx]; exact hl
  rw [List.map_append,List.nodup_append]
  refine ⟨h.nd,by simp,fun a ha b hb e=>hm ?_⟩
  have:b=o / 3:=by simpa using hb
  rw [← this,← e]; exact ha
theorem stepR_fi {s:List Nat} (h:RFi T s) (c:Nat):RFi T (stepR T c s):=overR_fi (overR_fi h _) _
theorem bfsR_fi:∀ (f i:Nat) {s:List Nat},RFi T s → RFi T (bfsR T f i s)
 | 0,_,_,h=>h
 | f + 1,i,s,h=>by
  unfold bfsR
  split
  · exact bfsR_fi f (i + 1) (stepR_fi h _)
  exact h
theorem start_fi {c:Nat} (hc:c < 3 * T.length):RFi T (overR T c [c]):=overR_fi ⟨fun x hx=>by rw [List.mem_singleton.1 hx]; exact hc,by simp⟩ c
theorem rootC_fi {c:Nat} (hc:c < 3 * T.length):RFi T (rootC T c):=bfsR_fi _ _ (start_fi hc)
theorem overR_more (d:Nat) (s:List Nat):∃ l,overR T d s=s ++ l:=by
 unfold overR
 cases oppF T d with
 | none=>exact ⟨[],by simp⟩
 | some o =>
  dsimp only
  split
  · exact ⟨[],by simp⟩
  exact ⟨[o],rfl⟩
theorem stepR_more (c:Nat) (s:List Nat):∃ l,stepR T c s=s ++ l:=by
 obtain ⟨l,h⟩:=overR_more (T:=T) (nxc c) s
 obtain ⟨l',h'⟩:=overR_more (T:=T) (pvc c) (overR T (nxc c) s)
 exact ⟨l ++ l',by unfold stepR; rw [h',h,List.append_assoc]⟩
theorem more_at {i:Nat} {s s' l:List Nat} (h:s'=s ++ l) (hi:i < s.length):i < s'.length ∧ s'.getD i 0=s.getD i 0:=by
 rw [h,List.length_append,List.getD_eq_getElem?_getD,List.getD_eq_getElem?_getD,List.getElem?_append_left hi]
 exact ⟨by omega,rfl⟩
theorem bfsR_stop {f i:Nat} {s:List Nat} (h:s.length ≤ i):bfsR T f i s=s:=by
 cases f with
 | zero=>rfl
 | succ f=>unfold bfsR; rw [if_neg (by omega)]
theorem bfsR_step {f i:Nat} {s:List Nat} (h:i < s.length):bfsR T (f + 1) i s=bfsR T f (i + 1) (stepR T (s.getD i 0) s):=by rw [bfsR,if_pos h]
theorem bfsR_more:∀ (f i:Nat) (s:List Nat),∃ l,bfsR T f i s=s ++ l
 | 0,_,s=>⟨[],by simp [bfsR]⟩
 | f + 1,i,s=>by
  unfold bfsR
  split
  · obtain ⟨l,h⟩:=bfsR_more f (i + 1) (stepR T (s.getD i 0) s)
    obtain ⟨l',h'⟩:=stepR_more (T:=T) (s.getD i 0) s
    exact ⟨l' ++ l,by rw [h,h',List.append_assoc]⟩
  exact ⟨[],by simp⟩
theorem rootC_head (c:Nat):∃ l,rootC T c=c :: l:=by
 obtain ⟨l,h⟩:=bfsR_more (T:=T) (T.length + 1) 0 (overR T c [c])
 obtain ⟨l',h'⟩:=overR_more (T:=T) c [c]
 exact ⟨l' ++ l,by unfold rootC; rw [h,h']; rfl⟩
theorem putW_more (o:List Int) (v:Int):∃ l,putW o v=o ++ l:=by
 unfold putW
 split
 · exact ⟨[],by simp⟩
 exact ⟨[v],rfl⟩
theorem putW_mem (o:List Int) (v:Int):v ∈ putW o v:=by
 unfold putW
 split
 · assumption
 simp
theorem putW_nd {o:List Int} (h:o.Nodup) (v:Int):(putW o v).Nodup:=by
 unfold putW
 split
 · exact h
 rename_i hm
 rw [List.nodup_append]
 exact ⟨h,by simp,fun a ha b hb e=>hm (by rw [List.mem_singleton.1 hb] at e; rw [← e]; exact ha)⟩
theorem putX_more (o:List Int) (c:Nat):∃ l,putX T o c=o ++ l:=by
 obtain ⟨a,h1⟩:=putW_more o (cv T c)
 obtain ⟨b,h2⟩:=putW_more (putW o (cv T c)) (cv T (nxc c))
 obtain ⟨d,h3⟩:=putW_more (putW (putW o (cv T c)) (cv T (nxc c))) (cv T (pvc c))
 exact ⟨a ++ b ++ d,by unfold putX; rw [h3,h2,h1]; simp⟩
theorem oldC_snoc (cs:List Nat) (c:Nat):oldC T (cs ++ [c])=putX T (oldC T cs) c:=by unfold oldC; rw [List.foldl_append]; rfl
theorem oldC_take {cs:List Nat} {k c:Nat} (h:cs[k]?=some c):oldC T (cs.take (k + 1))=putX T (oldC T (cs.take k)) c:=by
 obtain ⟨hl,he⟩:=List.getElem?_eq_some_iff.1 h
 rw [List.take_succ_eq_append_getElem hl,he,oldC_snoc]
theorem oldC_more (cs l:List Nat):∃ l',oldC T (cs ++ l)=oldC T cs ++ l':=by
 refine snocInd (P:=fun l=>∃ l',oldC T (cs ++ l)=oldC T cs ++ l') ⟨[],by simp⟩ (fun l c ih=>?_) l
 obtain ⟨l',h⟩:=ih
 obtain ⟨l2,h2⟩:=putX_more (T:=T) (oldC T (cs ++ l)) c
 exact ⟨l' ++ l2,by rw [← List.append_assoc,oldC_snoc,h2,h,List.append_assoc]⟩
theorem oldC_pre {cs:List Nat} (k:Nat):∃ l',oldC T cs=oldC T (cs.take k) ++ l':=by
 obtain ⟨l',h⟩:=oldC_more (T:=T) (cs.take k) (cs.drop k)
 rw [List.take_append_drop] at h
 exact ⟨l',h⟩
theorem oldC_nd (cs:List Nat):(oldC T cs).Nodup:=by
 refine snocInd (P:=fun cs=>(oldC T cs).Nodup) List.nodup_nil (fun l c ih=>?_) cs
 rw [oldC_snoc]
 exact putW_nd (putW_nd (putW_nd ih _) _) _
theorem oldC_in {m:Nat} (hs:SurfE m T) {cs:List Nat} (h:∀ c ∈ cs,c < 3 * T.length):∀ v ∈ oldC T cs,0 ≤ v ∧ v < (m:Int):=by
 refine snocInd (P:=fun cs=>(∀ c ∈ cs,c < 3 * T.length) → ∀ v ∈ oldC T cs,0 ≤ v ∧ v < (m:Int)) (fun _ v hv=>by cases hv) (fun l c ih hh v hv=>?_) cs h
 have hc:c < 3 * T.length:=hh c (by simp)
 rw [oldC_snoc] at hv
 have hp:∀ (o:List Int) (u:Int),v ∈ putW o u → v ∈ o ∨ v=u:=fun o u hv=>by
  unfold putW at hv
  split at hv
  · exact .inl hv
  simpa using hv
 rcases hp _ _ hv with hv | rfl
 · rcases hp _ _ hv with hv | rfl
   · rcases hp _ _ hv with hv | rfl
     · exact ih (fun c hc=>hh c (by simp [hc])) v hv
     exact cv_ok hs.ok hc
   exact cv_ok hs.ok (nxc_lt hc)
 exact cv_ok hs.ok (pvc_lt hc)
theorem idx_more {o o' l:List Int} (h:o'=o ++ l) {v:Int} (hv:v ∈ o):o'.idxOf v=o.idxOf v:=by rw [h,List.idxOf_append,if_pos hv]
theorem oldC_len (cs:List Nat):(oldC T cs).length ≤ 3 * cs.length:=by
 refine snocInd (P:=fun cs=>(oldC T cs).length ≤ 3 * cs.length) (Nat.le_refl _) (fun l c ih=>?_) cs
 have hp:∀ (o:List Int) (u:Int),(putW o u).length ≤ o.length + 1:=fun o u=>by
  unfold putW
  split
  · omega
  simp
 rw [oldC_snoc,List.length_append,List.length_singleton]
 unfold putX
 have h1:=hp (putW (putW (oldC T l) (cv T c)) (cv T (nxc c))) (cv T (pvc c))
 have h2:=hp (putW (oldC T l) (cv T c)) (cv T (nxc c))
 have h3:=hp (oldC T l) (cv T c)
 omega
end
end
section
def inF (s:List Nat):Int → Option Value:=fun x=>if x ∈ natL (s.map (· / 3)) then some (.bool true) else none
theorem mem_natL {q:Nat} {L:List Nat}:(q:Int) ∈ natL L ↔ q ∈ L:=by
 unfold natL
 rw [List.mem_map]
 exact ⟨fun ⟨y,hy,e⟩=>(show y=q by omega) ▸ hy,fun h=>⟨q,h,rfl⟩⟩
theorem natL_append (L L':List Nat):natL (L ++ L')=natL L ++ natL L':=by unfold natL; rw [List.map_append]
theorem inF_some {s:List Nat} {q:Nat} (h:q ∈ s.map (· / 3)):inF s (q:Int)=some (.bool true):=by unfold inF; rw [if_pos (mem_natL.2 h)]
theorem inF_none {s:List Nat} {q:Nat} (h:q ∉ s.map (· / 3)):inF s (q:Int)=none:=by unfold inF; rw [if_neg (fun e=>h (mem_natL.1 e))]
theorem inF_snoc (s:List Nat) (o:Nat):(fun y=>if y=((o / 3:Nat):Int) then some (Value.bool true) else inF s y)=inF (s ++ [o]):=by
 funext y
 unfold inF
 rw [List.map_append,natL_append]
 by_cases h:y=((o / 3:Nat):Int)
 · rw [if_pos h,if_pos (List.mem_append_right _ (by rw [h]; simp [natL]))]
 rw [if_neg h]
 by_cases h2:y ∈ natL (s.map (· / 3))
 · rw [if_pos h2,if_pos (List.mem_append_left _ h2)]
 rw [if_neg h2,if_neg]
 intro hz
 rcases List.mem_append.1 hz with hz | hz
 · exact h2 hz
 exact h (by simpa [natL] using hz)
structure RAt (w:World) (g m:Nat) (T:List Tri) (b2 b7 b8 bm:Nat) (s:List Nat) (W:World):Prop where
 t:TabN w g m T
 k2:Blk W b2 25 #[.pointer (some ⟨g,0,none⟩)]
 k7:Blk W b7 144 #[.map (some bm)]
 k8:∃ (A:Option Addr) (c:Nat),Blk W b8 30 #[.slice A s.length c] ∧ IR W w.heap.size A c (natL s)
 mp:MapI Tryz.prog 3 W bm s.length (inF s)
 ge:w.heap.size ≤ b2 ∧ w.heap.size ≤ b7 ∧ w.heap.size ≤ b8 ∧ w.heap.size ≤ bm
 b:Below w.heap.size w W
section
variable {w W W':World} {g m b2 b7 b8 bm:Nat} {T:List Tri} {s:List Nat}
theorem RAt.below (h:RAt w g m T b2 b7 b8 bm s W) (hb:Below W.heap.size W W'):RAt w g m T b2 b7 b8 bm s W':=by
 obtain ⟨A,c,h1,h2⟩:=h.k8
 exact ⟨h.t,h.k2.below hb h.k2.lt,h.k7.below hb h.k7.lt,⟨A,c,h1.below hb h1.lt,h2.below hb⟩,h.mp.below hb h.mp.lt,h.ge,bw_call h.b hb⟩
theorem RAt.drew (h:RAt w g m T b2 b7 b8 bm s W):RAt w g m T b2 b7 b8 bm s W.drew:=h.below (bw_drew (Below.refl _ _))
theorem RAt.tab (h:RAt w g m T b2 b7 b8 bm s W):TabN W g m T:=h.t.below h.b
end
def Kept2 (W W':World):Prop:=∀ k t cs,Blk W k t cs → t ≠ 3 → t ≠ 30 → Blk W' k t cs
theorem Kept2.of_below {W W':World} (h:Below W.heap.size W W'):Kept2 W W':=fun k t cs hb _ _=>hb.below h hb.lt
theorem Kept2.trans {a b c:World} (h:Kept2 a b) (h':Kept2 b c):Kept2 a c:=fun k t cs hb h1 h2=>h' k t cs (h k t cs hb h1 h2) h1 h2
theorem zero_bool47 (w:World):(zeroValue 4).run Tryz.prog w=.ok (.bool false) w:=by kernel_rfl
attribute [local irreducible] Blk World.alloc World.setCell World.cell? World.frozen? MapV MapI
theorem over_any (g m b2 b7 b8 bm:Nat) (T:List Tri) (s:List Nat) (d:Nat) (w W:World) (hd:d < 3 * T.length) (hf:RFi T s) (h:RAt w g m T b2 b7 b8 bm s W) :
  Calls Tryz.prog 95 #[.int .i64 (d:Int),.pointer (some ⟨b2,0,none⟩),.pointer (some ⟨b7,0,none⟩),.pointer (some ⟨b8,0,none⟩)] W (fun e W'=>e=.returned (.tuple #[]) ∧ RAt w g m T b2 b7 b8 bm (overR T d s) W' ∧ Kept2 W W'):=by
 obtain ⟨i0,hi0,hz0,hz1,hz2⟩:=info_parts int_infoC
 obtain ⟨A,c,h1,h2⟩:=h.k8
 have H:=jJ h
 have H8:=jJ h1
 have HI:=jJ h2
 have HF:=jJ hf
 have hn1000:=h.t.n
 have hsl:=hf.short
 have c2:=h.k2.cell 0
 have c7:=h.k7.cell 0
 have c8:=h1.cell 0
 simp at c2 c7 c8
 have HOP:Hid (Calls Tryz.prog 58 #[.pointer (some ⟨g,0,none⟩),.int .i64 (d:Int)] W (IntPost W (optI (oppF T d)))):=jJ (h.tab.opp hd)
 clear h h1 h2 hf
 cases ho:oppF T d with
 | none =>
  have HZ:Hid (overR T d s=s):=jJ (by unfold overR; rw [ho])
  rw [ho] at HOP
  have hop:optI none=-1:=rfl
  rw [hop] at HOP
  clear ho hop
  go_enter Tryz.func95,Tryz.ntmps95
  go_wp2_with fail
  refine HOP.out.mono ?_
  rintro e w5 ⟨rfl,hb⟩
  have H5:=jJ (H.out.below hb)
  have HKP:=jJ (Kept2.of_below hb)
  clear hb c2 c7 c8 H8 HI
  go_wp2_with fail
  exact bodyPost_end (results_none rfl _ _ _) rfl ⟨rfl,by rw [HZ.out]; exact H5.out,HKP.out⟩
 | some o =>
  have hoT:=(facing_some ho).1
  have HZ:Hid (overR T d s=if o / 3 ∈ s.map (· / 3) then s else s ++ [o]):=jJ (by unfold overR; rw [ho])
  rw [ho] at HOP
  have hop:optI (some o)=(o:Int):=rfl
  rw [hop] at HOP
  have HFN:=jJ (overR_fi HF.out d)
  obtain ⟨q,hq⟩:=jX (o / 3)
  have hqd:Int.tdiv (o:Int) 3=(q:Int):=by rw [hq]; exact tdiv_nat o 3
  have hqT:q < T.length:=by omega
  have HQ:=jJ hq
  rw [← hq] at HZ
  have hwq:IntKind.i64.wrap (q:Int)=(q:Int):=IntWalk.i64_in _ (by omega)
  clear ho hop hq
  have hqw:(Lit.int .i64 (q:Int)).wf=true:=wf_small (by omega) (by omega)
  go_enter Tryz.func95,Tryz.ntmps95
  go_wp2_with fail
  refine HOP.out.mono ?_
  rintro e w5 ⟨rfl,hb⟩
  have H5:=jJ (H.out.below hb)
  have HKP:=jJ (Kept2.of_below hb)
  have h85:=H8.out.below hb H8.out.lt
  have HI5:=jJ (HI.out.below hb)
  have H85:=jJ h85
  have hlook:=H5.out.mp.look Tryz.underlying3 Tryz.underlying144 (zero_bool47 w5) hqw false
  clear hb c2 c7 c8 H8 HI HOP H h85
  have c7:=H5.out.k7.cell 0
  simp at c7
  by_cases hm:q ∈ s.map (· / 3)
  · rw [inF_some hm] at hlook
    rw [if_pos hm] at HZ
    simp only [Option.getD_some,Bool.false_eq_true,if_false] at hlook
    clear hm
    go_wp2_with fail
    exact bodyPost_end (results_none rfl _ _ _) rfl ⟨rfl,by rw [HZ.out]; exact H5.out,HKP.out⟩
  rw [inF_none hm] at hlook
  rw [if_neg hm] at HZ
  simp only [Option.getD_none,Bool.false_eq_true,if_false] at hlook
  obtain ⟨es,ck,hst,hmp⟩:=H5.out.mp.store Tryz.underlying3 Tryz.underlying144 (by unfold maxLen; omega) hqw (.bool true)
  rw [inF_none hm] at hmp
  rw [show (q:Int)=((o / 3:Nat):Int) by rw [HQ.out],inF_snoc] at hmp
  simp only [Option.isSome_none,Bool.false_eq_true,if_false] at hmp
  have HMP:=jJ hmp
  have hne8:b8 ≠ bm:=fun e=>H5.out.mp.ne_blk H85.out e.symm
  have hne7:b7 ≠ bm:=fun e=>H5.out.mp.ne_blk H5.out.k7 e.symm
  have hne2:b2 ≠ bm:=fun e=>H5.out.mp.ne_blk H5.out.k2 e.symm
  clear hm hmp
  go_upto_region 3 with (fail)
  have K2:=jJ (H5.out.k2.setBlock hne2 (.map es ck))
  have K7:=jJ (H5.out.k7.setBlock hne7 (.map es ck))
  have K8:=jJ (H85.out.setBlock hne8 (.map es ck))
  have HB6:=jJ (bw_setBlock H5.out.b H5.out.ge.2.2.2 (.map es ck))
  have HI6:Hid (IR (ChangeMaps.setBlock w5 bm (.map es ck)) w.heap.size A c (natL s)):=jJ (own_same HI5.out fun k hk=>heap_setBlock_ne w5 bm _ fun e=>by
   obtain ⟨ds,hd⟩:=own_blk HI5.out hk
   exact H5.out.mp.ne_blk hd e.symm)
  have HKQ:Hid (Kept2 w5 (ChangeMaps.setBlock w5 bm (.map es ck))):=jJ fun k t cs hb _ _=>hb.setBlock (fun e=>H5.out.mp.ne_blk (e ▸ hb) rfl) _
  generalize ChangeMaps.setBlock w5 bm (.map es ck)=w6 at *
  have HT:=H5.out.t
  have HGE:=jJ H5.out.ge
  clear c7 hlook hst hne8 hne7 hne2 H5 H85 HI5
  have c8:=K8.out.cell 0
  have cf8:=K8.out.frozen 0
  simp at c8
  go_wp2_with (at_builtin; go_must (refine wpList_append_sl _ rfl (.tmp 21) (.tmp 23) _ rfl w.heap.size 3 i0 _ 1 8 Tryz.underlying30 hi0 hz0 hz1 hz2 rfl (by omega) (.slice A s.length c) s.length (ZL (natL s)) rfl (own_same (ir_nat HI6.out) fun k hk=>Below.heap_alloc _ _ _ ((ir_nat HI6.out).lt k hk).2) (w6.heap.size + 1) (some ⟨w6.heap.size,0,none⟩) 1 1 [.int .i64 (o:Int)] rfl (reads_new w6 #[.int .i64 (o:Int)] 3 1 1 rfl) (by simp [Value.oneCell']) (by simp only [maxLen]; omega) (by omega) (by rw [World.size_alloc]; have:=HB6.out.size; omega) ?_); intro A7 c9 w7 hown7 hg7 hat7; have k8:=(K8.out.alloc (.cells #[.int .i64 (o:Int)] 3)).grown hg7 (fun e=>own_blk_ne (ir_nat HI6.out) K8.out (by decide) e.symm); have HK8:=jJ k8; have z0:=k8.cell 0; have z1:=k8.frozen 0; simp at z0; have HO7:=jJ hown7; have HG7:=jJ hg7; clear k8 hown7 hg7 hat7 c8 cf8)
  refine bodyPost_end (results_none rfl _ _ _) rfl ⟨rfl,?_⟩
  have hne:∀ k t cs,t ≠ 3 → Blk w6 k t cs → some k ≠ (Value.slice A s.length c).ownBlock:=fun k t cs ht hb e=>own_blk_ne (ir_nat HI6.out) hb (Ne.symm ht) e.symm
  have hrw:=nat_ir HO7.out rfl (rfl:s ++ [o]=s ++ [o])
  rw [HZ.out]
  refine ⟨?_,(HKP.out.trans HKQ.out).trans fun k t cs hb h1 h2=>((hb.alloc _).grown HG7.out (hne _ _ _ h1 hb)).far (p:=⟨b8,0,none⟩) (fun e=>hb.ne_ K8.out h2 e) _⟩
  refine ⟨HT,?_,?_,⟨A7,c9,?_,?_⟩,?_,HGE.out,?_⟩
  · exact ((K2.out.alloc _).grown HG7.out (hne _ _ _ (by decide) K2.out)).far (p:=⟨b8,0,none⟩) (fun e=>K2.out.ne_ K8.out (by decide) e) _
  · exact ((K7.out.alloc _).grown HG7.out (hne _ _ _ (by decide) K7.out)).far (p:=⟨b8,0,none⟩) (fun e=>K7.out.ne_ K8.out (by decide) e) _
  · rw [List.length_append,List.length_singleton]
    simpa using HK8.out.set_ 0 (.slice A7 (s.length + 1) c9)
  · refine own_same hrw fun k hk=>?_
    obtain ⟨ds,hd⟩:=own_blk hrw hk
    exact Below.heap_setCell _ _ _ _ (hd.ne_ HK8.out (by decide))
  · rw [List.length_append,List.length_singleton]
    refine ((HMP.out.alloc _).grown HG7.out (fun e=>?_)).setCell (p:=⟨b8,0,none⟩) (HK8.out.cell 0) _
    obtain ⟨ds,hd⟩:=own_blk (ir_nat HI6.out) e.symm
    exact HMP.out.ne_blk hd rfl
  exact ((bw_alloc HB6.out _).grown HG7.out (by rw [World.size_alloc]; have:=HB6.out.size; omega) (fun k hk=>((ir_nat HI6.out).lt k hk).1)).setCell (p:=⟨b8,0,none⟩) HGE.out.2.2.1 _
end
section
theorem blk_same {w w':World} {g:Nat} {t:TypeId} {cs:Array Value} (h:Blk w g t cs) (h':Blk w' g t cs):w'.heap[g]?=w.heap[g]?:=h'.trans h.symm
def nowF (o:List Int):Int → Option Value:=fun v=>if v ∈ o then some (.int .i64 (o.idxOf v:Int)) else none
theorem nowF_snoc {o:List Int} {v:Int} (h:v ∉ o):(fun y=>if y=v then some (Value.int .i64 (o.length:Int)) else nowF o y)=nowF (o ++ [v]):=by
 funext y
 unfold nowF
 by_cases hy:y=v
 · subst hy
   rw [if_pos rfl,if_pos (by simp),List.idxOf_append,if_neg h]
   simp
 rw [if_neg hy]
 by_cases hm:y ∈ o
 · rw [if_pos hm,if_pos (by simp [hm]),List.idxOf_append,if_pos hm]
 rw [if_neg hm,if_neg (by simp [hm,hy])]
def dN (c:Nat) (j:Nat):Nat:=if j=0 then c else if j=1 then nxc c else pvc c
def oldN (T:List Tri) (c:Nat) (o:List Int):Nat → List Int
 | 0=>o
 | j + 1=>putW (oldN T c o j) (cv T (dN c j))
theorem oldN_three (T:List Tri) (c:Nat) (o:List Int):oldN T c o 3=putX T o c:=rfl
def ixN (T:List Tri) (c:Nat) (O:List Int) (i:Nat):Int:=(O.idxOf (cv T (dN c i)):Int)
def xN (T:List Tri) (c:Nat) (O:List Int) (j:Nat):Array Value:=#[.int .i64 (if 0 < j then ixN T c O 0 else 0),.int .i64 (if 1 < j then ixN T c O 1 else 0),.int .i64 (if 2 < j then ixN T c O 2 else 0)]
theorem xN_set (T:List Tri) (c:Nat) (O:List Int) {j:Nat} (h:j < 3):(xN T c O j).setIfInBounds j (.int .i64 (ixN T c O j))=xN T c O (j + 1):=by
 rcases (by omega:j=0 ∨ j=1 ∨ j=2) with rfl | rfl | rfl <;> simp [xN]
theorem xN_at (T:List Tri) (c:Nat) (O:List Int) {j:Nat} (h:j < 3):∃ z,(xN T c O j)[j]?=some (.int .i64 z):=by
 rcases (by omega:j=0 ∨ j=1 ∨ j=2) with rfl | rfl | rfl <;> exact ⟨_,rfl⟩
theorem dN_lt {c n:Nat} (h:c < 3 * n) (j:Nat):dN c j < 3 * n:=by
 unfold dN
 split
 · exact h
 split
 · exact nxc_lt h
 exact pvc_lt h
theorem oldN_more (T:List Tri) (c:Nat) (o:List Int):∀ j i,∃ l,oldN T c o (j + i)=oldN T c o j ++ l
 | j,0=>⟨[],by simp⟩
 | j,i + 1=>by
  obtain ⟨l,h⟩:=oldN_more T c o j i
  obtain ⟨l',h'⟩:=putW_more (oldN T c o (j + i)) (cv T (dN c (j + i)))
  exact ⟨l ++ l',by show putW (oldN T c o (j + i)) (cv T (dN c (j + i)))=_; rw [h',h,List.append_assoc]⟩
theorem ir_block {w:World} {B c:Nat} {A:Option Addr} {s:List Nat} (h:IR w B A c (natL s)) (hs:0 < s.length) :
  ∃ g ca,A=some ⟨g,0,none⟩ ∧ Blk w g 3 ca ∧ (∀ i,i < s.length → ca[i]?=some (.int .i64 ((s.getD i 0:Nat):Int))) ∧ (Value.slice A (natL s).length c).ownBlock=some g:=by
 obtain ⟨g,hA,_⟩:=ir_at h hs
 have hl:=natL_len s
 have ho:(Value.slice A (natL s).length c).ownBlock=some g:=by
  obtain ⟨g',cap,hv,_,_⟩:=World.ownsRow.form h (show 0 < (natL s).length by omega)
  have:A=some ⟨g',0,none⟩:=by injection hv
  rw [hv]
  rw [hA] at this
  injection this with this
  injection this with this
  rw [this]; simp [Value.ownBlock]
 obtain ⟨ca,hb⟩:=own_blk h ho
 refine ⟨g,ca,hA,hb,fun i hi=>?_,ho⟩
 obtain ⟨g',hA',hc⟩:=ir_at h hi
 rw [hA] at hA'
 injection hA' with hA'
 injection hA' with hA'
 subst hA'
 rw [← hc,hb.cell i]
structure QAt (w:World) (g m:Nat) (T:List Tri) (b2 b4 b8 b11 bn gc:Nat) (ca:Array Value) (cs:List Nat) (cc:Nat) (k:Nat) (Ao:Option Addr) (co:Nat) (old:List Int) (W:World):Prop where
 k2:Blk W b2 25 #[.pointer (some ⟨g,0,none⟩)]
 k4:Blk W b4 24 #[.int .i64 0,.slice none 0 0]
 k8:Blk W b8 30 #[.slice (some ⟨gc,0,none⟩) cs.length cc]
 kc:Blk W gc 3 ca
 k11:∃ (At:Option Addr) (ct:Nat),Blk W b11 24 #[.int .i64 0,.slice At k ct] ∧ LRow W w.heap.size At ct ((cs.take k).map (triR T (oldC T cs)))
 mp:MapI Tryz.prog 3 W bn old.length (nowF old)
 o:IR W w.heap.size Ao co old
 ne:∀ x,(Value.slice Ao old.length co).ownBlock=some x → x ≠ gc
 n4:b4 ≠ b11
 b:Below w.heap.size w W
section
variable {w W W':World} {g m b2 b4 b8 b11 bn gc cc k co:Nat} {ca:Array Value} {cs:List Nat} {T:List Tri} {Ao:Option Addr} {old:List Int}
theorem QAt.below (h:QAt w g m T b2 b4 b8 b11 bn gc ca cs cc k Ao co old W) (hb:Below W.heap.size W W'):QAt w g m T b2 b4 b8 b11 bn gc ca cs cc k Ao co old W':=by
 obtain ⟨At,ct,h1,h2⟩:=h.k11
 exact ⟨h.k2.below hb h.k2.lt,h.k4.below hb h.k4.lt,h.k8.below hb h.k8.lt,h.kc.below hb h.kc.lt,⟨At,ct,h1.below hb h1.lt,h2.below hb⟩,h.mp.below hb h.mp.lt,h.o.below hb,h.ne,h.n4,bw_call h.b hb⟩
theorem QAt.drew (h:QAt w g m T b2 b4 b8 b11 bn gc ca cs cc k Ao co old W):QAt w g m T b2 b4 b8 b11 bn gc ca cs cc k Ao co old W.drew:=h.below (bw_drew (Below.refl _ _))
theorem QAt.number {es:Array MapEntry} {ck:Nat} {v:Int} (h:QAt w g m T b2 b4 b8 b11 bn gc ca cs cc k Ao co old W) (hbn:w.heap.size ≤ bn) (hv:v ∉ old)
  (hm:MapI Tryz.prog 3 (ChangeMaps.setBlock W bn (.map es ck)) bn (old.length + 1) (fun y=>if y=v then some (Value.int .i64 (old.length:Int)) else nowF old y)) {A7:Option Addr} {c7:Nat} {w7:World}
  (ho:w7.ownsRow w.heap.size 3 1 (.slice A7 (old.length + 1) c7) (old.length + 1) (ZL old ++ [.int .i64 v])) (hg:((ChangeMaps.setBlock W bn (.map es ck)).alloc (.cells #[.int .i64 v] 3)).grownBy w7 (Value.slice Ao old.length co).ownBlock)
  (hat:(Value.slice A7 (old.length + 1) c7).ownBlock=(Value.slice Ao old.length co).ownBlock ∨ (Value.slice A7 (old.length + 1) c7).ownBlock=some ((ChangeMaps.setBlock W bn (.map es ck)).alloc (.cells #[.int .i64 v] 3)).heap.size) :
  QAt w g m T b2 b4 b8 b11 bn gc ca cs cc k A7 c7 (old ++ [v]) w7 ∧ (∀ x t ds,Blk W x t ds → (t ≠ 3 ∨ (Value.slice Ao old.length co).ownBlock ≠ some x) → Blk w7 x t ds) ∧ (∀ x,(Value.slice A7 (old.length + 1) c7).ownBlock=some x → (Value.slice Ao old.length co).ownBlock=some x ∨ W.heap.size ≤ x):=by
 have hbs:Below w.heap.size w (ChangeMaps.setBlock W bn (.map es ck)):=bw_setBlock h.b hbn _
 have hsz:(ChangeMaps.setBlock W bn (.map es ck)).heap.size=W.heap.size:=by simp [ChangeMaps.setBlock]
 have ho2:IR (ChangeMaps.setBlock W bn (.map es ck)) w.heap.size Ao co old:=own_same h.o fun k hk=>heap_setBlock_ne W bn _ fun e=>by
  obtain ⟨ds,hd⟩:=own_blk h.o hk
  exact h.mp.ne_blk hd e.symm
 have hkeep:∀ x t ds,Blk W x t ds → (t ≠ 3 ∨ (Value.slice Ao old.length co).ownBlock ≠ some x) → Blk w7 x t ds:=fun x t ds hx hne=>by
  refine ((hx.setBlock (fun e=>h.mp.ne_blk hx e.symm) _).alloc _).grown hg fun e=>?_
  rcases hne with hne | hne
  · obtain ⟨es',hd⟩:=own_blk h.o e.symm
    exact hx.ne_ hd hne rfl
  exact hne e.symm
 have hnew:∀ x,(Value.slice A7 (old.length + 1) c7).ownBlock=some x → (Value.slice Ao old.length co).ownBlock=some x ∨ W.heap.size ≤ x:=fun x hx=>by
  rcases hat with hat | hat
  · exact .inl (hat ▸ hx)
  rw [hat,World.size_alloc,hsz] at hx
  injection hx with hx
  exact .inr (by omega)
 have hrow:IR w7 w.heap.size A7 c7 (old ++ [v]):=ir_of ho (by simp) (by simp [ZL])
 have hb7:Below w.heap.size w w7:=(bw_alloc hbs _).grown hg (by rw [World.size_alloc]; have:=hbs.size; omega) fun k hk=>(h.o.lt k hk).1
 have hk2:∀ x t ds,Blk W x t ds → t ≠ 3 → Blk w7 x t ds:=fun x t ds hx ht=>hkeep x t ds hx (.inl ht)
 obtain ⟨At,ct,h1,h2⟩:=h.k11
 refine ⟨⟨hk2 _ _ _ h.k2 (by decide),hk2 _ _ _ h.k4 (by decide),hk2 _ _ _ h.k8 (by decide),hkeep _ _ _ h.kc (.inr fun e=>h.ne _ e rfl),⟨At,ct,hk2 _ _ _ h1 (by decide),?_⟩,?_,?_,?_,h.n4,hb7⟩,hkeep,hnew⟩
 · refine own_same h2 fun k hk=>?_
   obtain ⟨ds,hd⟩:=own_blk h2 hk
   exact blk_same hd (hk2 _ _ _ hd (by decide))
 · have hm2:=(hm.alloc (.cells #[.int .i64 v] 3)).grown hg fun e=>by
    obtain ⟨es',hd⟩:=own_blk ho2 e.symm
    exact hm.ne_blk hd rfl
   rw [List.length_append,List.length_singleton]
   exact hm2.congr fun x=>by rw [← nowF_snoc hv]
 · simpa using hrow
 intro x hx e
 subst e
 rw [List.length_append,List.length_singleton] at hx
 rcases hnew _ hx with hx | hx
 · exact h.ne _ hx rfl
 have:=h.kc.lt
 omega
structure QX (w:World) (g m:Nat) (T:List Tri) (b2 b4 b8 b11 bn gc:Nat) (ca:Array Value) (cs:List Nat) (cc:Nat) (k:Nat) (Ao:Option Addr) (co:Nat) (old:List Int) (bx gd x:Nat) (O:List Int) (j:Nat) (W:World):Prop where
 q:QAt w g m T b2 b4 b8 b11 bn gc ca cs cc k Ao co old W
 kx:Blk W bx 65 (xN T x O j)
 kd:Blk W gd 3 #[.int .i64 (x:Int),.int .i64 (nxc x:Int),.int .i64 (pvc x:Int)]
 nd:(Value.slice Ao old.length co).ownBlock ≠ some gd
 nx:∀ At ct n,Blk W b11 24 #[.int .i64 0,.slice At n ct] → (Value.slice At ((cs.take k).map (triR T (oldC T cs))).length ct).ownBlock ≠ some bx
 gx:w.heap.size ≤ bx
section
variable {bx gd x j:Nat} {O:List Int}
theorem QAt.open_ (h:QAt w g m T b2 b4 b8 b11 bn gc ca cs cc k Ao co old W) (hb:Below W.heap.size W W') (hbx:W.heap.size ≤ bx) (hgd:W.heap.size ≤ gd) (kx:Blk W' bx 65 (xN T x O 0))
  (kd:Blk W' gd 3 #[.int .i64 (x:Int),.int .i64 (nxc x:Int),.int .i64 (pvc x:Int)]):QX w g m T b2 b4 b8 b11 bn gc ca cs cc k Ao co old bx gd x O 0 W':=by
 refine ⟨h.below hb,kx,kd,fun e=>?_,fun At ct n hB e=>?_,Nat.le_trans h.b.size hbx⟩
 · have:=(h.o.lt _ e).2
   omega
 obtain ⟨At',ct',h1,h2⟩:=h.k11
 have h1':=h1.below hb h1.lt
 have he:=h1'.symm.trans hB
 injection he with he
 injection he with he _
 simp only [Array.mk.injEq,List.cons.injEq,and_true,true_and,Value.slice.injEq] at he
 obtain ⟨rfl,_,rfl⟩:=he
 have:=(h2.lt _ e).2
 omega
theorem QX.below (h:QX w g m T b2 b4 b8 b11 bn gc ca cs cc k Ao co old bx gd x O j W) (hb:Below W.heap.size W W'):QX w g m T b2 b4 b8 b11 bn gc ca cs cc k Ao co old bx gd x O j W':=by
 obtain ⟨At',ct',h1,h2⟩:=h.q.k11
 have h1':=h1.below hb h1.lt
 exact ⟨h.q.below hb,h.kx.below hb h.kx.lt,h.kd.below hb h.kd.lt,h.nd,fun At ct n hB=>h.nx At ct n ((blk_same h1 h1').symm.trans hB),h.gx⟩
theorem QX.store (h:QX w g m T b2 b4 b8 b11 bn gc ca cs cc k Ao co old bx gd x O j W) (hj:j < 3):QX w g m T b2 b4 b8 b11 bn gc ca cs cc k Ao co old bx gd x O (j + 1) (W.setCell ⟨bx,j,none⟩ (.int .i64 (ixN T x O j))):=by
 have hk:∀ y t ds,Blk W y t ds → t ≠ 65 → Blk (W.setCell ⟨bx,j,none⟩ (.int .i64 (ixN T x O j))) y t ds:=fun y t ds hy ht=>hy.far (p:=⟨bx,j,none⟩) (hy.ne_ h.kx ht) _
 obtain ⟨z,hz⟩:=xN_at T x O hj
 obtain ⟨At,ct,h1,h2⟩:=h.q.k11
 have hkx:=h.kx.set_ j (.int .i64 (ixN T x O j))
 rw [xN_set T x O hj] at hkx
 refine ⟨⟨hk _ _ _ h.q.k2 (by decide),hk _ _ _ h.q.k4 (by decide),hk _ _ _ h.q.k8 (by decide),hk _ _ _ h.q.kc (by decide),⟨At,ct,hk _ _ _ h1 (by decide),?_⟩,?_,?_,h.q.ne,h.q.n4,?_⟩,hkx,hk _ _ _ h.kd (by decide),h.nd,fun At' ct' n hB=>h.nx At' ct' n ((blk_same h1 (hk _ _ _ h1 (by decide))).symm.trans hB),h.gx⟩
 · refine own_same h2 fun y hy=>Below.heap_setCell _ _ _ _ fun e=>h.nx At ct _ h1 (by rw [hy,e])
 · exact h.q.mp.setCell (p:=⟨bx,j,none⟩) ((h.kx.cell j).trans hz) _
 · refine own_same h.q.o fun y hy=>?_
   obtain ⟨ds,hd⟩:=own_blk h.q.o hy
   exact Below.heap_setCell _ _ _ _ (hd.ne_ h.kx (by decide))
 exact h.q.b.setCell (p:=⟨bx,j,none⟩) h.gx _
theorem QX.number {es:Array MapEntry} {ck:Nat} {v:Int} (h:QX w g m T b2 b4 b8 b11 bn gc ca cs cc k Ao co old bx gd x O j W) (hbn:w.heap.size ≤ bn) (hv:v ∉ old)
  (hm:MapI Tryz.prog 3 (ChangeMaps.setBlock W bn (.map es ck)) bn (old.length + 1) (fun y=>if y=v then some (Value.int .i64 (old.length:Int)) else nowF old y)) {A7:Option Addr} {c7:Nat} {w7:World}
  (ho:w7.ownsRow w.heap.size 3 1 (.slice A7 (old.length + 1) c7) (old.length + 1) (ZL old ++ [.int .i64 v])) (hg:((ChangeMaps.setBlock W bn (.map es ck)).alloc (.cells #[.int .i64 v] 3)).grownBy w7 (Value.slice Ao old.length co).ownBlock)
  (hat:(Value.slice A7 (old.length + 1) c7).ownBlock=(Value.slice Ao old.length co).ownBlock ∨ (Value.slice A7 (old.length + 1) c7).ownBlock=some ((ChangeMaps.setBlock W bn (.map es ck)).alloc (.cells #[.int .i64 v] 3)).heap.size) :
  QX w g m T b2 b4 b8 b11 bn gc ca cs cc k A7 c7 (old ++ [v]) bx gd x O j w7:=by
 obtain ⟨q7,hk,hn⟩:=h.q.number hbn hv hm ho hg hat
 obtain ⟨At,ct,h1,h2⟩:=h.q.k11
 refine ⟨q7,hk _ _ _ h.kx (.inl (by decide)),hk _ _ _ h.kd (.inr h.nd),fun e=>?_,fun At' ct' n hB=>h.nx At' ct' n ((blk_same h1 (hk _ _ _ h1 (.inl (by decide)))).symm.trans hB),h.gx⟩
 rw [List.length_append,List.length_singleton] at e
 rcases hn _ e with e | e
 · exact h.nd e
 have:=h.kd.lt
 omega
end
theorem QAt.tri {x:Nat} {At:Option Addr} {ct:Nat} (h:QAt w g m T b2 b4 b8 b11 bn gc ca cs cc k Ao co old W) (hx:cs[k]?=some x) (hb11:w.heap.size ≤ b11) (h1:Blk W b11 24 #[.int .i64 0,.slice At k ct]) (h2:LRow W w.heap.size At ct ((cs.take k).map (triR T (oldC T cs)))) {A7:Option Addr} {c7:Nat} {w7:World} {o:Obj}
  (ho:w7.ownsRow w.heap.size 65 3 (.slice A7 (k + 1) c7) (k + 1) (((cs.take k).map (triR T (oldC T cs))).flatMap Tri.cells ++ (triR T (oldC T cs) x).cells)) (hg:(W.alloc o).grownBy w7 (Value.slice At k ct).ownBlock) :
  QAt w g m T b2 b4 b8 b11 bn gc ca cs cc (k + 1) Ao co old (w7.setCell ⟨b11,1,none⟩ (.slice A7 (k + 1) c7)):=by
 obtain ⟨hkl,hke⟩:=List.getElem?_eq_some_iff.1 hx
 have hl:((cs.take k).map (triR T (oldC T cs))).length=k:=by rw [List.length_map,List.length_take]; omega
 have hoB:∀ y,(Value.slice At k ct).ownBlock=some y → ∃ ds,Blk W y 65 ds:=fun y hy=>own_blk h2 (by rw [hl]; exact hy)
 have hk7:∀ y t ds,Blk W y t ds → t ≠ 65 → Blk w7 y t ds:=fun y t ds hy ht=>(hy.alloc _).grown hg fun e=>by
  obtain ⟨ds',hd⟩:=hoB y e.symm
  exact hy.ne_ hd ht rfl
 have h17:=hk7 _ _ _ h1 (by decide)
 have hk8:∀ y t ds,Blk W y t ds → t ≠ 65 → y ≠ b11 → Blk (w7.setCell ⟨b11,1,none⟩ (.slice A7 (k + 1) c7)) y t ds:=fun y t ds hy ht hne=>(hk7 _ _ _ hy ht).far (p:=⟨b11,1,none⟩) hne _
 refine ⟨hk8 _ _ _ h.k2 (by decide) (h.k2.ne_ h1 (by decide)),hk8 _ _ _ h.k4 (by decide) h.n4,hk8 _ _ _ h.k8 (by decide) (h.k8.ne_ h1 (by decide)),hk8 _ _ _ h.kc (by decide) (h.kc.ne_ h1 (by decide)),⟨A7,c7,?_,?_⟩,?_,?_,h.ne,h.n4,?_⟩
 · simpa using h17.set_ 1 (.slice A7 (k + 1) c7)
 · have hr:LRow w7 w.heap.size A7 c7 ((cs.take (k + 1)).map (triR T (oldC T cs))):=by
    have e:(cs.take (k + 1)).map (triR T (oldC T cs))=(cs.take k).map (triR T (oldC T cs)) ++ [triR T (oldC T cs) x]:=by rw [List.take_succ_eq_append_getElem hkl,List.map_append,hke]; rfl
    unfold LRow
    rw [e,List.length_append,hl,List.flatMap_append]
    simpa using ho
   refine own_same hr fun y hy=>?_
   obtain ⟨ds,hd⟩:=own_blk hr hy
   exact Below.heap_setCell _ _ _ _ (hd.ne_ h17 (by decide))
 · refine ((h.mp.alloc _).grown hg fun e=>?_).setCell (p:=⟨b11,1,none⟩) (h17.cell 1) _
   obtain ⟨ds,hd⟩:=hoB _ e.symm
   exact h.mp.ne_blk hd rfl
 · refine own_same h.o fun y hy=>?_
   obtain ⟨ds,hd⟩:=own_blk h.o hy
   exact (Below.heap_setCell _ _ _ _ (hd.ne_ h1 (by decide))).trans ((blk_same hd (hk7 _ _ _ hd (by decide))))
 refine ((bw_alloc h.b _).grown hg (by rw [World.size_alloc]; have:=h.b.size; omega) (fun y hy=>?_)).setCell (p:=⟨b11,1,none⟩) hb11 _
 exact (h2.lt y (by rw [hl]; exact hy)).1
theorem old_idx {cs:List Nat} {k x j:Nat} (hx:cs[k]?=some x) (hj:j < 3):((oldN T x (oldC T (cs.take k)) (j + 1)).idxOf (cv T (dN x j)):Int)=ixN T x (oldC T cs) j:=by
 obtain ⟨l,hl⟩:=oldC_pre (T:=T) (cs:=cs) (k + 1)
 rw [oldC_take hx,← oldN_three] at hl
 obtain ⟨l',hl'⟩:=oldN_more T x (oldC T (cs.take k)) (j + 1) (3 - (j + 1))
 rw [show j + 1 + (3 - (j + 1))=3 by omega] at hl'
 have h:=idx_more (o:=oldN T x (oldC T (cs.take k)) (j + 1)) (o':=oldC T cs) (l:=l' ++ l) (by rw [hl,hl',List.append_assoc]) (v:=cv T (dN x j)) (putW_mem _ _)
 unfold ixN
 rw [h]
theorem oldN_yes {T:List Tri} {x j:Nat} {o:List Int} (h:cv T (dN x j) ∈ oldN T x o j):oldN T x o (j + 1)=oldN T x o j:=by
 show putW (oldN T x o j) (cv T (dN x j))=_
 unfold putW; rw [if_pos h]
theorem oldN_no {T:List Tri} {x j:Nat} {o:List Int} (h:cv T (dN x j) ∉ oldN T x o j):oldN T x o (j + 1)=oldN T x o j ++ [cv T (dN x j)]:=by
 show putW (oldN T x o j) (cv T (dN x j))=_
 unfold putW; rw [if_neg h]
theorem putW_len (o:List Int) (v:Int):(putW o v).length ≤ o.length + 1:=by
 unfold putW
 split
 · omega
 simp
theorem oldN_len (T:List Tri) (x:Nat) (o:List Int):∀ j,(oldN T x o j).length ≤ o.length + j
 | 0=>Nat.le_refl _
 | j + 1=>by
  have:=oldN_len T x o j
  have:=putW_len (oldN T x o j) (cv T (dN x j))
  show (putW (oldN T x o j) (cv T (dN x j))).length ≤ _
  omega
end
theorem tri_info47:(Tryz.prog.info? 65).map (fun i=>(i.zero,i.size,i.bytes))=some (some (.agg #[.int .i64 0,.int .i64 0,.int .i64 0]),3,24):=by kernel_rfl
theorem zero_int47 (w:World):(zeroValue 3).run Tryz.prog w=.ok (.int .i64 0) w:=by kernel_rfl
theorem nowF_yes {o:List Int} {v:Int} (h:v ∈ o):nowF o v=some (.int .i64 (o.idxOf v:Int)):=if_pos h
theorem nowF_no {o:List Int} {v:Int} (h:v ∉ o):nowF o v=none:=if_neg h
theorem kd_at {T:List Tri} {x j d:Nat} (hj:j < 3) (hd:d=dN x j):(#[.int .i64 (x:Int),.int .i64 (nxc x:Int),.int .i64 (pvc x:Int)]:Array Value)[j]?=some (.int .i64 (d:Int)):=by
 subst hd
 rcases (by omega:j=0 ∨ j=1 ∨ j=2) with rfl | rfl | rfl <;> rfl
theorem ir_again {w1 w2:World} {B c g:Nat} {A:Option Addr} {L:List Int} {t:TypeId} {ca:Array Value} (h:IR w1 B A c L) (ho:(Value.slice A L.length c).ownBlock=some g) (h1:Blk w1 g t ca) (h2:Blk w2 g t ca):IR w2 B A c L:=own_same h fun k hk=>by
 rw [ho] at hk
 injection hk with hk
 subst hk
 exact blk_same h1 h2
end
section
def triN (T:List Tri):List Int:=T.flatMap fun t=>[t.a,t.b,t.c]
def rowL (N:Int) (T:List Tri):List Int:=N :: (T.length:Int) :: triN T
theorem triN_len:∀ T:List Tri,(triN T).length=3 * T.length
 | []=>rfl
 | t :: T=>by
  have:=triN_len T
  unfold triN at *
  rw [List.flatMap_cons,List.length_append,this]
  simp
  omega
theorem triN_snoc (T:List Tri) (t:Tri):triN (T ++ [t])=triN T ++ [t.a,t.b,t.c]:=by unfold triN; rw [List.flatMap_append]; simp
def IntsPost47 (w:World) (L:List Int) (e:Ending) (w':World):Prop:=∃ (A:Option Addr) (c:Nat),e=.returned (.slice A L.length c) ∧ IR w' w.heap.size A c L ∧ Below w.heap.size w w'
attribute [local irreducible] Blk World.alloc World.setCell World.cell? World.frozen? MapV MapI
theorem row_any (w:World) (B:Nat) (N:Int) (A:Option Addr) (c:Nat) (T:List Tri) (hT:T.length ≤ 1000) (h:LRow w B A c T) :
  Calls Tryz.prog 84 #[.agg #[.int .i64 N,.slice A T.length c]] w (IntsPost47 w (rowL N T)):=by
 obtain ⟨i0,hi0,hz0,hz1,hz2⟩:=info_parts int_infoC
 have HR:=jJ h
 clear h
 go_enter Tryz.func84,Tryz.ntmps84
 go_upto_region 2 with (fail)
 obtain ⟨w2,hw2⟩:=jX ((w.alloc (.cells #[.int .i64 N,.slice A T.length c] 24)).alloc (.cells #[.int .i64 N,.int .i64 (T.length:Int)] 3))
 have K12:Hid (Blk w2 w.heap.size 24 #[.int .i64 N,.slice A T.length c]):=by subst hw2; exact jJ ((Blk.new _ _ _).alloc _)
 have HO2:Hid (IR w2 w.heap.size (some ⟨w.heap.size + 1,0,none⟩) 2 [N,(T.length:Int)]):=by subst hw2; exact jJ (ints_own (O:=[N,(T.length:Int)]) (Blk.new_ (by rw [World.size_alloc]) _ _) (by omega) (by simp [maxLen]))
 have HR2:Hid (LRow w2 B A c T):=by subst hw2; exact jJ ((HR.out.alloc _).alloc _)
 have HB2:Hid (Below w.heap.size w w2):=by subst hw2; exact jJ (bw_alloc (bw_alloc (Below.refl _ _) _) _)
 rw [← hw2]
 obtain ⟨b1,hb1⟩:=jX w.heap.size
 obtain ⟨g3,hg3⟩:=jX (w.heap.size + 1)
 rw [← hg3] at HO2
 rw [← hb1] at K12
 simp only [← hg3]
 simp only [← hb1]
 have c1:w2.cell? ⟨b1,1,none⟩=some (.slice A T.length c):=K12.out.cell 1
 clear hw2 hb1 hg3
 go_wp2_with fail
 go_loopw [3,5,15] (fun ov _ kv wr=>∃ (k:Nat) (A3:Option Addr) (c3 n3:Nat) (L:List Int),k ≤ T.length ∧ kv=.int .i64 (k:Int) ∧ ov=.slice A3 n3 c3 ∧ Hid (n3=L.length) ∧ Hid (L=N :: (T.length:Int) :: triN (T.take k)) ∧ Hid (wr.ownsRow w.heap.size 3 1 (.slice A3 n3 c3) n3 (ZL L)) ∧ Hid (LRow wr B A c T) ∧ Hid (Below w.heap.size w wr)) (fun _ _ kv _=>T.length - (intOf kv).toNat)
 case atStart=>exact ⟨0,some ⟨g3,0,none⟩,2,2,[N,(T.length:Int)],by omega,rfl,rfl,jJ rfl,jJ rfl,jJ HO2.out,HR2,HB2⟩
 clear K12 HO2 HR2 HB2 c1
 obtain ⟨k,A3,c3,n3,L,hk,rfl,rfl,HN,HL,HO,HRw,HBw⟩:=hrel
 obtain ⟨wE,hwE⟩:=jX (wr:World)
 rw [← hwE] at HO HRw HBw ⊢
 clear hwE
 by_cases hkl:k < T.length
 · obtain ⟨ad,rfl⟩:=lrow_some HRw.out (by omega)
   have tq:=triQ_at HRw.out hkl
   obtain ⟨t,ht⟩:=jX (tri T k)
   rw [← ht] at tq
   have d0:=tq.c.c0
   have d1:=tq.c.c1
   have d2:=tq.c.c2
   have e0:=tq.c.f0
   have e1:=tq.c.f1
   have e2:=tq.c.f2
   have hki:(k:Int) < (T.length:Int):=by omega
   have htk:T.take (k + 1)=T.take k ++ [t]:=by
    rw [List.take_succ_eq_append_getElem hkl,ht]
    exact congrArg (fun z=>T.take k ++ [z]) (tri_of (List.getElem?_eq_getElem hkl)).symm
   have HTK:=jJ htk
   have hn3:n3 ≤ 3002:=by rw [HN.out,HL.out,List.length_cons,List.length_cons,triN_len,List.length_take]; omega
   clear tq ht htk
   go_upto_region 5 with (fail)
   obtain ⟨w5,hw5⟩:=jX (wE.alloc (.cells #[.int .i64 t.a,.int .i64 t.b,.int .i64 t.c] 65))
   have K5:Hid (Blk w5 wE.heap.size 65 #[.int .i64 t.a,.int .i64 t.b,.int .i64 t.c]):=by subst hw5; exact jJ (Blk.new _ _ _)
   have HO5:Hid (w5.ownsRow w.heap.size 3 1 (.slice A3 n3 c3) n3 (ZL L)):=by subst hw5; exact jJ (own_same HO.out fun y hy=>Below.heap_alloc _ _ _ (HO.out.lt y hy).2)
   have HR5:Hid (LRow w5 B (some ad) c T):=by subst hw5; exact jJ (HRw.out.alloc _)
   have HB5:Hid (Below w.heap.size w w5):=by subst hw5; exact jJ (bw_alloc HBw.out _)
   have HRD:Hid (Reads w5 (wE.heap.size + 1) 1 (some ⟨wE.heap.size,0,none⟩) 3 [.int .i64 t.a,.int .i64 t.b,.int .i64 t.c]):=by subst hw5; exact jJ (reads_newN wE #[.int .i64 t.a,.int .i64 t.b,.int .i64 t.c] 65 3 1 rfl rfl)
   rw [← hw5]
   obtain ⟨b5,hb5⟩:=jX wE.heap.size
   rw [← hb5] at K5 HRD
   simp only [← hb5]
   clear hw5 hb5 d0 d1 d2 e0 e1 e2 HO HRw HBw
   go_wp2_with (at_builtin; go_must (refine wpList_append_sl _ rfl (.tmp 19) (.tmp 20) _ rfl w.heap.size 3 i0 _ 1 8 Tryz.underlying30 hi0 hz0 hz1 hz2 rfl (by omega) (.slice A3 n3 c3) n3 (ZL L) rfl HO5.out (b5 + 1) (some ⟨b5,0,none⟩) 3 3 [.int .i64 t.a,.int .i64 t.b,.int .i64 t.c] rfl HRD.out (by simp [Value.oneCell']) (by simp only [maxLen]; omega) (by omega) HB5.out.size ?_); intro A7 c7 w7 hown7 hg7 hat7; have HO7:=jJ hown7; have HG7:=jJ hg7; clear hown7 hg7 hat7)
   go_roundw
   case rel =>
    refine ⟨k + 1,A7,c7,n3 + 3,L ++ [t.a,t.b,t.c],by omega,by go_num,rfl,jJ (by rw [List.length_append,HN.out]; rfl),jJ (by rw [HL.out,HTK.out,triN_snoc]; rfl),jJ ?_,jJ ?_,jJ ?_⟩
    · have h:=HO7.out
      have e:ZL (L ++ [t.a,t.b,t.c])=ZL L ++ [.int .i64 t.a,.int .i64 t.b,.int .i64 t.c]:=by simp [ZL]
      rw [e]; exact h
    · refine own_same HR5.out fun y hy=>?_
      obtain ⟨ds,hd⟩:=own_blk HR5.out hy
      exact HG7.out.block y hd.lt fun e=>own_blk_ne HO5.out hd (by decide) e.symm
    exact HB5.out.grown HG7.out HB5.out.size fun y hy=>(HO5.out.lt y hy).1
   case measure=>simp [intOf]; omega
 obtain rfl:k=T.length:=by omega
 go_wp2_with fail
 have hL:L=rowL N T:=by rw [HL.out,List.take_length]; rfl
 refine bodyPost_ret (v:=.slice A3 n3 c3) ?_ rfl ⟨A3,c3,by rw [HN.out,hL],?_,HBw.out⟩
 · simp [results,Tryz.results84,go_sem]
 have h:=HO.out
 rw [HN.out,hL] at h
 exact h
end
section
section
variable {P:Program} {ops:Array Oper} {Q:Exit → Act → World → Prop} {md:Region.Mode} {S:World → Prop}
def pathW (md:Region.Mode) (ops:Array Oper):Nat → List Nat → Nat → Bool
 | r,[],i=>waitsFor md ops r i
 | r,p :: ps,i=>waitsFor md ops r p && pathW md ops p ps i
theorem path_not {i j:Nat} {l:Array Bool} (hi:l.getD i true=false) (hj:j ∈ Region.ready md ops l):∀ {ps:List Nat} {r:Nat},pathW md ops r ps i=true → (∀ p ∈ ps,l.getD p true=false) → j ≠ r ∧ j ∉ ps
 | [],r,h,_=>⟨not_last h hi hj,by simp⟩
 | p :: ps,r,h,hp=>by
  unfold pathW at h
  rw [Bool.and_eq_true] at h
  obtain ⟨h1,h2⟩:=path_not hi hj h.2 fun x hx=>hp x (by simp [hx])
  exact ⟨not_last h.1 (hp p (by simp)) hj,by simp [h1,h2]⟩
theorem Till.firstP {r i:Nat} {oi:Oper} {v:Value} {ps:List Nat} (hi:ops[i]?=some oi) (hsel:∀ (j:Nat) (o:Oper) cs b,ops[j]?=some o → o.op ≠ .select cs b)
  (hQ:∀ c a w,Q (.panic c) (a.put oi.dst v) w → Q (.panic c) a w) (hw:pathW md ops r ps i=true) (n:Nat) :
  ∀ {l:Array Bool} {a:Act} {w:World},(∀ p ∈ ps,l.getD p true=false) → (∀ j oj,ops[j]?=some oj → j ≠ i → l.getD j true=false → (∀ e ∈ oj.after,Region.binds md e=true → e.on ≠ i) → oi.apart ops oj=true) →
   i ∈ Region.ready md ops l → YieldsIf P ops S oi v a → S w → Till P md ops Q S r n (l.setIfInBounds i true) (a.put oi.dst v) w → Till P md ops Q S r (n + 1) l a w:=by
 induction n with
 | zero =>
  intro l a w _ _ hr hy hS H
  refine ⟨fun h=>(by rw [h] at hr; cases hr),fun j hj=>?_⟩
  by_cases e:j=i
  · rw [e]
    exact hy.wpOp hi hS ⟨fun _=>hS,H⟩
  have:=ready_mono hj e
  rw [H.1] at this
  cases this
 | succ n ih =>
  intro l a w hpl hfree hr hy hS H
  refine ⟨fun h=>(by rw [h] at hr; cases hr),fun j hj=>?_⟩
  by_cases e:j=i
  · rw [e]
    exact hy.wpOp hi hS ⟨fun _=>hS,H⟩
  have hun:=(mem_ready.1 hr).1
  obtain ⟨hjr,hjp⟩:=path_not hun hj hw hpl
  obtain ⟨hju,oj,hoj,hall⟩:=mem_ready.1 hj
  have hno:∀ x ∈ oj.after,Region.binds md x=true → x.on ≠ i:=fun x hx hb he=>by
   have h1:=hall x hx hb
   rw [he] at h1
   by_cases hs:i < l.size
   · simp [hs] at hun h1
     rw [hun] at h1
     cases h1
   simp [Array.getElem?_eq_none (Nat.le_of_not_lt hs)] at h1
  refine wpOp_mono (fun b v' x=>⟨fun _=>x.2.1 hjr,ih (fun p hp=>?_) (fun k ok hk hki hku hkn=>hfree k ok hk hki ?_ hkn) (ready_mono hr (Ne.symm e)) x.1 (x.2.1 hjr) ?_⟩)
   (wpOp_putIf hoj (hfree j oj hoj e hju hno) (fun cs b=>hsel i oi cs b hi) (fun cs b=>hsel j oj cs b hoj) hQ hy (H.2 j (ready_mono hj e)))
  · rw [getD_set_ne true (fun h=>hjp (by rw [h]; exact hp))]
    exact hpl p hp
  · by_cases hjk:j=k
    · rw [← hjk]
      exact hju
    rw [getD_set_ne true hjk] at hku
    exact hku
  rw [Array.setIfInBounds_comm _ _ e]
  exact x.2.2
theorem Till.takeP {r i:Nat} {oi:Oper} {v:Value} {n:Nat} {l:Array Bool} {a:Act} {w:World} (ps:List Nat) (hl:ops.toList[i]?=some oi) (hs:Region.noSelect ops=true) (hf:Region.free md ops l i=true)
  (hr:(Region.ready md ops l).contains i=true) (hw:pathW md ops r ps i=true) (hpl:(ps.all fun p=>!l.getD p true)=true) (hQ:∀ c a w,Q (.panic c) (a.put oi.dst v) w → Q (.panic c) a w) (hy:YieldsIf P ops S oi v a) (hS:S w)
  (h:Till P md ops Q S r n (l.setIfInBounds i true) (a.put oi.dst v) w):Till P md ops Q S r (n + 1) l a w :=
 have hi:ops[i]?=some oi:=by rw [← Array.getElem?_toList]; exact hl
 Till.firstP hi (Region.noSelect_spec hs) hQ hw n (fun p hp=>by have:=List.all_eq_true.1 hpl p hp; simpa using this) (Region.free_spec hi hf) (by simpa using hr) hy hS h
end
end
end Go.Proofs.YtffmfhkiienmaaaGreat
