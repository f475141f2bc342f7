/- A row of numbers of the call's own: one more set in behind the first; looked up. No condition but sizes. -/
import Derived.Test.YtffmfhkiienmaaaGreatSh47
import Derived.Test.YtffmfhkiienmaaaGreatShelfWy
import Derived.Test.YtffmfhkiienmaaaGreatFm47
import Derived.Test.YtffmfhkiienmaaaGreatPlB
import Derived.Test.YtffmfhkiienmaaaGreatCornerB
set_option maxRecDepth 100000
set_option maxHeartbeats 16000000
set_option linter.all false
namespace Go.Proofs.YtffmfhkiienmaaaGreat
open Go.RowKit
section
theorem own_of_cells {w:World} {g B n:Nat} {e:TypeId} {cur:Array Value} {xs:List Value} (hb:Blk w g e cur) (hB:B ≤ g) (hx:xs.length=n) (hn:n ≤ cur.size) (hm:cur.size ≤ maxLen) (hc:∀ j u,xs[j]?=some u → w.cell? ⟨g,j,none⟩=some u):w.ownsRow B e 1 (.slice (some ⟨g,0,none⟩) n cur.size) n xs:=by
 refine ⟨by omega,.inr ⟨g,cur.size,cur,rfl,hB,hb,hn,hm,by omega,?_⟩⟩
 refine List.ext_getElem? fun j=>?_
 rw [List.getElem?_take]
 by_cases hj:j < n
 · rw [if_pos (by omega)]
   have h1:=hc j xs[j] (List.getElem?_eq_getElem (by omega))
   rw [hb.cell] at h1
   rw [Array.getElem?_toList,h1]
   exact (List.getElem?_eq_getElem (by omega)).symm
 rw [if_neg (by omega)]
 exact (List.getElem?_eq_none (by omega)).symm
theorem blk_cellsG {g:Nat} {t:TypeId}:∀ (vs:List Value) (o:Nat) (w:World) (cs:Array Value),Blk w g t cs → ∃ cs',Blk (w.setCells g o vs) g t cs' ∧ cs'.size=cs.size
 | [],_,_,cs,h=>⟨cs,h,rfl⟩
 | v :: r,o,w,cs,h=>by
  obtain ⟨cs',h1,h2⟩:=blk_cellsG r (o + 1) _ _ (h.set_ o v)
  exact ⟨cs',h1,by rw [h2,Array.size_setIfInBounds]⟩
theorem grown_cellsG {g:Nat}:∀ (vs:List Value) (o:Nat) (a w:World),a.grownBy w (some g) → a.grownBy (w.setCells g o vs) (some g)
 | [],_,_,_,h=>h
 | v :: r,o,a,w,h=>grown_cellsG r (o + 1) a _ ⟨h.os,h.tape,h.output,by simpa using h.size,fun k hk hn=>(Below.heap_setCell _ _ _ _ (fun e=>hn (by rw [e]))).trans (h.block k hk hn)⟩
theorem grown_new {g:Nat} {a:World}:∀ (vs:List Value) (o:Nat) (w:World),a.heap.size ≤ g → a.grownBy w none → a.grownBy (w.setCells g o vs) none
 | [],_,_,_,h=>h
 | v :: r,o,w,hg,h=>grown_new r (o + 1) _ hg ⟨h.os,h.tape,h.output,by simpa using h.size,fun k hk hn=>(Below.heap_setCell _ _ _ _ (fun e=>by have e:k=g:=e; omega)).trans (h.block k hk hn)⟩
theorem insL_at {L:List Int} {v:Int} (h:1 < L.length) (j:Nat):(L.headD 0 :: v :: L.drop 1)[j]?=if j=0 then L[0]? else if j=1 then some v else L[j - 1]?:=by
 match L,h with
 | a :: t,h =>
  match j with
  | 0=>rfl
  | 1=>rfl
  | j + 2=>simp
theorem zl_get (L:List Int) (j:Nat):(ZL L)[j]?=(L[j]?).map fun x=>Value.int .i64 x:=by unfold ZL; rw [List.getElem?_map]
theorem oneZL (L:List Int):∀ u ∈ ZL L,u.oneCell'=true:=by
 intro u hu
 unfold ZL at hu
 obtain ⟨x,_,rfl⟩:=List.mem_map.1 hu
 rfl
theorem insert1_any (B g n c vb:Nat) (L:List Int) (v:Int) (w:World) (hL:w.ownsRow B 3 1 (.slice (some ⟨g,0,none⟩) n c) n (ZL L)) (h1:1 < n) (hn2:n ≤ 100000) (hb:Blk w vb 3 #[.int .i64 v]) (hvb:vb ≠ g) :
  Calls Tryz.prog 63 #[.slice (some ⟨g,0,none⟩) n c,.int .i64 1,.slice (some ⟨vb,0,none⟩) 1 1] w fun e w' =>
   ∃ g' c',e=.returned (.slice (some ⟨g',0,none⟩) (n + 1) c') ∧ w'.ownsRow B 3 1 (.slice (some ⟨g',0,none⟩) (n + 1) c') (n + 1) (ZL (L.headD 0 :: v :: L.drop 1)) ∧ w.grownBy w' (some g) ∧ (g'=g ∨ g'=w.heap.size):=by
 obtain ⟨hlen,hor⟩:=hL
 rcases hor with ⟨_,h0⟩ | ⟨g0,cap,cur,hv,hB,hblk,hnc,hcm,hsz,htk⟩
 · omega
 injection hv with hv1 hv2 hv3
 injection hv1 with hv1
 injection hv1 with hv1
 subst hv1 hv3
 have hln:L.length=n:=by rw [← zl_len]; omega
 have hcell:∀ j u,(ZL L)[j]?=some u → w.cell? ⟨g,0 + j,none⟩=some u:=fun j u hj=>by
  have hj':j < (ZL L).length:=(List.getElem?_eq_some_iff.1 hj).1
  rw [zl_len,hln] at hj'
  rw [← htk,List.getElem?_take,if_pos (by omega),Array.getElem?_toList] at hj
  rw [Nat.zero_add,Blk.cell hblk]
  exact hj
 have hvs:∀ j u,[Value.int .i64 v][j]?=some u → w.cell? ⟨vb,0 + j,none⟩=some u:=fun j u hj=>by
  match j,hj with
  | 0,hj=>rw [Nat.zero_add,hb.cell]; exact hj
 have hml:(ZL L).length=n:=by rw [zl_len,hln]
 have hlt:g < w.heap.size:=Blk.lt hblk
 by_cases hroom:n + 1 ≤ c
 · have hfzA:∀ j,w.frozen? ⟨g,j,none⟩=false:=fun j=>Blk.frozen hblk j
   refine (Any2.slices_Insert_int_shift Tryz.insertI g 0 n c 1 vb 0 1 1 (ZL L) [.int .i64 v] w h1 (by decide) hroom (by simp only [maxLen] at hcm; omega) hvb hml rfl hcell
    (fun j hj=>by rw [Blk.cell hblk]; rw [Array.getElem?_eq_getElem (by omega)]; rfl) (fun j _=>hfzA _) hvs (oneZL L) (by intro u hu; rw [List.mem_singleton.1 hu]; rfl)
    3 3 1 cur.size (by rw [World.shape?]; rw [hb]; rfl) (by rw [World.shape?]; rw [hblk]) (by omega) (hb.frozen 0) (hb.frozen 1)).mono ?_
   rintro e w' ⟨rfl,rfl⟩
   have hN:∀ (W:World) (cs':Array Value),Blk W g 3 cs' → cs'.size=cur.size → ∀ j,j < n + 1 → (W.cell? ⟨g,j,none⟩).isSome=true:=fun W cs' hW hs j hj=>by
    rw [hW.cell,Array.getElem?_eq_getElem (by omega)]; rfl
   obtain ⟨c1,k1,s1⟩:=blk_cellsG ((ZL L).drop 1) (0 + (1 + 1)) w.drew cur hblk
   obtain ⟨c2,k2,s2⟩:=blk_cellsG [.int .i64 v] (0 + 1) _ c1 k1
   refine ⟨g,c,rfl,?_,grown_cellsG _ _ _ _ (grown_cellsG _ _ _ _ ⟨rfl,rfl,rfl,Nat.le_refl _,fun _ _ _=>rfl⟩),.inl rfl⟩
   have:=own_of_cells (B:=B) (n:=n + 1) (xs:=ZL (L.headD 0 :: v :: L.drop 1)) k2 hB (by rw [zl_len]; simp; omega) (by omega) (by omega) (fun j u hj=>by
    rw [zl_get,insL_at (by omega)] at hj
    by_cases h0:j=0
    · subst h0
      rw [if_pos rfl] at hj
      rw [World.cell?_setCells_out _ _ _ _ _ (fun _ _=>.inl (by simp)),World.cell?_setCells_out _ _ _ _ _ (fun _ _=>.inl (by simp))]
      have:=hcell 0 u (by rw [zl_get]; exact hj)
      rwa [Nat.zero_add] at this
    rw [if_neg h0] at hj
    by_cases h1':j=1
    · subst h1'
      rw [if_pos rfl] at hj
      have:=World.cell?_setCells_in g [.int .i64 v] (0 + 1) _ (fun j hj=>by
       have:j=0:=by simp at hj; exact hj
       subst this
       exact hN _ _ k1 s1 _ (by omega)) 0 (by simp)
      simp only [Nat.add_zero,Nat.zero_add] at this ⊢
      rw [this]
      exact hj
    rw [if_neg h1'] at hj
    have hjl:j - 1 < L.length:=by
     cases hq:L[j - 1]? with
     | none=>rw [hq] at hj; cases hj
     | some x=>exact (List.getElem?_eq_some_iff.1 hq).1
    rw [World.cell?_setCells_out _ _ _ _ _ (fun _ _=>.inr (by simp; omega))]
    have:=World.cell?_setCells_in g ((ZL L).drop 1) (0 + (1 + 1)) w.drew (fun i hi=>by
     rw [List.length_drop,hml] at hi
     exact hN w.drew cur hblk rfl _ (by omega)) (j - 2) (by rw [List.length_drop,hml]; omega)
    rw [show 0 + (1 + 1) + (j - 2)=j by omega] at this
    rw [this]
    rw [← hj,← zl_get]
    rw [List.getElem_drop]
    have hx:1 + (j - 2)=j - 1:=by omega
    simp only [hx]
    exact (List.getElem?_eq_getElem (by rw [zl_len]; exact hjl)).symm)
   rw [s2,s1,hsz,Nat.mul_one] at this
   exact this
 refine (Any2.slices_Insert_int_grow Tryz.insertI g 0 n c 1 vb 0 1 1 (ZL L) [.int .i64 v] w h1 (by decide) hnc (by omega) (by omega) hml rfl hcell hvs (oneZL L) (by intro u hu; rw [List.mem_singleton.1 hu]; rfl)).mono ?_
 rintro e w' ⟨rfl,rfl⟩
 obtain ⟨G,hG⟩:=jX (grownCap w (n + 1) c 3)
 have hGl:n + 1 ≤ G:=by rw [hG]; exact grownCap_ge w _ _ _
 have hGm:G ≤ maxLen:=by rw [hG]; exact grownCap_le_maxLen w _ _ _ (by simp only [maxLen]; omega)
 obtain ⟨ROW,hROW⟩:=jX (((ZL L).take 1).toArray ++ Builtin.zeroCells (Value.int .i64 0).cells (n + 1 - 1) ++ Builtin.zeroCells (Value.int .i64 0).cells (G - (n + 1)):Array Value)
 have hRl:ROW.size=G:=by
  rw [hROW]
  simp [Builtin.zeroCells,Value.cells,zl_len,hln]
  omega
 have hR0:ROW[0]?=(ZL L)[0]?:=by
  rw [hROW,Array.append_assoc,Array.getElem?_append_left (by simp [zl_len,hln]; omega)]
  simp [List.getElem?_take]
 show ∃ g' c',Ending.returned (.slice (some ⟨w.heap.size,0,none⟩) (n + 1) (grownCap w (n + 1) c 3))=_ ∧ _
 rw [← hG]
 refine ⟨w.heap.size,G,rfl,?_,?_,.inr rfl⟩
 rotate_left
 · have h0:w.grownBy (w.alloc (.cells ROW 3)) none:=World.grownBy_alloc _ _ _
   have h2:=grown_new (g:=w.heap.size) (a:=w) ((ZL L).drop 1) (1 + 1) _ (Nat.le_refl _) (show w.grownBy ((w.alloc (.cells ROW 3)).drew.setCells w.heap.size 1 [.int .i64 v]).drew none from by
    have:=grown_new (g:=w.heap.size) (a:=w) [.int .i64 v] 1 (w.alloc (.cells ROW 3)).drew (Nat.le_refl _) ⟨h0.os,h0.tape,h0.output,h0.size,h0.block⟩
    exact ⟨this.os,this.tape,this.output,this.size,this.block⟩)
   rw [hROW,hG] at h2
   exact ⟨h2.os,h2.tape,h2.output,h2.size,fun k hk hn=>h2.block k hk (by simp)⟩
 have k0:Blk (w.alloc (.cells ROW 3)).drew w.heap.size 3 ROW:=Blk.new _ _ _
 obtain ⟨c1,k1,s1⟩:=blk_cellsG [.int .i64 v] 1 _ ROW k0
 have k1':Blk ((w.alloc (.cells ROW 3)).drew.setCells w.heap.size 1 [.int .i64 v]).drew w.heap.size 3 c1:=k1
 obtain ⟨c2,k2,s2⟩:=blk_cellsG ((ZL L).drop 1) (1 + 1) _ c1 k1'
 have:=own_of_cells (B:=B) (n:=n + 1) (xs:=ZL (L.headD 0 :: v :: L.drop 1)) k2 (by omega) (by rw [zl_len]; simp; omega) (by omega) (by omega) (fun j u hj=>by
  rw [zl_get,insL_at (by omega)] at hj
  by_cases h0:j=0
  · subst h0
    rw [if_pos rfl] at hj
    rw [World.cell?_setCells_out _ _ _ _ _ (fun _ _=>.inl (by simp))]
    show ((w.alloc (.cells ROW 3)).drew.setCells w.heap.size 1 [.int .i64 v]).cell? _=_
    rw [World.cell?_setCells_out _ _ _ _ _ (fun _ _=>.inl (by simp)),k0.cell,hR0,zl_get]
    exact hj
  rw [if_neg h0] at hj
  by_cases h1':j=1
  · subst h1'
    rw [if_pos rfl] at hj
    rw [World.cell?_setCells_out _ _ _ _ _ (fun _ _=>.inl (by simp))]
    have:=World.cell?_setCells_in w.heap.size [.int .i64 v] 1 (w.alloc (.cells ROW 3)).drew (fun j hj=>by
     have:j=0:=by simp at hj; exact hj
     subst this
     rw [k0.cell,Array.getElem?_eq_getElem (by omega)]; rfl) 0 (by simp)
    simp only [Nat.add_zero] at this
    show ((w.alloc (.cells ROW 3)).drew.setCells w.heap.size 1 [.int .i64 v]).cell? _=_
    rw [this]
    exact hj
  rw [if_neg h1'] at hj
  have hjl:j - 1 < L.length:=by
   cases hq:L[j - 1]? with
   | none=>rw [hq] at hj; cases hj
   | some x=>exact (List.getElem?_eq_some_iff.1 hq).1
  have:=World.cell?_setCells_in w.heap.size ((ZL L).drop 1) (1 + 1) ((w.alloc (.cells ROW 3)).drew.setCells w.heap.size 1 [.int .i64 v]).drew (fun i hi=>by
   rw [List.length_drop,hml] at hi
   rw [k1'.cell,Array.getElem?_eq_getElem (by omega)]; rfl) (j - 2) (by rw [List.length_drop,hml]; omega)
  rw [show 1 + 1 + (j - 2)=j by omega] at this
  rw [this]
  rw [← hj,← zl_get]
  rw [List.getElem_drop]
  have hx:1 + (j - 2)=j - 1:=by omega
  simp only [hx]
  exact (List.getElem?_eq_getElem (by rw [zl_len]; exact hjl)).symm)
 rw [s2,s1,hRl] at this
 rw [hROW,hG] at this
 rw [hG]
 exact this
theorem own_maxW {w:World} {base n:Nat} {e:TypeId} {size:Nat} {v:Value} {xs:List Value} (h:w.ownsRow base e size v n xs):n ≤ maxLen:=by
 rcases h.2 with ⟨_,h0⟩ | ⟨g,cap,cur,_,_,_,h1,h2,_⟩
 · omega
 omega
theorem idx_from:∀ {L:List Int} {v:Int} (i:Nat),v ∈ L → Lib.idxFrom L v i=((i + L.idxOf v:Nat):Int)
 | [],_,_,h=>by cases h
 | a :: t,v,i,h=>by
  unfold Lib.idxFrom
  by_cases e:a=v
  · rw [if_pos e,e,List.idxOf_cons_self]
    rfl
  rw [if_neg e,idx_from (i + 1) ((List.mem_cons.1 h).resolve_left fun e'=>e e'.symm)]
  simp only [List.idxOf_cons,beq_eq_false_iff_ne.2 e,cond_false]
  congr 1
  omega
theorem idx_lib {L:List Int} {v:Int} (h:v ∈ L):Lib.idxOf L v=(L.idxOf v:Int):=by
 unfold Lib.idxOf
 rw [idx_from 0 h,Nat.zero_add]
theorem indexW_any (B n c:Nat) (A:Option Addr) (L:List Int) (v:Int) (w:World) (hL:w.ownsRow B 3 1 (.slice A n c) n (ZL L)) (h0:0 < n) (hv:v ∈ L) :
  Calls Tryz.prog 64 #[.slice A n c,.int .i64 v] w fun e w'=>e=.returned (.int .i64 (L.idxOf v:Int)) ∧ w'=w:=by
 have hln:L.length=n:=by have:=hL.1; rw [zl_len] at this; omega
 obtain ⟨g,c1,hf,_⟩:=World.ownsRow.form hL h0
 injection hf with hA _ _
 subst hA
 have hm:=own_maxW hL
 refine (Any.slices_Index_int Tryz.indexI g 0 n c L v w (by omega) (by simp only [maxLen] at hm; omega) fun j hj=>?_).mono ?_
 · have:=World.ownsRow.cells hL (g:=g) rfl j (.int .i64 (L.getD j 0)) (by rw [zl_get,List.getElem?_eq_getElem hj,List.getD_eq_getElem?_getD,List.getElem?_eq_getElem hj]; rfl)
   rw [Nat.zero_add,show (⟨g,j,none⟩:Addr)=(⟨g,0,none⟩:Addr).add j by simp [Addr.add]]
   exact this
 rintro e w' ⟨rfl,rfl⟩
 rw [List.take_of_length_le (by omega),idx_lib hv]
 exact ⟨rfl,rfl⟩
end
section
def curV:List Way → Value
 | []=>.slice none 0 0
 | x :: _=>wayC x
def boolA (l:List Bool):Array Value:=(l.map Value.bool).toArray
theorem boolA_at {l:List Bool} {j:Nat} (h:j < l.length):(boolA l)[j]?=some (.bool (l.getD j false)):=by
 unfold boolA
 rw [List.getElem?_toArray,List.getElem?_map,List.getElem?_eq_getElem h,List.getD_eq_getElem?_getD,List.getElem?_eq_getElem h]
 rfl
theorem boolA_set (l:List Bool) (j:Nat) (b:Bool):(boolA l).setIfInBounds j (.bool b)=boolA (l.set j b):=by
 apply Array.ext'
 unfold boolA
 rw [Array.toList_setIfInBounds,List.map_set]
abbrev RowOf (W:World) (B:Nat) (x:Way):Prop:=W.ownsRow B 3 1 (wayC x) x.2.length (ZL x.2)
structure WyAt (W:World) (B g gw gc m:Nat) (come:List Bool) (M:List Way) (Aw:Option Addr) (cw:Nat):Prop where
 k:Blk W gw 125 #[.pointer (some ⟨g,0,none⟩),.slice (some ⟨gc,0,none⟩) m m,curV M,.slice Aw (M.length - 1) cw]
 c:Blk W gc 4 (boolA come)
 w:W.ownsRow B 30 1 (.slice Aw (M.length - 1) cw) (M.length - 1) (M.tail.reverse.map wayC)
 r:∀ x ∈ M,RowOf W B x
 nd:(M.map fun x=>(wayC x).ownBlock).Nodup
 ln:∀ x ∈ M,3 ≤ x.2.length
 cl:come.length=m
 bw:B ≤ gw
 bc:B ≤ gc
def OWy (gw gc:Nat) (M:List Way) (Aw:Option Addr) (k:Nat):Prop:=k=gw ∨ k=gc ∨ (Value.slice Aw 0 0).ownBlock=some k ∨ ∃ x ∈ M,(wayC x).ownBlock=some k
section
variable {W W2:World} {B g gw gc m cw:Nat} {come:List Bool} {M r:List Way} {x x' y:Way} {Aw:Option Addr}
theorem slice_own (A:Option Addr) (n c n' c':Nat):(Value.slice A n c).ownBlock=(Value.slice A n' c').ownBlock:=by cases A <;> rfl
theorem WyAt.ow_ge (h:WyAt W B g gw gc m come M Aw cw) {k:Nat} (hk:OWy gw gc M Aw k):B ≤ k ∧ k < W.heap.size:=by
 rcases hk with rfl | rfl | hk | ⟨x,hx,hk⟩
 · exact ⟨h.bw,h.k.lt⟩
 · exact ⟨h.bc,h.c.lt⟩
 · exact h.w.lt k (by rw [← hk]; exact slice_own _ _ _ _ _)
 exact (h.r x hx).lt k hk
theorem WyAt.only {F:Nat → Prop} (h:WyAt W B g gw gc m come M Aw cw) (ho:Only F W W2) (hF:∀ k,OWy gw gc M Aw k → ¬ F k):WyAt W2 B g gw gc m come M Aw cw :=
 ⟨h.k.only ho (hF _ (.inl rfl)),h.c.only ho (hF _ (.inr (.inl rfl))),
  own_same h.w fun k hk=>ho.block k (h.w.lt k hk).2 (hF _ (.inr (.inr (.inl (by rw [← hk]; exact slice_own _ _ _ _ _))))),
  fun x hx=>own_same (h.r x hx) fun k hk=>ho.block k ((h.r x hx).lt k hk).2 (hF _ (.inr (.inr (.inr ⟨x,hx,hk⟩)))),h.nd,h.ln,h.cl,h.bw,h.bc⟩
theorem WyAt.below (h:WyAt W B g gw gc m come M Aw cw) (hb:Below W.heap.size W W2):WyAt W2 B g gw gc m come M Aw cw:=h.only (Only.of_below hb fun _=>False) fun _ _ hf=>hf
theorem WyAt.drew (h:WyAt W B g gw gc m come M Aw cw):WyAt W.drew B g gw gc m come M Aw cw:=h.below (bw_drew (Below.refl _ _))
theorem WyAt.alloc (h:WyAt W B g gw gc m come M Aw cw) (o:Obj):WyAt (W.alloc o) B g gw gc m come M Aw cw:=h.below (bw_alloc (Below.refl _ _) o)
theorem WyAt.ne_gc (h:WyAt W B g gw gc m come M Aw cw):gw ≠ gc:=h.k.ne_ h.c (by decide)
theorem WyAt.comes (h:WyAt W B g gw gc m come M Aw cw) (v:Nat):WyAt (W.setCell ⟨gc,v,none⟩ (.bool true)) B g gw gc m (come.set v true) M Aw cw :=
 ⟨h.k.far (p:=⟨gc,v,none⟩) h.ne_gc _,boolA_set come v true ▸ h.c.set_ v _,own_off h.w h.c (by decide) _ _,fun x hx=>own_off (h.r x hx) h.c (by decide) _ _,h.nd,h.ln,by rw [List.length_set]; exact h.cl,h.bw,h.bc⟩
theorem WyAt.cur (h:WyAt W B g gw gc m come (x :: r) Aw cw) (hO:Only (fun k=>(wayC x).ownBlock=some k) W W2) (hrow:RowOf W2 B x') (h3:3 ≤ x'.2.length) (hblk:(wayC x').ownBlock=(wayC x).ownBlock ∨ ∃ k,(wayC x').ownBlock=some k ∧ W.heap.size ≤ k) :
  WyAt (W2.setCell ⟨gw,2,none⟩ (wayC x')) B g gw gc m come (x' :: r) Aw cw:=by
 have hx:=h.r x (.head _)
 have hgw:(wayC x).ownBlock ≠ some gw:=own_blk_ne hx h.k (by decide)
 have hgc:(wayC x).ownBlock ≠ some gc:=own_blk_ne hx h.c (by decide)
 have k2:=h.k.only hO hgw
 have c2:=h.c.only hO hgc
 have w2:W2.ownsRow B 30 1 (.slice Aw ((x :: r).length - 1) cw) ((x :: r).length - 1) ((x :: r).tail.reverse.map wayC):=own_same h.w fun k hk=>hO.block k (h.w.lt k hk).2 fun e=>by
  obtain ⟨c1,b1⟩:=own_blk hx e
  exact own_blk_ne h.w b1 (by decide) hk
 obtain ⟨hn1,hn2⟩:=List.nodup_cons.1 h.nd
 have r2:∀ z ∈ r,RowOf W2 B z:=fun z hz=>own_same (h.r z (.tail _ hz)) fun k hk=>hO.block k ((h.r z (.tail _ hz)).lt k hk).2 fun e=>hn1 (by
  show (wayC x).ownBlock ∈ _
  rw [e,← hk]
  exact List.mem_map_of_mem (f:=fun x=>(wayC x).ownBlock) hz)
 refine ⟨k2.set_ 2 _,c2.far (p:=⟨gw,2,none⟩) h.ne_gc.symm _,own_off w2 k2 (by decide) _ _,fun z hz=>?_,?_,fun z hz=>?_,h.cl,h.bw,h.bc⟩
 · rcases List.mem_cons.1 hz with rfl | hz
   · exact own_off hrow k2 (by decide) _ _
   exact own_off (r2 z hz) k2 (by decide) _ _
 · refine List.nodup_cons.2 ⟨fun hm=>?_,hn2⟩
   obtain ⟨z,hz,e⟩:=List.mem_map.1 hm
   rcases hblk with e' | ⟨k,e',hk⟩
   · exact hn1 (by
      show (wayC x).ownBlock ∈ _
      rw [← e']
      exact List.mem_map.2 ⟨z,hz,e⟩)
   · have:=((h.r z (.tail _ hz)).lt k (e.trans e')).2
     omega
 rcases List.mem_cons.1 hz with rfl | hz
 · exact h3
 exact h.ln z (.tail _ hz)
theorem WyAt.push {A':Option Addr} {c':Nat} (h:WyAt W B g gw gc m come (x :: r) Aw cw) (hO:Only (fun k=>(Value.slice Aw r.length cw).ownBlock=some k) W W2) (hy:RowOf W2 B y) (h3:3 ≤ y.2.length) (hblk:∃ k,(wayC y).ownBlock=some k ∧ W.heap.size ≤ k)
  (hw:W2.ownsRow B 30 1 (.slice A' (r.length + 1) c') (r.length + 1) (r.reverse.map wayC ++ [wayC y])):WyAt (W2.setCell ⟨gw,3,none⟩ (.slice A' (r.length + 1) c')) B g gw gc m come (x :: y :: r) A' c':=by
 have hgw:(Value.slice Aw r.length cw).ownBlock ≠ some gw:=own_blk_ne h.w h.k (by decide)
 have hgc:(Value.slice Aw r.length cw).ownBlock ≠ some gc:=own_blk_ne h.w h.c (by decide)
 have k2:=h.k.only hO hgw
 have c2:=h.c.only hO hgc
 have r2:∀ z ∈ x :: r,RowOf W2 B z:=fun z hz=>own_same (h.r z hz) fun k hk=>hO.block k ((h.r z hz).lt k hk).2 fun e=>by
  obtain ⟨c1,b1⟩:=own_blk h.w e
  exact own_blk_ne (h.r z hz) b1 (by decide) hk
 obtain ⟨hn1,hn2⟩:=List.nodup_cons.1 h.nd
 obtain ⟨k,ek,hk⟩:=hblk
 have hyn:∀ z ∈ x :: r,(wayC z).ownBlock ≠ some k:=fun z hz e=>by
  have:=((h.r z hz).lt k e).2
  omega
 refine ⟨k2.set_ 3 _,c2.far (p:=⟨gw,3,none⟩) h.ne_gc.symm _,?_,fun z hz=>?_,?_,fun z hz=>?_,h.cl,h.bw,h.bc⟩
 · have:(List.map wayC (x :: y :: r).tail.reverse)=r.reverse.map wayC ++ [wayC y]:=by simp
   rw [this]
   exact own_off hw k2 (by decide) _ _
 · rcases List.mem_cons.1 hz with rfl | hz
   · exact own_off (r2 _ (.head _)) k2 (by decide) _ _
   rcases List.mem_cons.1 hz with rfl | hz
   · exact own_off hy k2 (by decide) _ _
   exact own_off (r2 z (.tail _ hz)) k2 (by decide) _ _
 · refine List.nodup_cons.2 ⟨fun hm=>?_,List.nodup_cons.2 ⟨fun hm=>?_,hn2⟩⟩
   · rcases List.mem_cons.1 hm with e | hm
     · exact hyn x (.head _) (e.trans ek)
     exact hn1 hm
   obtain ⟨z,hz,e⟩:=List.mem_map.1 hm
   exact hyn z (.tail _ hz) (e.trans ek)
 rcases List.mem_cons.1 hz with rfl | hz
 · exact h.ln _ (.head _)
 rcases List.mem_cons.1 hz with rfl | hz
 · exact h3
 exact h.ln z (.tail _ hz)
theorem WyAt.gone (h:WyAt W B g gw gc m come [x] Aw cw):WyAt (W.setCell ⟨gw,2,none⟩ (.slice none 0 0)) B g gw gc m come [] Aw cw :=
 ⟨h.k.set_ 2 _,h.c.far (p:=⟨gw,2,none⟩) h.ne_gc.symm _,own_off h.w h.k (by decide) _ _,(fun z hz=>by cases hz),List.nodup_nil,(fun z hz=>by cases hz),h.cl,h.bw,h.bc⟩
theorem own_cut {e:TypeId} {n n' c:Nat} {A:Option Addr} {xs:List Value} (h:W.ownsRow B e 1 (.slice A n c) n xs) (hn:n' ≤ n):W.ownsRow B e 1 (.slice A n' c) n' (xs.take n'):=by
 obtain ⟨h1,h2⟩:=h
 refine ⟨by rw [List.length_take]; omega,?_⟩
 rcases h2 with ⟨e1,h0⟩ | ⟨g1,cap,cur,e1,h3,h4,h5,h6,h7,h8⟩
 · injection e1 with a1 a2 a3
   subst a1 a3
   obtain rfl:n'=0:=by omega
   exact .inl ⟨rfl,rfl⟩
 injection e1 with a1 a2 a3
 subst a1 a3
 refine .inr ⟨g1,c,cur,rfl,h3,h4,by omega,h6,h7,?_⟩
 rw [← h8,List.take_take]
 congr 1
 omega
theorem WyAt.pop (h:WyAt W B g gw gc m come (x :: y :: r) Aw cw):WyAt (((W.setCell ⟨gw,2,none⟩ (.slice none 0 0)).setCell ⟨gw,2,none⟩ (wayC y)).setCell ⟨gw,3,none⟩ (.slice Aw r.length cw)) B g gw gc m come (y :: r) Aw cw:=by
 have k1:=h.k.set_ 2 (.slice none 0 0)
 have k2:=k1.set_ 2 (wayC y)
 have off:∀ {e:TypeId} {s n:Nat} {v:Value} {xs:List Value},W.ownsRow B e s v n xs → e ≠ 125 → (((W.setCell ⟨gw,2,none⟩ (.slice none 0 0)).setCell ⟨gw,2,none⟩ (wayC y)).setCell ⟨gw,3,none⟩ (.slice Aw r.length cw)).ownsRow B e s v n xs:=fun ho hne =>
  own_off (own_off (own_off ho h.k hne _ _) k1 hne _ _) k2 hne _ _
 refine ⟨k2.set_ 3 _,((h.c.far (p:=⟨gw,2,none⟩) h.ne_gc.symm _).far (p:=⟨gw,2,none⟩) h.ne_gc.symm _).far (p:=⟨gw,3,none⟩) h.ne_gc.symm _,?_,fun z hz=>off (h.r z (.tail _ hz)) (by decide),(List.nodup_cons.1 h.nd).2,fun z hz=>h.ln z (.tail _ hz),h.cl,h.bw,h.bc⟩
 have hc:=own_cut (n':=r.length) h.w (by simp)
 have e:(List.map wayC (x :: y :: r).tail.reverse).take r.length=r.reverse.map wayC:=by
  have:(x :: y :: r).tail.reverse.map wayC=r.reverse.map wayC ++ [wayC y]:=by simp
  rw [this]
  exact List.take_left' (by simp)
 rw [e] at hc
 exact off hc (by decide)
theorem WyAt.next_cell (h:WyAt W B g gw gc m come (x :: y :: r) Aw cw):∃ ga,Aw=some ⟨ga,0,none⟩ ∧ W.cell? ⟨ga,r.length,none⟩=some (wayC y) ∧ r.length + 1 ≤ cw:=by
 obtain ⟨ga,c1,hf,hc⟩:=World.ownsRow.form h.w (by simp)
 injection hf with hA hn hcc
 refine ⟨ga,hA,?_,?_⟩
 · have:=World.ownsRow.cells (hA ▸ h.w) (g:=ga) rfl r.length (wayC y) (by
    have:(x :: y :: r).tail.reverse.map wayC=r.reverse.map wayC ++ [wayC y]:=by simp
    rw [this,List.getElem?_append_right (by simp)]
    simp)
   rw [show (⟨ga,r.length,none⟩:Addr)=(⟨ga,0,none⟩:Addr).add r.length by simp [Addr.add]]
   exact this
 · obtain ⟨A,c2,e,hle⟩:=own_form h.w
   injection e with _ _ e
   rw [e]
   simpa using hle
end
end
section
structure WyC (W:World) (gw gl:Nat) (t0 t1 t2 t3:Value) (a b:Int):Prop where
 c0:W.cell? ⟨gw,0,none⟩=some t0
 c1:W.cell? ⟨gw,1,none⟩=some t1
 c2:W.cell? ⟨gw,2,none⟩=some t2
 c3:W.cell? ⟨gw,3,none⟩=some t3
 l0:W.cell? ⟨gl,0,none⟩=some (.int .i64 a)
 l1:W.cell? ⟨gl,1,none⟩=some (.int .i64 b)
 k0:gw < W.heap.size
 k1:gl < W.heap.size
section
variable {W W2:World} {gw gl:Nat} {t0 t1 t2 t3:Value} {a b:Int}
theorem WyC.below (h:WyC W gw gl t0 t1 t2 t3 a b) (hb:Below W.heap.size W W2):WyC W2 gw gl t0 t1 t2 t3 a b :=
 ⟨(hb.cell h.k0).trans h.c0,(hb.cell h.k0).trans h.c1,(hb.cell h.k0).trans h.c2,(hb.cell h.k0).trans h.c3,(hb.cell h.k1).trans h.l0,(hb.cell h.k1).trans h.l1,Nat.lt_of_lt_of_le h.k0 hb.size,Nat.lt_of_lt_of_le h.k1 hb.size⟩
theorem WyC.grown {k:Option Nat} (h:WyC W gw gl t0 t1 t2 t3 a b) (hg:W.grownBy W2 k) (h1:some gw ≠ k) (h2:some gl ≠ k):WyC W2 gw gl t0 t1 t2 t3 a b :=
 ⟨(World.cell?_of_block (hg.block gw h.k0 h1)).trans h.c0,(World.cell?_of_block (hg.block gw h.k0 h1)).trans h.c1,(World.cell?_of_block (hg.block gw h.k0 h1)).trans h.c2,(World.cell?_of_block (hg.block gw h.k0 h1)).trans h.c3,
  (World.cell?_of_block (hg.block gl h.k1 h2)).trans h.l0,(World.cell?_of_block (hg.block gl h.k1 h2)).trans h.l1,Nat.lt_of_lt_of_le h.k0 hg.size,Nat.lt_of_lt_of_le h.k1 hg.size⟩
theorem headD_at (R:List Int):R.getD 0 0=R.headD default:=by cases R <;> rfl
theorem WyC.drew (h:WyC W gw gl t0 t1 t2 t3 a b):WyC W.drew gw gl t0 t1 t2 t3 a b:=h.below (bw_drew (Below.refl _ _))
theorem WyC.alloc (h:WyC W gw gl t0 t1 t2 t3 a b) (o:Obj):WyC (W.alloc o) gw gl t0 t1 t2 t3 a b:=h.below (bw_alloc (Below.refl _ _) o)
end
section
variable {W:World} {B g gw gc m cw:Nat} {come:List Bool} {r:List Way} {x:Way} {Aw:Option Addr}
theorem WyAt.cells (h:WyAt W B g gw gc m come (x :: r) Aw cw):∃ gl,x.1.1=some ⟨gl,0,none⟩ ∧ x.2.length ≤ x.1.2 ∧ WyC W gw gl (.pointer (some ⟨g,0,none⟩)) (.slice (some ⟨gc,0,none⟩) m m) (.slice (some ⟨gl,0,none⟩) x.2.length x.1.2) (.slice Aw r.length cw) (x.2.getD 0 0) (x.2.getD 1 0):=by
 have hx:=h.r x (.head _)
 have h3:=h.ln x (.head _)
 obtain ⟨gl,c1,hf,_⟩:=World.ownsRow.form hx (by omega)
 have hf':Value.slice x.1.1 x.2.length x.1.2=.slice (some ⟨gl,0,none⟩) x.2.length c1:=hf
 injection hf' with hA _ hcc
 have hat:∀ j,j < x.2.length → W.cell? ⟨gl,j,none⟩=some (.int .i64 (x.2.getD j 0)):=fun j hj=>by
  have:=World.ownsRow.cells hx (g:=gl) (by rw [hf]; rfl) j (.int .i64 (x.2.getD j 0)) (by rw [zl_get,List.getElem?_eq_getElem hj,List.getD_eq_getElem?_getD,List.getElem?_eq_getElem hj]; rfl)
  rw [show (⟨gl,j,none⟩:Addr)=(⟨gl,0,none⟩:Addr).add j by simp [Addr.add]]
  exact this
 obtain ⟨A2,c2,e2,hle⟩:=own_form hx
 have e2':Value.slice x.1.1 x.2.length x.1.2=.slice A2 x.2.length c2:=e2
 injection e2' with _ _ e3
 refine ⟨gl,hA,by omega,⟨h.k.cell 0,h.k.cell 1,?_,h.k.cell 3,hat 0 (by omega),hat 1 (by omega),h.k.lt,(hx.lt gl (by show (Value.slice x.1.1 _ _).ownBlock=_; rw [hA]; rfl)).2⟩⟩
 rw [h.k.cell 2]
 show some (wayC x)=_
 unfold wayC
 rw [hA]
theorem WyAt.cellsC {gl cx n rl:Nat} {R:List Int} {a b:Int} (h:WyAt W B g gw gc m come (((some ⟨gl,0,none⟩,cx),R) :: r) Aw cw) (hn:n=R.length) (hrl:rl=r.length) (ha:a=R.getD 0 0) (hb:b=R.getD 1 0) :
  WyC W gw gl (.pointer (some ⟨g,0,none⟩)) (.slice (some ⟨gc,0,none⟩) m m) (.slice (some ⟨gl,0,none⟩) n cx) (.slice Aw rl cw) a b:=by
 obtain ⟨gl',hA,_,hC⟩:=h.cells
 have hA:some (⟨gl,0,none⟩:Addr)=some ⟨gl',0,none⟩:=hA
 injection hA with hA
 injection hA with hA
 subst hA
 rw [hn,hrl,ha,hb]
 exact hC
theorem WyAt.setOut {M:List Way} {k i:Nat} (h:WyAt W B g gw gc m come M Aw cw) (hk:¬ OWy gw gc M Aw k) (u:Value):WyAt (W.setCell ⟨k,i,none⟩ u) B g gw gc m come M Aw cw :=
 h.only ((Only.refl (fun j=>j=k) W).setCell (.inl rfl) u) fun j hj e=>hk (e ▸ hj)
theorem blk_set4 {w:World} {g:Nat} {t:TypeId} {z0 z1 z2 z3 a b c d:Value} (h:Blk w g t #[z0,z1,z2,z3]):Blk ((((w.setCell ⟨g,0,none⟩ a).setCell ⟨g,1,none⟩ b).setCell ⟨g,2,none⟩ c).setCell ⟨g,3,none⟩ d) g t #[a,b,c,d]:=by
 have:=(((h.set_ 0 a).set_ 1 b).set_ 2 c).set_ 3 d
 simpa using this
def stepL (come:List Bool) (R:List Int) (more:List (List Int)) (v:Nat):Nat × List Bool × List (List Int) :=
 if come.getD v false=true then
  if R.length=3 then (69,come,more)
  else if R.idxOf (v:Int)=R.length - 1 then (76,come,((v:Int) :: (R.drop 1).take (R.length - 2)) :: more)
  else if R.idxOf (v:Int)=2 then (82,come,(R.headD default :: R.drop 2) :: more)
  else (83,come,(R.headD default :: R.drop (R.idxOf (v:Int))) :: ((v:Int) :: (R.take (R.idxOf (v:Int))).drop 1) :: more)
 else (67,come.set v true,(R.headD default :: (v:Int) :: R.drop 1) :: more)
def StepPost (W:World) (B g gw gc m cw:Nat) (come:List Bool) (x:Way) (r:List Way) (Aw:Option Addr) (c v:Nat) (e:Ending) (W':World):Prop :=
 ∃ (k:Nat) (come':List Bool) (M':List Way) (Aw':Option Addr) (cw':Nat),e=.returned (.tuple #[.agg #[.int .u8 (k:Int),.int .i64 (c:Int),.int .i64 (r.length:Int),.int .i64 (x.2.length:Int)],.bool true]) ∧
  stepL come x.2 (r.map (·.2)) v=(k,come',M'.map (·.2)) ∧ WyAt W' B g gw gc m come' M' Aw' cw' ∧ Only (OWy gw gc (x :: r) Aw) W W' ∧ ∀ b,OWy gw gc M' Aw' b → OWy gw gc (x :: r) Aw b ∨ W.heap.size ≤ b
theorem step_fin {w8:World} {c v k b0 cw':Nat} {come':List Bool} {M':List Way} {Aw':Option Addr} {z0 z1 z2 z3:Value} {n rl:Nat} (hS:Blk w8 b0 55 #[z0,z1,z2,z3]) (hO:Only (OWy gw gc (x :: r) Aw) W w8) (hM:WyAt w8 B g gw gc m come' M' Aw' cw')
  (hb0:W.heap.size ≤ b0) (hne:¬ OWy gw gc M' Aw' b0) (hst:stepL come x.2 (r.map (·.2)) v=(k,come',M'.map (·.2))) (how:∀ b,OWy gw gc M' Aw' b → OWy gw gc (x :: r) Aw b ∨ W.heap.size ≤ b) (hn:n=x.2.length) (hrl:rl=r.length) :
  StepPost W B g gw gc m cw come x r Aw c v (.returned (.tuple #[.agg #[.int .u8 (k:Int),.int .i64 (c:Int),.int .i64 (rl:Int),.int .i64 (n:Int)],.bool true])) ((((w8.setCell ⟨b0,0,none⟩ (.int .u8 (k:Int))).setCell ⟨b0,1,none⟩ (.int .i64 (c:Int))).setCell ⟨b0,2,none⟩ (.int .i64 (rl:Int))).setCell ⟨b0,3,none⟩ (.int .i64 (n:Int))):=by
 subst hn hrl
 exact ⟨k,come',M',Aw',cw',rfl,hst,(((hM.setOut hne _).setOut hne _).setOut hne _).setOut hne _,(((hO.setCell (p:=⟨b0,0,none⟩) (.inr hb0) _).setCell (p:=⟨b0,1,none⟩) (.inr hb0) _).setCell (p:=⟨b0,2,none⟩) (.inr hb0) _).setCell (p:=⟨b0,3,none⟩) (.inr hb0) _,how⟩
end
section
variable {P:Program}
theorem run_slice_two {t e:TypeId} {i:TypeInfo} (ht:P.underlying t=some (.slice e)) (hi:P.info? e=some i) (A:Option Addr) (n c lo h:Nat) (h1:lo ≤ h) (h2:h ≤ c) (w:World) :
  (Instr.slice t (.slice A n c) (some (.int .i64 (lo:Int))) (some (.int .i64 (h:Int))) none).run P w=.ok (.slice (if c=lo then A else A.map (·.add (lo * i.size))) (h - lo) (c - lo)) w:=by
 have e1:¬ c < h:=by omega
 have e2:¬ h < lo:=by omega
 simp [Instr.slice,run_underlying ht,Instr.sliceBounds,Instr.sliceBound,asIntOf,sizeOf,typeInfo,hi,e1,e2,h1,h2]
end
theorem run_nilW_yes (n c:Nat) (w:World):(binOp .eql 30 (.slice none n c) (.slice none 0 0)).run Tryz.prog w=.ok (.bool true) w:=by kernel_rfl
theorem run_nilW_no (ad:Addr) (n c:Nat) (w:World):(binOp .eql 30 (.slice (some ad) n c) (.slice none 0 0)).run Tryz.prog w=.ok (.bool false) w:=by kernel_rfl
theorem row_infoW:(Tryz.prog.info? 30).map (fun i=>(i.zero,i.size,i.bytes))=some (some (.slice none 0 0),1,24):=by kernel_rfl
theorem WyAt.popD {W:World} {B g gw gc m cw:Nat} {come:List Bool} {x y:Way} {r:List Way} {Aw:Option Addr} (h:WyAt W B g gw gc m come (x :: y :: r) Aw cw):WyAt ((((W.setCell ⟨gw,2,none⟩ (.slice none 0 0)).setCell ⟨gw,2,none⟩ (wayC y)).drew).setCell ⟨gw,3,none⟩ (.slice Aw r.length cw)) B g gw gc m come (y :: r) Aw cw:=h.pop.drew
theorem own_new1 (w:World) (B:Nat) (t:TypeId) (u:Value) (hB:B ≤ w.heap.size):(w.alloc (.cells #[u] t)).ownsRow B t 1 (.slice (some ⟨w.heap.size,0,none⟩) 1 1) 1 [u] :=
 own_of_cells (cur:=#[u]) (Blk.new w t #[u]) hB rfl (Nat.le_refl _) (by simp [maxLen]) fun j v hj=>by
  rw [(Blk.new w t #[u]).cell]
  match j,hj with
  | 0,hj=>exact hj
structure WyD (W:World) (gw ga rk:Nat) (t3 yv:Value):Prop where
 c3:W.cell? ⟨gw,3,none⟩=some t3
 cy:W.cell? ⟨ga,rk,none⟩=some yv
 k0:gw < W.heap.size
 k1:ga < W.heap.size
section
variable {W W1 W2:World} {gw ga rk gl n cx:Nat} {t3 yv:Value} {R:List Int} {B:Nat}
theorem WyD.below (h:WyD W gw ga rk t3 yv) (hb:Below W.heap.size W W2):WyD W2 gw ga rk t3 yv :=
 ⟨(hb.cell h.k0).trans h.c3,(hb.cell h.k1).trans h.cy,Nat.lt_of_lt_of_le h.k0 hb.size,Nat.lt_of_lt_of_le h.k1 hb.size⟩
theorem WyD.drew (h:WyD W gw ga rk t3 yv):WyD W.drew gw ga rk t3 yv:=h.below (bw_drew (Below.refl _ _))
theorem WyD.set (h:WyD W gw ga rk t3 yv) (hne:ga ≠ gw) (u:Value):WyD (W.setCell ⟨gw,2,none⟩ u) gw ga rk t3 yv :=
 ⟨by rw [World.cell?_setCell_other _ _ _ _ (by intro e; injection e with _ e; cases e)]; exact h.c3,
  by rw [World.cell?_setCell_other _ _ _ _ (by intro e; injection e with e _; exact hne e.symm)]; exact h.cy,by simpa using h.k0,by simpa using h.k1⟩
theorem reads_mid (h:W.ownsRow B 3 1 (.slice (some ⟨gl,0,none⟩) n cx) n (ZL R)) {lo hi:Nat} (h1:lo < hi) (h2:hi ≤ n):Reads W W.heap.size 1 (some ⟨gl,lo,none⟩) (hi - lo) (ZL ((R.take hi).drop lo)):=by
 have hln:R.length=n:=by have:=h.1; rw [zl_len] at this; omega
 refine ⟨by rw [zl_len,List.length_drop,List.length_take]; omega,fun _=>⟨_,rfl,(h.lt gl rfl).2,fun k u hk=>?_⟩⟩
 rw [zl_get,List.getElem?_drop,List.getElem?_take] at hk
 have hkl:lo + k < hi:=by
  by_cases e:lo + k < hi
  · exact e
  rw [if_neg e] at hk
  cases hk
 rw [if_pos hkl,← zl_get] at hk
 have:=World.ownsRow.cells h (g:=gl) rfl (lo + k) u hk
 rw [show (⟨gl,0,none⟩:Addr).add (lo + k)=(⟨gl,lo,none⟩:Addr).add k by
  have h0:lo + k ≠ 0 ∨ lo + k=0:=by omega
  unfold Addr.add
  split <;> split <;> simp_all <;> omega] at this
 exact this
theorem app_way {b m c5:Nat} {A5:Option Addr} {u:Int} {news:List Int} (hW:Only (fun _=>False) W W1) (hb:W.heap.size ≤ b) (hm:news.length=m) (hown:W2.ownsRow B 3 1 (.slice A5 (1 + m) c5) (1 + m) ([.int .i64 u] ++ ZL news)) (hg:W1.grownBy W2 (some b)) (hat:(Value.slice A5 (1 + m) c5).ownBlock=some b ∨ (Value.slice A5 (1 + m) c5).ownBlock=some W1.heap.size) :
  RowOf W2 B ((A5,c5),u :: news) ∧ (∃ k,(wayC ((A5,c5),u :: news)).ownBlock=some k ∧ W.heap.size ≤ k) ∧ Only (fun _=>False) W W2 ∧ wayC ((A5,c5),u :: news)=.slice A5 (1 + m) c5:=by
 have e:(u :: news).length=1 + m:=by rw [List.length_cons]; omega
 refine ⟨?_,?_,hW.grown hg fun k e=>by injection e with e; exact .inr (by omega),by show Value.slice A5 (u :: news).length c5=_; rw [e]⟩
 · show W2.ownsRow B 3 1 (.slice A5 (u :: news).length c5) (u :: news).length _
   rw [e]
   exact hown
 have hs:=hW.size
 show ∃ k,(Value.slice A5 (u :: news).length c5).ownBlock=some k ∧ _
 rw [e]
 rcases hat with h | h
 · exact ⟨b,h,hb⟩
 exact ⟨_,h,hs⟩
end
end
end Go.Proofs.YtffmfhkiienmaaaGreat
