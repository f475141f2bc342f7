/- Rows of triangles of the call's own: read, written, beside each other. No condition. -/
import Derived.Test.YtffmfhkiienmaaaGreatOpenS
import Derived.Test.YtffmfhkiienmaaaGreatCert2
import Derived.Test.YtffmfhkiienmaaaGreatB1
import Derived.Deep.QuietTactic
import Derived.Deep.RegionHeld3
import Derived.WalkSpells
import Derived.WalkLawsBesides
import Derived.BigQuiet
import Derived.Deep.DeepCutAuto
set_option maxRecDepth 100000
set_option maxHeartbeats 16000000
set_option linter.all false
namespace Go.Proofs.YtffmfhkiienmaaaGreat
open Go.RowKit
section
theorem tri_at {T:List Tri} {i:Nat} (h:i < T.length):T[i]?=some (tri T i):=by
 rw [tri_of (List.getElem?_eq_getElem h)]
 exact List.getElem?_eq_getElem h
theorem below_drew {B:Nat} {a w:World} (h:Below B a w):Below B a w.drew:=below_drewN h 1
theorem below_drewN {B:Nat} {a w:World} (h:Below B a w) (n:Nat):Below B a (w.drewN n):=⟨h.os,h.tape,h.output,h.size,h.block⟩
def BoolPost (w:World) (b:Bool) (e:Ending) (w':World):Prop:=e=.returned (.bool b) ∧ Below w.heap.size w w'
theorem ltri_info:(Tryz.prog.info? 65).map (fun i=>(i.zero,i.size,i.bytes))=some (some (.agg #[.int .i64 0,.int .i64 0,.int .i64 0]),3,24):=by kernel_rfl
def LRow (w:World) (B:Nat) (A:Option Addr) (c:Nat) (L:List Tri):Prop:=w.ownsRow B 65 3 (.slice A L.length c) L.length (L.flatMap Tri.cells)
def LRel (w wr:World) (L:List Tri) (v:Value):Prop:=∃ A c,v=.slice A L.length c ∧ Hid (LRow wr w.heap.size A c L) ∧ Hid (Below w.heap.size w wr)
theorem LRel.start0 (w:World):LRel w w [] (.slice none 0 0):=⟨none,0,rfl,jJ (World.ownsRow_nil _ _ _ _),jJ (Below.refl _ _)⟩
theorem LRel.keep {w wr w':World} {L:List Tri} {v:Value} (h:LRel w wr L v) (hb:Below wr.heap.size wr w'):LRel w w' L v:=by
 obtain ⟨A,c,e,h1,h2⟩:=h
 exact ⟨A,c,e,jJ (own_same h1.out fun k hk=>hb.block k (h1.out.lt k hk).2),jJ (h2.out.trans (hb.mono h2.out.size))⟩
theorem LRel.grow {w wr wx w1:World} {L:List Tri} {x:Tri} {A A1:Option Addr} {c c1:Nat} (hO:Hid (LRow wr w.heap.size A c L)) (hB:Hid (Below w.heap.size w wr)) (hx:Below wr.heap.size wr wx)
  (h1:w1.ownsRow w.heap.size 65 3 (.slice A1 (L.length + 1) c1) (L.length + 1) (L.flatMap Tri.cells ++ Tri.cells x)) (hg:wx.grownBy w1 (Value.slice A L.length c).ownBlock):LRel w w1 (L ++ [x]) (.slice A1 (L.length + 1) c1):=by
 refine ⟨A1,c1,by simp,jJ ?_,jJ ?_⟩
 · unfold LRow
   rw [List.flatMap_append]
   simpa using h1
 exact (hB.out.trans (hx.mono hB.out.size)).grown hg (Nat.le_trans hB.out.size hx.size) fun k hk=>(hO.out.lt k hk).1
theorem LRow.grown {w w':World} {B:Nat} {A:Option Addr} {c:Nat} {L:List Tri} {row:Option Nat} (h:LRow w B A c L) (hg:w.grownBy w' row) (hne:∀ k,(Value.slice A L.length c).ownBlock=some k → some k ≠ row):LRow w' B A c L :=
 own_same h fun k hk=>hg.block k (h.lt k hk).2 (hne k hk)
theorem LRow.below {w w':World} {B:Nat} {A:Option Addr} {c:Nat} {L:List Tri} (h:LRow w B A c L) (hb:Below w.heap.size w w'):LRow w' B A c L :=
 own_same h fun k hk=>hb.block k (h.lt k hk).2
theorem LRow.setSoup {w:World} {B:Nat} {A:Option Addr} {c g i:Nat} {L:List Tri} {cs:Array Value} (h:LRow w B A c L) (hb:Blk w g 24 cs) (u:Value):LRow (w.setCell ⟨g,i,none⟩ u) B A c L:=by
 refine own_same h fun k hk=>?_
 obtain ⟨ds,hd⟩:=own_blk h hk
 exact Below.heap_setCell _ _ _ _ (hd.ne_ hb (by decide))
theorem LRow.tris {w:World} {B:Nat} {A:Option Addr} {c:Nat} {L:List Tri} (h:LRow w B A c L):TrisAt w w.heap.size A L.length L:=TrisAt.mk_ (Reads.of_own h)
theorem LRow.alloc {w:World} {B:Nat} {A:Option Addr} {c:Nat} {L:List Tri} (h:LRow w B A c L) (o:Obj):LRow (w.alloc o) B A c L:=h.below ((Below.refl _ _).alloc (Nat.le_refl _) _)
theorem soup_tri_ne {w:World} {B:Nat} {A:Option Addr} {c g:Nat} {L:List Tri} {cs:Array Value} (h:LRow w B A c L) (hb:Blk w g 24 cs):∀ k,(Value.slice A L.length c).ownBlock=some k → k ≠ g:=fun k hk=>by
 obtain ⟨ds,hd⟩:=own_blk h hk
 exact hd.ne_ hb (by decide)
theorem bw_drew {a w:World} (h:Below a.heap.size a w):Below a.heap.size a w.drew:=below_drew h
theorem bw_alloc {a w:World} (h:Below a.heap.size a w) (o:Obj):Below a.heap.size a (w.alloc o):=h.alloc h.size o
theorem bw_set {a w:World} (h:Below a.heap.size a w) {p:Addr} (hp:a.heap.size ≤ p.block) (u:Value):Below a.heap.size a (w.setCell p u):=h.setCell hp u
theorem bw_call {a w w':World} (h:Below a.heap.size a w) (hb:Below w.heap.size w w'):Below a.heap.size a w':=h.trans (hb.mono h.size)
theorem bw_grow {a w w':World} {row:Option Nat} (h:Below a.heap.size a w) (hg:w.grownBy w' row) (hr:∀ k,row=some k → a.heap.size ≤ k):Below a.heap.size a w':=h.grown hg h.size hr
theorem bw_size {a w:World} (h:Below a.heap.size a w):a.heap.size ≤ w.heap.size:=h.size
theorem tris_on {a w:World} {q:Option Addr} {n:Nat} {T:List Tri} (h:Below a.heap.size a w) (ht:TrisAt a a.heap.size q n T):TrisAt w w.heap.size q n T:=(ht.below h).more h.size
theorem own_at {w:World} {base g:Nat} {t:TypeId} {size:Nat} (h:Blk w g t #[]) (hb:base ≤ g):w.ownsRow base t size (.slice (some ⟨g,0,none⟩) 0 0) 0 [] :=
 ⟨by simp,.inr ⟨g,0,#[],rfl,hb,h,Nat.le_refl _,Nat.zero_le _,by simp,by simp⟩⟩
theorem soup_set {w:World} {g:Nat} {x y:Value} (h:Blk w g 24 #[x,y]) (u v:Value):Blk ((w.setCell ⟨g,0,none⟩ u).setCell ⟨g,1,none⟩ v) g 24 #[u,v]:=by
 simpa using (h.set_ 0 u).set_ 1 v
theorem soup_set1 {w:World} {g:Nat} {x y:Value} (h:Blk w g 24 #[x,y]) (v:Value):Blk (w.setCell ⟨g,1,none⟩ v) g 24 #[x,v]:=by
 simpa using h.set_ 1 v
theorem LRow.soup_set {w:World} {B:Nat} {A:Option Addr} {c g:Nat} {L:List Tri} {x y:Value} (h:LRow w B A c L) (hb:Blk w g 24 #[x,y]) (u v:Value):LRow ((w.setCell ⟨g,0,none⟩ u).setCell ⟨g,1,none⟩ v) B A c L :=
 (h.setSoup hb u).setSoup (hb.set_ 0 u) v
theorem lrow_of {w:World} {B:Nat} {A:Option Addr} {c n:Nat} {L:List Tri} {cs:List Value} (h:w.ownsRow B 65 3 (.slice A n c) n cs) (hn:n=L.length) (hc:cs=L.flatMap Tri.cells):LRow w B A c L:=by
 subst hn hc
 exact h
def TBlk (w:World) (g:Nat) (L:List Tri):Prop:=∃ cs,Blk w g 65 cs ∧ ∀ i t,L[i]?=some t → cs[i * 3]?=some (.int .i64 t.a) ∧ cs[i * 3 + 1]?=some (.int .i64 t.b) ∧ cs[i * 3 + 2]?=some (.int .i64 t.c)
section
variable {w w':World} {g:Nat} {L:List Tri}
theorem TBlk.lt (h:TBlk w g L):g < w.heap.size:=by
 obtain ⟨_,h,_⟩:=h
 exact h.lt
theorem TBlk.below {B:Nat} (h:TBlk w g L) (hb:Below B w w') (hg:g < B):TBlk w' g L:=by
 obtain ⟨cs,h,h'⟩:=h
 exact ⟨cs,h.below hb hg,h'⟩
theorem TBlk.alloc (h:TBlk w g L) (o:Obj):TBlk (w.alloc o) g L:=by
 obtain ⟨cs,h,h'⟩:=h
 exact ⟨cs,h.alloc o,h'⟩
theorem TBlk.far (h:TBlk w g L) {p:Addr} (hp:g ≠ p.block) (u:Value):TBlk (w.setCell p u) g L:=by
 obtain ⟨cs,h,h'⟩:=h
 exact ⟨cs,h.far hp u,h'⟩
theorem TBlk.frozen (h:TBlk w g L) (i:Nat):w.frozen? ⟨g,i,none⟩=false:=by
 obtain ⟨cs,h,h'⟩:=h
 exact h.frozen i
theorem TBlk.cells (h:TBlk w g L) {i:Nat} {t:Tri} (ht:L[i]?=some t) :
  w.cell? ⟨g,i * 3,none⟩=some (.int .i64 t.a) ∧ w.cell? ⟨g,i * 3 + 1,none⟩=some (.int .i64 t.b) ∧ w.cell? ⟨g,i * 3 + 2,none⟩=some (.int .i64 t.c):=by
 obtain ⟨cs,h,h'⟩:=h
 rw [h.cell,h.cell,h.cell]
 exact h' i t ht
theorem tri_at3 {L:List Tri} {j:Nat} {u:Value} (h:(L.flatMap Tri.cells)[j]?=some u):∃ t,L[j / 3]?=some t ∧ t.cells[j % 3]?=some u:=by
 have hl:=flatMap_len 3 Tri.cells (fun _=>rfl) L
 have hj:j < L.length * 3:=by rw [← hl]; exact (List.getElem?_eq_some_iff.1 h).1
 have hq:L[j / 3]?=some L[j / 3]:=List.getElem?_eq_getElem (by omega)
 refine ⟨_,hq,?_⟩
 rw [← flatMap_at 3 Tri.cells (fun _=>rfl) L (j / 3) (j % 3) _ hq (by omega),show j / 3 * 3 + j % 3=j by omega]
 exact h
theorem TBlk.reads (h:TBlk w g L) {B:Nat} (hB:g < B):Reads w B 3 (some ⟨g,0,none⟩) L.length (L.flatMap Tri.cells):=by
 refine ⟨by rw [flatMap_len 3 _ (fun _=>rfl)],fun _=>⟨_,rfl,hB,fun j u hj=>?_⟩⟩
 have e:(⟨g,0,none⟩:Addr).add j=⟨g,j,none⟩:=by unfold Addr.add; split <;> simp_all
 rw [e]
 obtain ⟨t,ht,hu⟩:=tri_at3 hj
 obtain ⟨h0,h1,h2⟩:=h.cells ht
 have hr:j % 3 < 3:=Nat.mod_lt _ (by omega)
 have hjj:j=j / 3 * 3 + j % 3:=by omega
 generalize j / 3=q at *
 generalize j % 3=r at *
 subst hjj
 rcases (by omega:r=0 ∨ r=1 ∨ r=2) with rfl | rfl | rfl
 · simpa [Tri.cells,hu] using h0.trans (by simpa [Tri.cells] using hu)
 · exact h1.trans (by simpa [Tri.cells] using hu)
 exact h2.trans (by simpa [Tri.cells] using hu)
theorem TBlk.tris (h:TBlk w g L):TrisAt w w.heap.size (some ⟨g,0,none⟩) L.length L:=TrisAt.mk_ (h.reads h.lt)
theorem TBlk.set (h:TBlk w g L) (i:Nat) (t:Tri) :
  TBlk (((w.setCell ⟨g,i * 3,none⟩ (.int .i64 t.a)).setCell ⟨g,i * 3 + 1,none⟩ (.int .i64 t.b)).setCell ⟨g,i * 3 + 2,none⟩ (.int .i64 t.c)) g (L.set i t):=by
 obtain ⟨cs,h,h'⟩:=h
 refine ⟨_,((h.set_ _ _).set_ _ _).set_ _ _,fun k u hk=>?_⟩
 rw [List.getElem?_set] at hk
 by_cases e:i=k
 · subst e
   rw [if_pos rfl] at hk
   split at hk
   · rename_i hi
     injection hk with hk
     subst hk
     obtain ⟨h0,h1,h2⟩:=h' i _ (List.getElem?_eq_getElem hi)
     have h0:=(Array.getElem?_eq_some_iff.1 h0).1
     have h1:=(Array.getElem?_eq_some_iff.1 h1).1
     have h2:=(Array.getElem?_eq_some_iff.1 h2).1
     simp [h0,h1,h2]
   cases hk
 rw [if_neg e] at hk
 obtain ⟨h0,h1,h2⟩:=h' k u hk
 have n0:¬ i * 3=k * 3:=by omega
 have n1:¬ i * 3=k * 3 + 1:=by omega
 have n2:¬ i * 3=k * 3 + 2:=by omega
 have n3:¬ i * 3 + 1=k * 3:=by omega
 have n4:¬ i * 3 + 1=k * 3 + 1:=by omega
 have n5:¬ i * 3 + 1=k * 3 + 2:=by omega
 have n6:¬ i * 3 + 2=k * 3:=by omega
 have n7:¬ i * 3 + 2=k * 3 + 1:=by omega
 have n8:¬ i * 3 + 2=k * 3 + 2:=by omega
 simp only [Array.getElem?_setIfInBounds,n0,n1,n2,n3,n4,n5,n6,n7,n8,if_false]
 exact ⟨h0,h1,h2⟩
end
theorem blk_call {w w':World} {g:Nat} {t:TypeId} {cs:Array Value} (h:Blk w g t cs) (hb:Below w.heap.size w w'):Blk w' g t cs:=h.below hb h.lt
theorem LRow.base {w:World} {B B':Nat} {A:Option Addr} {c:Nat} {L:List Tri} (h:LRow w B A c L) (hB:B' ≤ B):LRow w B' A c L:=by
 obtain ⟨h1,h2⟩:=h
 refine ⟨h1,?_⟩
 rcases h2 with h2 | ⟨g,cap,cur,hv,hb,hr⟩
 · exact .inl h2
 exact .inr ⟨g,cap,cur,hv,Nat.le_trans hB hb,hr⟩
theorem LRow.drew {w:World} {B:Nat} {A:Option Addr} {c:Nat} {L:List Tri} (h:LRow w B A c L):LRow w.drew B A c L:=h
def set3 (w:World) (b i:Nat) (t:Tri):World:=((w.setCell ⟨b,i * 3,none⟩ (.int .i64 t.a)).setCell ⟨b,i * 3 + 1,none⟩ (.int .i64 t.b)).setCell ⟨b,i * 3 + 2,none⟩ (.int .i64 t.c)
theorem set_cells_len (i:Nat) (t:Tri) (L:List Tri):((L.set i t).flatMap Tri.cells).length=(L.flatMap Tri.cells).length:=by
 rw [flatMap_len 3 _ (fun _=>rfl),flatMap_len 3 _ (fun _=>rfl),List.length_set]
theorem LRow.set_ {w:World} {B c b:Nat} {L:List Tri} (h:LRow w B (some ⟨b,0,none⟩) c L) (i:Nat) (t:Tri):LRow (set3 w b i t) B (some ⟨b,0,none⟩) c (L.set i t):=by
 obtain ⟨h1,h2⟩:=h
 refine ⟨by rw [set_cells_len,h1,List.length_set],?_⟩
 rcases h2 with ⟨hv,_⟩ | ⟨g,cap,cur,hv,hb,hh,hn,hcap,hsz,hcs⟩
 · injection hv with hA _ _
   cases hA
 injection hv with hA _ hc
 injection hA with hA
 injection hA with hg _ _
 subst hg hc
 have hB:Blk w b 65 cur:=hh
 have hT:TBlk w b L:=by
  refine ⟨cur,hB,fun i t ht=>?_⟩
  have hl:i < L.length:=(List.getElem?_eq_some_iff.1 ht).1
  have key:∀ r,r < 3 → cur[i * 3 + r]?=(Tri.cells t)[r]?:=fun r hr=>by
   rw [← flatMap_at 3 Tri.cells (fun _=>rfl) L i r t ht hr,← hcs,List.getElem?_take_of_lt (by omega)]
   simp
  exact ⟨key 0 (by omega),key 1 (by omega),key 2 (by omega)⟩
 obtain ⟨cs,hb1,hb2⟩:=hT.set i t
 have hb3:=((hB.set_ (i * 3) (.int .i64 t.a)).set_ (i * 3 + 1) (.int .i64 t.b)).set_ (i * 3 + 2) (.int .i64 t.c)
 have hcs':cs=((cur.setIfInBounds (i * 3) (.int .i64 t.a)).setIfInBounds (i * 3 + 1) (.int .i64 t.b)).setIfInBounds (i * 3 + 2) (.int .i64 t.c):=by
  have e:some (Obj.cells cs 65 (0,0))=some (Obj.cells (((cur.setIfInBounds (i * 3) (.int .i64 t.a)).setIfInBounds (i * 3 + 1) (.int .i64 t.b)).setIfInBounds (i * 3 + 2) (.int .i64 t.c)) 65 (0,0)):=hb1.symm.trans hb3
  injection e with e
  injection e with e
 have hsz':cs.size=cur.size:=by rw [hcs']; simp
 refine .inr ⟨b,c,cs,by rw [List.length_set],hb,hb1,by rw [List.length_set]; exact hn,hcap,by rw [hsz',hsz],?_⟩
 rw [List.length_set]
 refine List.ext_getElem? fun j=>?_
 by_cases hj:j < L.length * 3
 · rw [List.getElem?_take_of_lt hj]
   have hj':j < ((L.set i t).flatMap Tri.cells).length:=by rw [set_cells_len,flatMap_len 3 _ (fun _=>rfl)]; exact hj
   have hx:((L.set i t).flatMap Tri.cells)[j]?=some _:=List.getElem?_eq_getElem hj'
   obtain ⟨u,hu,hr⟩:=tri_at3 hx
   obtain ⟨k0,k1,k2⟩:=hb2 _ u hu
   rw [hx,← hr]
   have hjj:j=j / 3 * 3 + j % 3:=by omega
   have hr3:j % 3 < 3:=Nat.mod_lt _ (by omega)
   generalize j / 3=q at *
   generalize j % 3=r at *
   rw [hjj]
   simp only [Array.getElem?_toList]
   rcases (by omega:r=0 ∨ r=1 ∨ r=2) with rfl | rfl | rfl
   · exact k0
   · exact k1
   exact k2
 have e1:(cs.toList.take (L.length * 3))[j]?=none:=List.getElem?_eq_none (by rw [List.length_take]; omega)
 have e2:((L.set i t).flatMap Tri.cells)[j]?=none:=List.getElem?_eq_none (by rw [set_cells_len,flatMap_len 3 _ (fun _=>rfl)]; omega)
 rw [e1,e2]
theorem LRow.far {w:World} {B c:Nat} {A:Option Addr} {L:List Tri} (h:LRow w B A c L) {p:Addr} (hp:∀ k,(Value.slice A L.length c).ownBlock=some k → k ≠ p.block) (u:Value):LRow (w.setCell p u) B A c L :=
 own_same h fun k hk=>Below.heap_setCell _ _ _ _ (hp k hk)
def KeepB (b:Nat) (a w:World):Prop:=∀ p:Addr,p.block ≠ b → w.cell? p=a.cell? p
theorem KeepB.refl (b:Nat) (a:World):KeepB b a a:=fun _ _=>rfl
theorem KeepB.drew {b:Nat} {a w:World} (h:KeepB b a w):KeepB b a w.drew:=h
theorem KeepB.set {b i:Nat} {a w:World} (h:KeepB b a w) (u:Value):KeepB b a (w.setCell ⟨b,i,none⟩ u):=fun p hp=>(World.cell?_of_block (Below.heap_setCell w ⟨b,i,none⟩ u _ hp)).trans (h p hp)
theorem LRow.owns {w:World} {B:Nat} {A:Option Addr} {c:Nat} {L:List Tri} (h:LRow w B A c L):w.ownsRow B 65 3 (.slice A L.length c) L.length (L.flatMap Tri.cells):=h
section
variable {w w1:World} {B gt gm:Nat} {N:Value} {At Am A1:Option Addr} {ct cm c1 n:Nat} {T U L:List Tri} {cs:List Value}
end
theorem blk_new1 (w:World) (o:Obj) (t:TypeId) (cs:Array Value):Blk ((w.alloc o).alloc (.cells cs t)) (w.heap.size + 1) t cs:=Blk.new_ (by simp) _ _
theorem soup_facts {w:World} {g:Nat} {x y:Value} (h:Blk w g 24 #[x,y]):w.cell? ⟨g,0,none⟩=some x ∧ w.cell? ⟨g,1,none⟩=some y ∧ w.frozen? ⟨g,0,none⟩=false ∧ w.frozen? ⟨g,1,none⟩=false ∧ g < w.heap.size :=
 ⟨h.cell 0,h.cell 1,h.frozen 0,h.frozen 1,h.lt⟩
theorem soup_set0 {w:World} {g:Nat} (h:Blk w g 24 #[.int .i64 0,.slice none 0 0]) (u v:Value):Blk ((w.setCell ⟨g,0,none⟩ u).setCell ⟨g,1,none⟩ v) g 24 #[u,v]:=soup_set h u v
theorem LRow.soup_set0 {w:World} {B:Nat} {A:Option Addr} {c g:Nat} {L:List Tri} (h:LRow w B A c L) (hb:Blk w g 24 #[.int .i64 0,.slice none 0 0]) (u v:Value):LRow ((w.setCell ⟨g,0,none⟩ u).setCell ⟨g,1,none⟩ v) B A c L:=h.soup_set hb u v
theorem LRow.drewN {w:World} {B:Nat} {A:Option Addr} {c:Nat} {L:List Tri} (h:LRow w B A c L) (n:Nat):LRow (w.drewN n) B A c L:=h
theorem LRow.nil (w:World) (B:Nat):LRow w B none 0 []:=World.ownsRow_nil _ _ _ _
structure OneSoup (w:World) (B go:Nat) (N:Value) (A:Option Addr) (c:Nat) (L:List Tri):Prop where
 t:Blk w go 24 #[N,.slice A L.length c]
 r:LRow w B A c L
 g:B ≤ go
section
variable {w w1:World} {B go:Nat} {N:Value} {A A1:Option Addr} {c c1 n:Nat} {T L:List Tri} {cs:List Value}
theorem OneSoup.on (h:OneSoup w B go N A c L) (hb:Below w.heap.size w w1):OneSoup w1 B go N A c L:=⟨blk_call h.t hb,h.r.below hb,h.g⟩
theorem OneSoup.drew (h:OneSoup w B go N A c L):OneSoup w.drew B go N A c L:=⟨h.t,h.r,h.g⟩
theorem OneSoup.drewN (h:OneSoup w B go N A c L) (n:Nat):OneSoup (w.drewN n) B go N A c L:=⟨h.t,h.r,h.g⟩
theorem OneSoup.alloc (h:OneSoup w B go N A c L) (o:Obj):OneSoup (w.alloc o) B go N A c L:=⟨h.t.alloc o,h.r.alloc o,h.g⟩
theorem OneSoup.facts (h:OneSoup w B go N A c L) (hg:w.grownBy w1 (Value.slice A L.length c).ownBlock):w1.cell? ⟨go,1,none⟩=some (.slice A L.length c) ∧ w1.frozen? ⟨go,1,none⟩=false ∧ w.heap.size ≤ w1.heap.size :=
 have ht:=h.t.grown hg fun e=>soup_tri_ne h.r h.t go e.symm rfl
 ⟨ht.cell 1,ht.frozen 1,hg.size⟩
theorem OneSoup.push (h:OneSoup w B go N A c T) (hown:w1.ownsRow B 65 3 (.slice A1 n c1) n cs) (hn:n=L.length) (hc:cs=L.flatMap Tri.cells)
  (hg:w.grownBy w1 (Value.slice A T.length c).ownBlock):OneSoup (w1.setCell ⟨go,1,none⟩ (.slice A1 n c1)) B go N A1 c1 L:=by
 subst hn hc
 have ht:=h.t.grown hg fun e=>soup_tri_ne h.r h.t go e.symm rfl
 exact ⟨soup_set1 ht _,(lrow_of hown rfl rfl).setSoup ht _,h.g⟩
theorem OneSoup.setN (h:OneSoup w B go N A c L) (N':Value):OneSoup (w.setCell ⟨go,0,none⟩ N') B go N' A c L :=
 ⟨by simpa using h.t.set_ 0 N',h.r.setSoup h.t _,h.g⟩
theorem OneSoup.cells (h:OneSoup w B go N A c L):w.cell? ⟨go,0,none⟩=some N ∧ w.cell? ⟨go,1,none⟩=some (.slice A L.length c) ∧ w.frozen? ⟨go,0,none⟩=false ∧ w.frozen? ⟨go,1,none⟩=false ∧ go < w.heap.size:=soup_facts h.t
end
def KeepO (b:Nat) (row:Option Nat) (a w:World):Prop:=a.heap.size ≤ w.heap.size ∧ ∀ k,k < a.heap.size → k ≠ b → some k ≠ row → w.heap[k]?=a.heap[k]?
section
variable {b:Nat} {row:Option Nat} {a w w1:World}
theorem KeepO.refl (b:Nat) (row:Option Nat) (a:World):KeepO b row a a:=⟨Nat.le_refl _,fun _ _ _ _=>rfl⟩
theorem KeepO.drew (h:KeepO b row a w):KeepO b row a w.drew:=h
theorem KeepO.drewN (h:KeepO b row a w) (n:Nat):KeepO b row a (w.drewN n):=h
theorem KeepO.alloc (h:KeepO b row a w) (o:Obj):KeepO b row a (w.alloc o):=by
 refine ⟨by have:=h.1; simp; omega,fun k h1 h2 h3=>?_⟩
 rw [← h.2 k h1 h2 h3]
 exact Below.heap_alloc w o k (by have:=h.1; omega)
theorem KeepO.set {i:Nat} (h:KeepO b row a w) (u:Value):KeepO b row a (w.setCell ⟨b,i,none⟩ u):=by
 refine ⟨by have:=h.1; simpa using this,fun k h1 h2 h3=>?_⟩
 rw [← h.2 k h1 h2 h3]
 exact Below.heap_setCell w ⟨b,i,none⟩ u _ h2
theorem KeepO.grow (h:KeepO b row a w) (hg:w.grownBy w1 row):KeepO b row a w1:=by
 refine ⟨Nat.le_trans h.1 hg.size,fun k h1 h2 h3=>?_⟩
 rw [← h.2 k h1 h2 h3]
 exact hg.block k (by have:=h.1; omega) h3
theorem KeepO.call (h:KeepO b row a w) (hb:Below w.heap.size w w1):KeepO b row a w1:=by
 refine ⟨Nat.le_trans h.1 hb.size,fun k h1 h2 h3=>?_⟩
 rw [← h.2 k h1 h2 h3]
 exact hb.block k (by have:=h.1; omega)
end
end
section
def fitT (N:Int) (t:Tri):Bool:=(decide (0 ≤ t.a) && decide (t.a < N) && decide (0 ≤ t.b) && decide (t.b < N) && decide (0 ≤ t.c) && decide (t.c < N)) && (!(t.a == t.b) && !(t.b == t.c) && !(t.c == t.a))
theorem fitT_iff {N:Int} {t:Tri}:fitT N t=true ↔ (0 ≤ t.a ∧ t.a < N ∧ 0 ≤ t.b ∧ t.b < N ∧ 0 ≤ t.c ∧ t.c < N) ∧ t.a ≠ t.b ∧ t.b ≠ t.c ∧ t.c ≠ t.a:=by
 unfold fitT
 simp [and_assoc]
def fitL (N:Int) (T:List Tri):Bool:=decide (0 ≤ N) && decide (N ≤ 4096) && T.all (fitT N)
def cornerT (t:Tri) (k:Nat):Int:=if k=0 then t.a else if k=1 then t.b else t.c
end
end Go.Proofs.YtffmfhkiienmaaaGreat
