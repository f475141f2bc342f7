/- Words for memory that the other texts of this claim use: frames, blocks, slices that read as lists, maps keyed by int. No condition. -/
import Derived.WalkKit
import Derived.Maps.OwnSet
import Derived.Deep.Draws
import Derived.Laws.OwnMore
import Derived.Deep.AppendLies
import Derived.Lib.Hide
import Derived.Maps.AppendAt
import Derived.RegionTactic
import Derived.OwnWalk
import Derived.ProofKit
import Derived.OpenShut
import Derived.Lib.SmallJoins
set_option maxRecDepth 100000
set_option maxHeartbeats 16000000
set_option linter.all false
namespace Go.Proofs.YtffmfhkiienmaaaGreat
open Go.RowKit
section
open Go.RowKit Go.ChangeMaps Go.MapKept
open Go.WideElems (Fit rd rg pl rd_val rd_key)
open Go.Maps (Keyed)
theorem jJ {p:Prop} (h:p):Go.RowKit.Hid p:=h
theorem jX {α:Sort _} (a:α):∃ x,x=a:=⟨_,rfl⟩
theorem jY {α:Sort _} (a:α):∃ x,a=x:=⟨_,rfl⟩
theorem block_of_add (a:Addr) (n:Nat):(a.add n).block=a.block:=by unfold Addr.add; split <;> rfl
theorem add_of_add (a:Addr) (i j:Nat):(a.add i).add j=a.add (i + j):=by
 unfold Addr.add
 by_cases hi:i=0 <;> by_cases hj:j=0 <;> simp [hi,hj,Nat.add_assoc]
theorem add_zero_ (a:Addr):a.add 0=a:=by unfold Addr.add; simp
theorem heap_setBlock_ne (w:World) (b:Nat) (o:Obj) {i:Nat} (h:i ≠ b):(ChangeMaps.setBlock w b o).heap[i]?=w.heap[i]?:=by
 simp [ChangeMaps.setBlock,Ne.symm h]
structure Only (F:Nat → Prop) (w w':World):Prop where
 os:w'.os=w.os
 tape:w'.tape=w.tape
 output:w'.output=w.output
 size:w.heap.size ≤ w'.heap.size
 block:∀ k,k < w.heap.size → ¬ F k → w'.heap[k]?=w.heap[k]?
section
variable {F G:Nat → Prop} {a w w' w'':World}
theorem Only.refl (F:Nat → Prop) (w:World):Only F w w:=⟨rfl,rfl,rfl,Nat.le_refl _,fun _ _ _=>rfl⟩
theorem Only.mono (h:Only F w w') (hF:∀ k,k < w.heap.size → F k → G k):Only G w w':=⟨h.os,h.tape,h.output,h.size,fun k hk hn=>h.block k hk fun hf=>hn (hF k hk hf)⟩
theorem Only.trans (h:Only F w w') (h':Only F w' w''):Only F w w'' :=
 ⟨h'.os.trans h.os,h'.tape.trans h.tape,h'.output.trans h.output,Nat.le_trans h.size h'.size,fun k hk hn=>(h'.block k (Nat.lt_of_lt_of_le hk h.size) hn).trans (h.block k hk hn)⟩
theorem Only.trans_ (h:Only F w w') (h':Only G w' w'') (hG:∀ k,k < w.heap.size → G k → F k):Only F w w'' :=
 ⟨h'.os.trans h.os,h'.tape.trans h.tape,h'.output.trans h.output,Nat.le_trans h.size h'.size,fun k hk hn=>(h'.block k (Nat.lt_of_lt_of_le hk h.size) fun hg=>hn (hG k hk hg)).trans (h.block k hk hn)⟩
theorem Only.drew (h:Only F a w):Only F a w.drew:=⟨h.os,h.tape,h.output,h.size,h.block⟩
theorem Only.drewN (h:Only F a w) (n:Nat):Only F a (w.drewN n):=⟨h.os,h.tape,h.output,h.size,h.block⟩
theorem Only.alloc (h:Only F a w) (o:Obj):Only F a (w.alloc o) :=
 ⟨h.os,h.tape,h.output,Nat.le_trans h.size (by simp),fun i hi hn=>(Below.heap_alloc w o i (Nat.lt_of_lt_of_le hi h.size)).trans (h.block i hi hn)⟩
theorem Only.setCell (h:Only F a w) {p:Addr} (hp:F p.block ∨ a.heap.size ≤ p.block) (u:Value):Only F a (w.setCell p u) :=
 ⟨h.os,h.tape,h.output,by simpa using h.size,fun i hi hn=>(Below.heap_setCell w p u i (by
  rintro rfl
  rcases hp with hp | hp
  · exact hn hp
  omega)).trans (h.block i hi hn)⟩
theorem Only.setBlock (h:Only F a w) {b:Nat} (hp:F b ∨ a.heap.size ≤ b) (o:Obj):Only F a (setBlock w b o) :=
 ⟨h.os,h.tape,h.output,by simpa [ChangeMaps.setBlock] using h.size,fun i hi hn=>(by
  have hne:i ≠ b:=by
   rintro rfl
   rcases hp with hp | hp
   · exact hn hp
   omega
  exact (heap_setBlock_ne w b o hne).trans (h.block i hi hn))⟩
theorem Only.grown {row:Option Nat} (h:Only F a w) (hg:w.grownBy w' row) (hr:∀ g,row=some g → F g ∨ a.heap.size ≤ g):Only F a w' :=
 ⟨hg.os.trans h.os,hg.tape.trans h.tape,hg.output.trans h.output,Nat.le_trans h.size hg.size,fun i hi hn=>(hg.block i (Nat.lt_of_lt_of_le hi h.size) (by
  intro e
  rcases hr i e.symm with h1 | h1
  · exact hn h1
  omega)).trans (h.block i hi hn)⟩
theorem Only.below (h:Only F w w') {B:Nat} (hB:B ≤ w.heap.size) (hF:∀ k,k < B → ¬ F k):Below B w w' :=
 ⟨h.os,h.tape,h.output,h.size,fun k hk=>h.block k (Nat.lt_of_lt_of_le hk hB) (hF k hk)⟩
theorem Only.of_below (h:Below w.heap.size w w') (F:Nat → Prop):Only F w w':=⟨h.os,h.tape,h.output,h.size,fun k hk _=>h.block k hk⟩
theorem Only.cell (h:Only F w w') {p:Addr} (hp:p.block < w.heap.size) (hn:¬ F p.block):w'.cell? p=w.cell? p:=World.cell?_of_block (h.block _ hp hn)
theorem Only.frozen (h:Only F w w') {p:Addr} (hp:p.block < w.heap.size) (hn:¬ F p.block):w'.frozen? p=w.frozen? p:=World.frozen?_of_block (h.block _ hp hn)
end
def Blk (w:World) (g:Nat) (t:TypeId) (cs:Array Value):Prop:=w.heap[g]?=some (.cells cs t (0,0))
section
variable {w w':World} {g:Nat} {t:TypeId} {cs:Array Value} {F:Nat → Prop}
theorem Blk.lt (h:Blk w g t cs):g < w.heap.size:=by
 rcases Nat.lt_or_ge g w.heap.size with hlt | hge
 · exact hlt
 unfold Blk at h; rw [Array.getElem?_eq_none hge] at h; cases h
theorem Blk.cell (h:Blk w g t cs) (i:Nat):w.cell? ⟨g,i,none⟩=cs[i]?:=cell_of_row w g i cs t (0,0) h
theorem Blk.frozen (h:Blk w g t cs) (i:Nat):w.frozen? ⟨g,i,none⟩=false:=by
 unfold Blk at h
 simp [World.frozen?,h]
theorem Blk.new (w:World) (t:TypeId) (cs:Array Value):Blk (w.alloc (.cells cs t)) w.heap.size t cs:=heap_alloc_new w _
theorem Blk.new_ {w:World} {g:Nat} (hg:w.heap.size=g) (t:TypeId) (cs:Array Value):Blk (w.alloc (.cells cs t)) g t cs:=hg ▸ Blk.new w t cs
theorem Blk.drew (h:Blk w g t cs):Blk w.drew g t cs:=h
theorem Blk.drewN (h:Blk w g t cs) (n:Nat):Blk (w.drewN n) g t cs:=h
theorem Blk.alloc (h:Blk w g t cs) (o:Obj):Blk (w.alloc o) g t cs:=(Below.heap_alloc w o g h.lt).trans h
theorem Blk.set_ (h:Blk w g t cs) (i:Nat) (u:Value):Blk (w.setCell ⟨g,i,none⟩ u) g t (cs.setIfInBounds i u):=by
 unfold Blk at h ⊢
 simp [World.setCell,Array.getElem?_modify,h]
theorem Blk.far (h:Blk w g t cs) {p:Addr} (hp:g ≠ p.block) (u:Value):Blk (w.setCell p u) g t cs:=(Below.heap_setCell w p u g hp).trans h
theorem Blk.below {B:Nat} (h:Blk w g t cs) (hb:Below B w w') (hg:g < B):Blk w' g t cs:=(hb.block g hg).trans h
theorem Blk.only (h:Blk w g t cs) (hb:Only F w w') (hg:¬ F g):Blk w' g t cs:=(hb.block g h.lt hg).trans h
theorem Blk.grown {row:Option Nat} (h:Blk w g t cs) (hb:w.grownBy w' row) (hg:some g ≠ row):Blk w' g t cs:=(hb.block g h.lt hg).trans h
theorem Blk.setBlock (h:Blk w g t cs) {b:Nat} (hg:g ≠ b) (o:Obj):Blk (ChangeMaps.setBlock w b o) g t cs:=(heap_setBlock_ne w b o hg).trans h
theorem Blk.ne_ {g':Nat} {t':TypeId} {cs':Array Value} (h:Blk w g t cs) (h':Blk w g' t' cs') (hne:t ≠ t'):g ≠ g':=by
 rintro rfl
 unfold Blk at h h'
 rw [h] at h'
 injection h' with h'
 injection h' with _ ht
 exact hne ht
theorem own_blk_ne {base:Nat} {e:TypeId} {size n:Nat} {v:Value} {xs:List Value} (h:w.ownsRow base e size v n xs) (hg:Blk w g t cs) (hne:e ≠ t):v.ownBlock ≠ some g:=by
 rcases h.2 with ⟨rfl,_⟩ | ⟨g',cap,cur,rfl,_,hh,_⟩
 · simp [Value.ownBlock]
 intro he
 have:g'=g:=by simpa [Value.ownBlock] using he
 subst this
 exact Blk.ne_ (t:=e) hh hg hne rfl
end
def Reads (w:World) (B size:Nat) (A:Option Addr) (n:Nat) (xs:List Value):Prop :=
 xs.length=n * size ∧ (0 < n → ∃ ad,A=some ad ∧ ad.block < B ∧ ∀ j u,xs[j]?=some u → w.cell? (ad.add j)=some u)
section
variable {w w':World} {B B' size n:Nat} {A:Option Addr} {xs:List Value}
theorem Reads.none_:Reads w B size A 0 []:=⟨by simp,fun h=>absurd h (by omega)⟩
theorem Reads.at_ {k:Nat} (h:Reads w B 1 A n xs) (hk:k < n):∃ ad u,A=some ad ∧ ad.block < B ∧ xs[k]?=some u ∧ w.cell? (ad.add k)=some u:=by
 obtain ⟨ad,e,hb,hc⟩:=h.2 (by omega)
 have hl:k < xs.length:=by have:=h.1; omega
 exact ⟨ad,xs[k],e,hb,List.getElem?_eq_getElem hl,hc k _ (List.getElem?_eq_getElem hl)⟩
theorem Reads.keep (h:Reads w B size A n xs) (hk:∀ p:Addr,p.block < B → w'.cell? p=w.cell? p):Reads w' B size A n xs :=
 ⟨h.1,fun hn=>by
  obtain ⟨ad,e,hb,hc⟩:=h.2 hn
  exact ⟨ad,e,hb,fun j u hu=>(hk _ (by rw [block_of_add]; exact hb)).trans (hc j u hu)⟩⟩
theorem Reads.more (h:Reads w B size A n xs) (hB:B ≤ B'):Reads w B' size A n xs :=
 ⟨h.1,fun hn=>by
  obtain ⟨ad,e,hb,hc⟩:=h.2 hn
  exact ⟨ad,e,by omega,hc⟩⟩
theorem Reads.below (h:Reads w B size A n xs) (hb:Below B w w'):Reads w' B size A n xs:=h.keep fun _ hp=>hb.cell hp
theorem Reads.drew (h:Reads w B size A n xs):Reads w.drew B size A n xs:=h
theorem Reads.drewN (h:Reads w B size A n xs) (k:Nat):Reads (w.drewN k) B size A n xs:=h
theorem Reads.alloc (h:Reads w B size A n xs) (hB:B ≤ w.heap.size) (o:Obj):Reads (w.alloc o) B size A n xs:=h.keep fun p hp=>World.cell?_alloc_lt w o p (by omega)
theorem Reads.setCell (h:Reads w B size A n xs) {p:Addr} (hB:B ≤ p.block) (u:Value):Reads (w.setCell p u) B size A n xs :=
 h.keep fun q hq=>World.cell?_setCell_other w p q u (fun e=>by subst e; omega)
theorem Reads.setBlock (h:Reads w B size A n xs) {b:Nat} (hB:B ≤ b) (o:Obj):Reads (ChangeMaps.setBlock w b o) B size A n xs :=
 h.keep fun p hp=>World.cell?_of_block (heap_setBlock_ne w b o (by omega))
theorem Reads.only {F:Nat → Prop} (h:Reads w B size A n xs) (ho:Only F w w') (hB:B ≤ w.heap.size) (hF:∀ k,k < B → ¬ F k):Reads w' B size A n xs :=
 h.keep fun p hp=>ho.cell (by omega) (hF _ hp)
theorem Reads.grown (h:Reads w B size A n xs) {row:Option Nat} (hg:w.grownBy w' row) (hB:B ≤ w.heap.size) (hr:∀ g,row=some g → B ≤ g):Reads w' B size A n xs :=
 h.keep fun p hp=>World.cell?_of_block (hg.block p.block (by omega) (fun e=>by have:=hr _ e.symm; omega))
theorem Reads.cut (h:Reads w B size A n xs) {k cap:Nat} (hk:k ≤ n) (hc:n ≤ cap) :
  Reads w B size (if cap=k then A else A.map (·.add (k * size))) (n - k) (xs.drop (k * size)):=by
 refine ⟨by rw [List.length_drop,h.1,Nat.sub_mul],fun hn=>?_⟩
 obtain ⟨ad,rfl,hb,hcell⟩:=h.2 (by omega)
 rw [if_neg (by omega)]
 refine ⟨ad.add (k * size),rfl,by rw [block_of_add]; exact hb,fun j u hu=>?_⟩
 rw [add_of_add]
 exact hcell _ u (by rw [← hu,List.getElem?_drop])
theorem Reads.take (h:Reads w B size A n xs) {k:Nat} (hk:k ≤ n):Reads w B size A k (xs.take (k * size)):=by
 refine ⟨by rw [List.length_take,h.1]; exact Nat.min_eq_left (Nat.mul_le_mul_right _ hk),fun hn=>?_⟩
 obtain ⟨ad,e,hb,hc⟩:=h.2 (by omega)
 refine ⟨ad,e,hb,fun j u hu=>hc j u ?_⟩
 rw [List.getElem?_take] at hu
 split at hu
 · exact hu
 cases hu
theorem Reads.of_own {base:Nat} {e:TypeId} {c:Nat} (h:w.ownsRow base e size (.slice A n c) n xs):Reads w w.heap.size size A n xs:=by
 refine ⟨h.1,fun hn=>?_⟩
 obtain ⟨g,cap,hv,_,hlt⟩:=h.form hn
 have hA:A=some ⟨g,0,none⟩:=by injection hv
 subst hA
 exact ⟨_,rfl,hlt,h.cells (g:=g) rfl⟩
end
def anyElem:Value → Option (DataW Unit × List MemPlace):=fun _=>some (.nil,[])
def MapI (P:Program) (k:TypeId) (w:World) (b n:Nat) (f:Int → Option Value):Prop :=
 ∃ es clock,w.heap[b]?=some (.map es clock) ∧ Fit P k anyElem es clock ∧ es.size=n ∧
  ∀ x,(Lit.int .i64 x).wf=true → ∀ v,f x=some v ↔ ∃ e ∈ es.toList,e.key=.int .i64 x ∧ e.val=v
section
variable {P:Program} {k:TypeId} {w w':World} {b n:Nat} {f:Int → Option Value}
theorem MapI.made (P:Program) (k:TypeId) (w:World):MapI P k (w.alloc (.map #[] 0)) w.heap.size 0 (fun _=>none) :=
 ⟨#[],0,(MapKept.heap_alloc w _).1,⟨by simp,stamped_empty 0,by simp⟩,rfl,fun x _ v=>by simp⟩
theorem MapI.made_ (P:Program) (k:TypeId) {w:World} {b:Nat} (hb:w.heap.size=b):MapI P k (w.alloc (.map #[] 0)) b 0 (fun _=>none):=hb ▸ MapI.made P k w
theorem MapI.lt (h:MapI P k w b n f):b < w.heap.size:=by
 obtain ⟨es,clock,hb,_⟩:=h
 exact (Array.getElem?_eq_some_iff.1 hb).1
theorem MapI.same (h:MapI P k w b n f) (hs:w'.heap[b]?=w.heap[b]?):MapI P k w' b n f:=by
 obtain ⟨es,clock,hb,r⟩:=h
 exact ⟨es,clock,hs.trans hb,r⟩
theorem MapI.only {F:Nat → Prop} (h:MapI P k w b n f) (ho:Only F w w') (hn:¬ F b):MapI P k w' b n f:=h.same (ho.block b h.lt hn)
theorem MapI.below {B:Nat} (h:MapI P k w b n f) (hb:Below B w w') (hB:b < B):MapI P k w' b n f:=h.same (hb.block b hB)
theorem MapI.alloc (h:MapI P k w b n f) (o:Obj):MapI P k (w.alloc o) b n f:=h.same (Below.heap_alloc w o b h.lt)
theorem MapI.drew (h:MapI P k w b n f):MapI P k w.drew b n f:=h
theorem MapI.drewN (h:MapI P k w b n f) (m:Nat):MapI P k (w.drewN m) b n f:=h
theorem MapI.grown {row:Option Nat} (h:MapI P k w b n f) (hg:w.grownBy w' row) (hn:some b ≠ row):MapI P k w' b n f:=h.same (hg.block b h.lt hn)
theorem MapI.setCell (h:MapI P k w b n f) {p:Addr} {u0:Value} (hp:w.cell? p=some u0) (u:Value):MapI P k (w.setCell p u) b n f:=by
 refine h.same (Below.heap_setCell w p u b ?_)
 rintro rfl
 obtain ⟨es,clock,hb,_⟩:=h
 simp [World.cell?,hb] at hp
theorem MapI.setBlock (h:MapI P k w b n f) {b':Nat} (hne:b ≠ b') (o:Obj):MapI P k (ChangeMaps.setBlock w b' o) b n f:=h.same (heap_setBlock_ne w b' o hne)
theorem MapI.ne_blk {g:Nat} {t:TypeId} {cs:Array Value} (h:MapI P k w b n f) (hg:Blk w g t cs):b ≠ g:=by
 rintro rfl
 obtain ⟨es,clock,hb,_⟩:=h
 unfold Blk at hg
 rw [hb] at hg
 cases hg
theorem MapI.congr {f':Int → Option Value} (h:MapI P k w b n f) (hf:∀ x,f x=f' x):MapI P k w b n f':=by
 obtain rfl:f=f':=funext hf
 exact h
theorem MapI.look (h:MapI P k w b n f) (hk:P.underlying k=some (.int .i64)) {t e:TypeId} (ht:P.underlying t=some (.map k e)) {z:Value} (hz:(zeroValue e).run P w=.ok z w)
  {x:Int} (hx:(Lit.int .i64 x).wf=true) (c:Bool) :
  (Instr.lookup t (.map (some b)) (.int .i64 x) c).run P w=.ok (if c then .tuple #[(f x).getD z,.bool (f x).isSome] else (f x).getD z) w:=by
 obtain ⟨es,clock,hb,F,_,hf⟩:=h
 rcases Maps.fit_look c (Maps.int_keyed hk) ht hz hb F (Maps.keyOf_int_mk hk hx) with ⟨hrun,hno,_⟩ | ⟨e0,y,hm,hkey,hrun,_⟩
 · have hn:f x=none:=by
    cases hfx:f x with
    | none=>rfl
    | some v =>
     obtain ⟨e',he',hk',_⟩:=(hf x hx v).1 hfx
     exact absurd hk' (hno e' he')
   rw [hrun,hn]; rfl
 · have hs:f x=some e0.val:=(hf x hx _).2 ⟨e0,hm,hkey,rfl⟩
   rw [hrun,hs]; rfl
theorem MapI.store (h:MapI P k w b n f) (hk:P.underlying k=some (.int .i64)) {t e:TypeId} (ht:P.underlying t=some (.map k e)) (hn:n < maxLen) {x:Int} (hx:(Lit.int .i64 x).wf=true) (v:Value) :
  ∃ es' clock',(Instr.mapUpdate t (.map (some b)) (.int .i64 x) v).run P w=.ok () (ChangeMaps.setBlock w b (.map es' clock')) ∧
   MapI P k (ChangeMaps.setBlock w b (.map es' clock')) b (if (f x).isSome then n else n + 1) (fun y=>if y=x then some v else f y):=by
 obtain ⟨es,clock,hb,F,hs,hf⟩:=h
 have K:=Maps.int_keyed (P:=P) hk
 have hkey:=Maps.keyOf_int_mk (P:=P) hk hx
 have fin:∀ (es':Array MapEntry) (clock':Nat),Fit P k anyElem es' clock' → (∀ e,e ∈ es'.toList ↔ (e ∈ es.toList ∧ e.key ≠ .int .i64 x) ∨ (e ∈ es'.toList ∧ e.key=.int .i64 x ∧ e.val=v)) →
   (∃ e ∈ es'.toList,e.key=.int .i64 x) → es'.size=(if (f x).isSome then n else n + 1) → MapI P k (ChangeMaps.setBlock w b (.map es' clock')) b (if (f x).isSome then n else n + 1) (fun y=>if y=x then some v else f y):=by
  intro es' clock' F' hmem hex hsz
  refine ⟨es',clock',heap_setBlock_same hb _,F',hsz,fun y hy u=>?_⟩
  by_cases hyx:y=x
  · subst hyx
    simp only [if_true,Option.some.injEq]
    constructor
    · rintro rfl
      obtain ⟨e,he,hek⟩:=hex
      rcases (hmem e).1 he with ⟨_,h2⟩ | ⟨_,h2,h3⟩
      · exact absurd hek h2
      exact ⟨e,he,h2,h3⟩
    rintro ⟨e,he,hek,hev⟩
    rcases (hmem e).1 he with ⟨_,h2⟩ | ⟨_,_,h3⟩
    · exact absurd hek h2
    rw [← hev,h3]
  simp only [if_neg hyx]
  rw [hf y hy u]
  constructor
  · rintro ⟨e,he,hek,hev⟩
    exact ⟨e,(hmem e).2 (.inl ⟨he,by rw [hek]; intro h'; injection h' with _ h'; exact hyx h'⟩),hek,hev⟩
  rintro ⟨e,he,hek,hev⟩
  rcases (hmem e).1 he with ⟨h1,_⟩ | ⟨_,h2,_⟩
  · exact ⟨e,h1,hek,hev⟩
  rw [hek] at h2; injection h2 with _ h2; exact absurd h2 hyx
 rcases K.find w hkey es.toList F.keys with ⟨h1,h2⟩ | ⟨j,e0,h1,h2,h3⟩
 · have hno:f x=none:=by
    cases hfx:f x with
    | none=>rfl
    | some u =>
     obtain ⟨e',he',hk',_⟩:=(hf x hx u).1 hfx
     exact absurd hk' (h2 e' he')
   refine ⟨es.push ⟨.int .i64 x,v,clock⟩,clock + 1,?_,fin _ _ ⟨by simp; omega,stamped_push F.stamped h2,?_⟩ ?_ ?_ ?_⟩
   · simp [Instr.mapUpdate,run_underlying ht,MapKept.run_getObj_map hb,K.check w false hkey,h1,MapKept.run_setObj_map _ hb,Result.andThen,ChangeMaps.setBlock]
   · intro e he
     simp only [Array.toList_push,List.mem_append,List.mem_singleton] at he
     rcases he with he | rfl
     · exact F.reads e he
     exact ⟨_,WideElems.rd_mk hkey rfl⟩
   · intro e
     simp only [Array.toList_push,List.mem_append,List.mem_singleton]
     constructor
     · rintro (he | rfl)
       · exact .inl ⟨he,h2 e he⟩
       exact .inr ⟨.inr rfl,rfl,rfl⟩
     rintro (⟨he,_⟩ | ⟨he,_⟩)
     · exact .inl he
     exact he
   · exact ⟨⟨.int .i64 x,v,clock⟩,by simp,rfl⟩
   simp [hno,hs]
 · have hj:es[j]?=some e0:=by simpa using h2
   have hjl:j < es.toList.length:=(List.getElem?_eq_some_iff.1 h2).1
   have hm0:e0 ∈ es.toList:=List.mem_of_getElem? h2
   have hso:f x=some e0.val:=(hf x hx _).2 ⟨e0,hm0,h3,rfl⟩
   have hkeyf:∀ e',es[j]?=some e' → ({ e' with key:=.int .i64 x,val:=v }:MapEntry).key=e'.key:=fun e' he'=>by rw [hj] at he'; cases he'; exact h3.symm
   have hlist:(es.modify j (fun e'=>{ e' with key:=.int .i64 x,val:=v })).toList=es.toList.set j { e0 with key:=.int .i64 x,val:=v }:=by rw [Array.toList_modify,ChangeMaps.modify_eq_set _ _ _ _ h2]
   have who:∀ e ∈ es.toList.set j { e0 with key:=.int .i64 x,val:=v },e={ e0 with key:=.int .i64 x,val:=v } ∨ (e ∈ es.toList ∧ e.key ≠ .int .i64 x):=by
    intro e he
    obtain ⟨i,hi,ex⟩:=List.getElem_of_mem he
    rw [List.getElem_set] at ex
    split at ex
    · exact Or.inl ex.symm
    rename_i hne
    have hi':i < es.toList.length:=by simpa using hi
    refine Or.inr ⟨ex ▸ List.getElem_mem hi',?_⟩
    rw [← h3]
    exact WideElems.other_key F h2 (by rw [List.getElem?_eq_getElem hi',ex]) (fun e1=>hne e1.symm)
   refine ⟨es.modify j (fun e'=>{ e' with key:=.int .i64 x,val:=v }),clock,?_,fin _ _ ⟨by simpa using F.size,stamped_modify F.stamped _ _ (fun _ _=>rfl) (fun e' _ he'=>hkeyf e' he'),?_⟩ ?_ ?_ ?_⟩
   · simp [Instr.mapUpdate,run_underlying ht,MapKept.run_getObj_map hb,K.check w false hkey,h1,hj,h3,K.stays w hkey,MapKept.run_setObj_map _ hb,Result.andThen,ChangeMaps.setBlock]
   · intro e he
     rw [hlist] at he
     rcases who e he with rfl | ⟨he',_⟩
     · exact ⟨_,WideElems.rd_mk hkey rfl⟩
     exact F.reads e he'
   · intro e
     rw [hlist]
     constructor
     · intro he
       rcases who e he with rfl | h'
       · exact .inr ⟨he,rfl,rfl⟩
       exact .inl h'
     rintro (⟨he,hne⟩ | ⟨he,_⟩)
     · obtain ⟨i,hi,rfl⟩:=List.getElem_of_mem he
       have hij:i ≠ j:=by
        rintro rfl
        rw [List.getElem?_eq_getElem hi] at h2
        exact hne (by rw [Option.some.inj h2]; exact h3)
       refine List.mem_iff_getElem.2 ⟨i,by simpa using hi,?_⟩
       rw [List.getElem_set_ne (Ne.symm hij)]
     exact he
   · refine ⟨{ e0 with key:=.int .i64 x,val:=v },?_,rfl⟩
     rw [hlist]
     exact List.mem_iff_getElem.2 ⟨j,by simpa using hjl,by simp⟩
   simp [hso,hs]
theorem MapI.drop (h:MapI P k w b n f) (hk:P.underlying k=some (.int .i64)) {t e:TypeId} (ht:P.underlying t=some (.map k e)) {x:Int} (hx:(Lit.int .i64 x).wf=true) (ty:TypeId) :
  ∃ es' clock',(Builtin.delete_ #[t,k] ty #[.map (some b),.int .i64 x]).run P w=.ok (.tuple #[]) (ChangeMaps.setBlock w b (.map es' clock')) ∧
   MapI P k (ChangeMaps.setBlock w b (.map es' clock')) b (if (f x).isSome then n - 1 else n) (fun y=>if y=x then none else f y):=by
 obtain ⟨es,clock,hb,F,hs,hf⟩:=h
 have K:=Maps.int_keyed (P:=P) hk
 have hkey:=Maps.keyOf_int_mk (P:=P) hk hx
 rcases K.find w hkey es.toList F.keys with ⟨h1,h2⟩ | ⟨j,e0,h1,h2,h3⟩
 · have hno:f x=none:=by
    cases hfx:f x with
    | none=>rfl
    | some u =>
     obtain ⟨e',he',hk',_⟩:=(hf x hx u).1 hfx
     exact absurd hk' (h2 e' he')
   refine ⟨es,clock,?_,es,clock,heap_setBlock_same hb _,F,by simp [hno,hs],fun y hy u=>?_⟩
   · simp [Builtin.delete_,run_underlying ht,MapKept.run_getObj_map hb,K.check w _ hkey,h1,MapKept.run_setObj_map _ hb,Result.andThen,ChangeMaps.setBlock]
   by_cases hyx:y=x
   · subst hyx; simp only [if_true]; rw [← hno]; exact hf y hy u
   simp only [if_neg hyx]; exact hf y hy u
 · have hjl:j < es.toList.length:=(List.getElem?_eq_some_iff.1 h2).1
   have hjs:j < es.size:=by simpa using hjl
   have hm0:e0 ∈ es.toList:=List.mem_of_getElem? h2
   have hso:f x=some e0.val:=(hf x hx _).2 ⟨e0,hm0,h3,rfl⟩
   have hsub:(es.eraseIdxIfInBounds j).toList=es.toList.eraseIdx j:=by
    unfold Array.eraseIdxIfInBounds
    rw [dif_pos hjs]
    simp
   have hmem:∀ e,e ∈ es.toList.eraseIdx j ↔ e ∈ es.toList ∧ e.key ≠ .int .i64 x:=by
    intro e
    rw [List.mem_eraseIdx_iff_getElem?]
    constructor
    · rintro ⟨i,hne,hi⟩
      exact ⟨List.mem_of_getElem? hi,by rw [← h3]; exact WideElems.other_key F h2 hi hne⟩
    rintro ⟨he,hne⟩
    obtain ⟨i,hi⟩:=List.mem_iff_getElem?.1 he
    refine ⟨i,?_,hi⟩
    rintro rfl
    rw [h2] at hi
    exact hne (by rw [← Option.some.inj hi]; exact h3)
   refine ⟨es.eraseIdxIfInBounds j,clock,?_,es.eraseIdxIfInBounds j,clock,heap_setBlock_same hb _,⟨Nat.le_trans (MapFrom.size_erase es j) F.size,stamped_erase F.stamped j,?_⟩,?_,fun y hy u=>?_⟩
   · simp [Builtin.delete_,run_underlying ht,MapKept.run_getObj_map hb,K.check w _ hkey,h1,MapKept.run_setObj_map _ hb,Result.andThen,ChangeMaps.setBlock]
   · intro e he
     rw [hsub] at he
     exact F.reads e ((List.eraseIdx_sublist _ _).subset he)
   · simp only [hso,Option.isSome_some,if_true]
     rw [← Array.length_toList,hsub,List.length_eraseIdx_of_lt hjl,Array.length_toList,hs]
   rw [hsub]
   by_cases hyx:y=x
   · subst hyx
     simp only [if_true]
     constructor
     · intro h'; cases h'
     rintro ⟨e,he,hek,_⟩
     exact absurd hek ((hmem e).1 he).2
   simp only [if_neg hyx]; rw [hf y hy u]
   constructor
   · rintro ⟨e,he,hek,hev⟩
     exact ⟨e,(hmem e).2 ⟨he,by rw [hek]; intro h'; injection h' with _ h'; exact hyx h'⟩,hek,hev⟩
   rintro ⟨e,he,hek,hev⟩
   exact ⟨e,((hmem e).1 he).1,hek,hev⟩
theorem MapI.len (h:MapI P k w b n f) {t e:TypeId} (ht:P.underlying t=some (.map k e)) (ty:TypeId):(Builtin.len_ #[t] ty #[.map (some b)]).run P w=.ok (.int .i64 n) w:=by
 obtain ⟨es,clock,hb,F,rfl,_⟩:=h
 simp [Builtin.len_,run_underlying ht,MapKept.run_getObj_map hb,goInt,Result.andThen]
end
end
section
section
variable {P:Program} (w:World)
theorem run_append_of_nil (base:Nat) (t ty e:TypeId) (i:TypeInfo) (size:Nat) (ht:P.underlying t=some (.slice e)) (hi:P.info? e=some i)
  (v:Value) (n:Nat) (xs:List Value) (hown:w.ownsRow base e size v n xs) (c:Nat):(Builtin.append_ #[t,t] ty #[v,.slice none 0 c]).run P w=.ok v w:=by
 rcases hown.2 with ⟨rfl,rfl⟩ | ⟨g,cap,cur,rfl,_,_,hnc,_⟩
 · simp [Builtin.append_,run_underlying ht,sizeOf,typeInfo,hi,Builtin.lenOf,Builtin.firstCells]
 simp [Builtin.append_,run_underlying ht,sizeOf,typeInfo,hi,Builtin.lenOf,Builtin.firstCells,hnc,storeCells]
theorem run_append_any (base:Nat) (t ty e:TypeId) (i:TypeInfo) (z:Value) (size bytes:Nat) (ht:P.underlying t=some (.slice e)) (hi:P.info? e=some i) (hz:i.zero=some z)
  (hsize:i.size=size) (hby:i.bytes=bytes) (hzs:z.cells.size=size) (hsz:0 < size)
  (v:Value) (n:Nat) (xs:List Value) (hown:w.ownsRow base e size v n xs)
  (B:Nat) (A:Option Addr) (m c:Nat) (news:List Value) (hr:Reads w B size A m news) (h1:∀ u ∈ news,u.oneCell'=true)
  (h63:n + m ≤ maxLen) (hbytes:(n + m) * bytes ≤ 140737488355328) (hbase:base ≤ w.heap.size) :
  ∃ v' w',(Builtin.append_ #[t,t] ty #[v,.slice A m c]).run P w=.ok v' w' ∧ w'.ownsRow base e size v' (n + m) (xs ++ news) ∧ w.grownBy w' v.ownBlock ∧
   (v'.ownBlock=v.ownBlock ∨ v'.ownBlock=some w.heap.size):=by
 rcases A with _ | ad
 · have hm:m=0:=by
    rcases Nat.eq_zero_or_pos m with h0 | h0
    · exact h0
    obtain ⟨ad,h,_⟩:=hr.2 h0
    cases h
   subst hm
   have hn:news=[]:=List.eq_nil_of_length_eq_zero (by simpa using hr.1)
   subst hn
   exact ⟨v,w,run_append_of_nil w base t ty e i size ht hi v n xs hown c,by simpa using hown,World.grownBy.refl w _,.inl rfl⟩
 · have hcells:∀ j u,news[j]?=some u → w.cell? (ad.add j)=some u:=by
    intro j u hu
    rcases Nat.eq_zero_or_pos m with h0 | h0
    · subst h0
      have hn:news=[]:=List.eq_nil_of_length_eq_zero (by simpa using hr.1)
      subst hn
      simp at hu
    obtain ⟨ad',h,_,hc⟩:=hr.2 h0
    injection h with h
    subst h
    exact hc j u hu
   obtain ⟨v',w',hrun,h2,h3,_,h5⟩:=run_append_own_at (P:=P) w base t ty e i z size bytes ht hi hz hsize hby hzs hsz v n xs hown ad m c news hr.1 hcells h1 h63 hbytes hbase
   exact ⟨v',w',hrun,h2,h3,h5⟩
theorem wp_append_any {o:Oper} {a:Act} {K:Act → World → Prop} {Q:Exit → Act → World → Prop} (s x:Operand) (t:TypeId)
  (ho:o.op=.call { callee:=.builtin .append,args:=#[s,x],argTypes:=#[t,t] })
  (base:Nat) (e:TypeId) (i:TypeInfo) (z:Value) (size bytes:Nat) (ht:P.underlying t=some (.slice e)) (hi:P.info? e=some i) (hz:i.zero=some z)
  (hsize:i.size=size) (hby:i.bytes=bytes) (hzs:z.cells.size=size) (hsz:0 < size)
  (v:Value) (n:Nat) (xs:List Value) (hs:a.eval s=v) (hown:w.ownsRow base e size v n xs)
  (B:Nat) (A:Option Addr) (m c:Nat) (news:List Value) (hx:a.eval x=.slice A m c) (hr:Reads w B size A m news) (h1:∀ u ∈ news,u.oneCell'=true)
  (h63:n + m ≤ maxLen) (hbytes:(n + m) * bytes ≤ 140737488355328) (hbase:base ≤ w.heap.size)
  (h:∀ v' w',w'.ownsRow base e size v' (n + m) (xs ++ news) → w.grownBy w' v.ownBlock → (v'.ownBlock=v.ownBlock ∨ v'.ownBlock=some w.heap.size) → K (a.put o.dst v') w'):o.wp P a w K Q:=by
 obtain ⟨v',w',hrun,h2,h3,h4⟩:=run_append_any (P:=P) w base t o.type e i z size bytes ht hi hz hsize hby hzs hsz v n xs hown B A m c news hr h1 h63 hbytes hbase
 unfold Oper.wp execOp
 simp only [ho,resolve,invoke,builtin,Sem.run_bind,Sem.run_pure,Result.andThen_ok,List.map_toArray,List.map_cons,List.map_nil,hs,hx,hrun]
 exact h v' w' h2 h3 h4
theorem wpList_append_any {ops:Array Oper} {rest:List Oper} {o:Oper} {a:Act} {Q:Exit → Act → World → Prop} (hgd:o.guard=none) (s x:Operand) (t:TypeId)
  (ho:o.op=.call { callee:=.builtin .append,args:=#[s,x],argTypes:=#[t,t] })
  (base:Nat) (e:TypeId) (i:TypeInfo) (z:Value) (size bytes:Nat) (ht:P.underlying t=some (.slice e)) (hi:P.info? e=some i) (hz:i.zero=some z)
  (hsize:i.size=size) (hby:i.bytes=bytes) (hzs:z.cells.size=size) (hsz:0 < size)
  (v:Value) (n:Nat) (xs:List Value) (hs:a.eval s=v) (hown:w.ownsRow base e size v n xs)
  (B:Nat) (A:Option Addr) (m c:Nat) (news:List Value) (hx:a.eval x=.slice A m c) (hr:Reads w B size A m news) (h1:∀ u ∈ news,u.oneCell'=true)
  (h63:n + m ≤ maxLen) (hbytes:(n + m) * bytes ≤ 140737488355328) (hbase:base ≤ w.heap.size)
  (h:∀ v' w',w'.ownsRow base e size v' (n + m) (xs ++ news) → w.grownBy w' v.ownBlock → (v'.ownBlock=v.ownBlock ∨ v'.ownBlock=some w.heap.size) → wpList P ops Q rest (a.put o.dst v') w'):wpList P ops Q (o :: rest) a w :=
 wpList_plain hgd fun _ hK=>wp_append_any w s x t ho base e i z size bytes ht hi hz hsize hby hzs hsz v n xs hs hown B A m c news hx hr h1 h63 hbytes hbase fun v' w' h2 h3 h4=>hK _ _ (h v' w' h2 h3 h4)
theorem step_append_any {ops:Array Oper} {o:Oper} {a:Act} {K:Act → World → Prop} {Q:Exit → Act → World → Prop} {E:Prop} (hgd:o.guard=none) (s x:Operand) (t:TypeId)
  (ho:o.op=.call { callee:=.builtin .append,args:=#[s,x],argTypes:=#[t,t] })
  (base:Nat) (e:TypeId) (i:TypeInfo) (z:Value) (size bytes:Nat) (ht:P.underlying t=some (.slice e)) (hi:P.info? e=some i) (hz:i.zero=some z)
  (hsize:i.size=size) (hby:i.bytes=bytes) (hzs:z.cells.size=size) (hsz:0 < size)
  (v:Value) (n:Nat) (xs:List Value) (hs:a.eval s=v) (hown:w.ownsRow base e size v n xs)
  (B:Nat) (A:Option Addr) (m c:Nat) (news:List Value) (hx:a.eval x=.slice A m c) (hr:Reads w B size A m news) (h1:∀ u ∈ news,u.oneCell'=true)
  (h63:n + m ≤ maxLen) (hbytes:(n + m) * bytes ≤ 140737488355328) (hbase:base ≤ w.heap.size)
  (h:∀ v' w',w'.ownsRow base e size v' (n + m) (xs ++ news) → w.grownBy w' v.ownBlock → (v'.ownBlock=v.ownBlock ∨ v'.ownBlock=some w.heap.size) → K (a.put o.dst v') w') :
  if Region.wanted o (yielded ops a.tmps)=true then Oper.wp P o a w K Q else E:=by
 have hw:Region.wanted o (yielded ops a.tmps)=true:=by simp [Region.wanted,hgd]
 rw [if_pos hw]
 exact wp_append_any w s x t ho base e i z size bytes ht hi hz hsize hby hzs hsz v n xs hs hown B A m c news hx hr h1 h63 hbytes hbase h
end
section
variable {P:Program}
theorem run_slice_from {t e:TypeId} {i:TypeInfo} (ht:P.underlying t=some (.slice e)) (hi:P.info? e=some i) (A:Option Addr) (n c lo:Nat) (h1:lo ≤ n) (w:World) :
  (Instr.slice t (.slice A n c) (some (.int .i64 (lo:Int))) none none).run P w=.ok (.slice (if c=lo then A else A.map (·.add (lo * i.size))) (n - lo) (c - lo)) w:=by
 have e1:¬ n < lo:=by omega
 simp [Instr.slice,run_underlying ht,Instr.sliceBounds,Instr.sliceBound,asIntOf,sizeOf,typeInfo,hi,e1]
theorem run_slice_to {t e:TypeId} {i:TypeInfo} (ht:P.underlying t=some (.slice e)) (hi:P.info? e=some i) (A:Option Addr) (n c h:Nat) (h1:h ≤ c) (w:World) :
  (Instr.slice t (.slice A n c) none (some (.int .i64 (h:Int))) none).run P w=.ok (.slice (if c=0 then A else A.map (·.add 0)) h c) w:=by
 have e1:¬ c < h:=by omega
 simp [Instr.slice,run_underlying ht,Instr.sliceBounds,Instr.sliceBound,asIntOf,sizeOf,typeInfo,hi,e1]
end
theorem own_mono {w:World} {b b':Nat} {e:TypeId} {size n:Nat} {v:Value} {xs:List Value} (h:w.ownsRow b e size v n xs) (hb:b' ≤ b):w.ownsRow b' e size v n xs:=by
 refine ⟨h.1,?_⟩
 rcases h.2 with h0 | ⟨g,cap,cur,a0,a1,a2⟩
 · exact .inl h0
 exact .inr ⟨g,cap,cur,a0,Nat.le_trans hb a1,a2⟩
theorem own_form {w:World} {base:Nat} {e:TypeId} {size n:Nat} {v:Value} {xs:List Value} (h:w.ownsRow base e size v n xs):∃ A c,v=.slice A n c ∧ n ≤ c:=by
 rcases h.2 with ⟨rfl,rfl⟩ | ⟨g,cap,cur,rfl,_,_,h3,_⟩
 · exact ⟨_,_,rfl,Nat.le_refl _⟩
 exact ⟨_,_,rfl,h3⟩
theorem own_same {w w':World} {base:Nat} {v:Value} {e:TypeId} {size n:Nat} {xs:List Value} (h:w.ownsRow base e size v n xs) (hk:∀ k,v.ownBlock=some k → w'.heap[k]?=w.heap[k]?):w'.ownsRow base e size v n xs:=by
 refine ⟨h.1,?_⟩
 rcases h.2 with h0 | ⟨g,cap,cur,rfl,a1,a2,a3⟩
 · exact .inl h0
 exact .inr ⟨g,cap,cur,rfl,a1,(hk g rfl).trans a2,a3⟩
theorem own_blk {w:World} {base:Nat} {v:Value} {e:TypeId} {size n:Nat} {xs:List Value} (h:w.ownsRow base e size v n xs) {k:Nat} (hk:v.ownBlock=some k):∃ cs,Blk w k e cs:=by
 rcases h.2 with ⟨rfl,_⟩ | ⟨g,cap,cur,rfl,_,a2,_⟩
 · simp [Value.ownBlock] at hk
 obtain rfl:g=k:=by simpa [Value.ownBlock] using hk
 exact ⟨cur,a2⟩
section
variable {P:Program} (w:World)
theorem wpList_append_sl {ops:Array Oper} {rest:List Oper} {o:Oper} {a:Act} {Q:Exit → Act → World → Prop} (hgd:o.guard=none) (s x:Operand) (t:TypeId)
  (ho:o.op=.call { callee:=.builtin .append,args:=#[s,x],argTypes:=#[t,t] })
  (base:Nat) (e:TypeId) (i:TypeInfo) (z:Value) (size bytes:Nat) (ht:P.underlying t=some (.slice e)) (hi:P.info? e=some i) (hz:i.zero=some z)
  (hsize:i.size=size) (hby:i.bytes=bytes) (hzs:z.cells.size=size) (hsz:0 < size)
  (v:Value) (n:Nat) (xs:List Value) (hs:a.eval s=v) (hown:w.ownsRow base e size v n xs)
  (B:Nat) (A:Option Addr) (m c:Nat) (news:List Value) (hx:a.eval x=.slice A m c) (hr:Reads w B size A m news) (h1:∀ u ∈ news,u.oneCell'=true)
  (h63:n + m ≤ maxLen) (hbytes:(n + m) * bytes ≤ 140737488355328) (hbase:base ≤ w.heap.size)
  (h:∀ A' c' w',w'.ownsRow base e size (.slice A' (n + m) c') (n + m) (xs ++ news) → w.grownBy w' v.ownBlock → ((Value.slice A' (n + m) c').ownBlock=v.ownBlock ∨ (Value.slice A' (n + m) c').ownBlock=some w.heap.size) →
   wpList P ops Q rest (a.put o.dst (.slice A' (n + m) c')) w'):wpList P ops Q (o :: rest) a w :=
 wpList_append_any w hgd s x t ho base e i z size bytes ht hi hz hsize hby hzs hsz v n xs hs hown B A m c news hx hr h1 h63 hbytes hbase fun v' w' h2 h3 h4=>by
  obtain ⟨A',c',rfl,_⟩:=own_form h2
  exact h A' c' w' h2 h3 h4
theorem step_append_sl {ops:Array Oper} {o:Oper} {a:Act} {K:Act → World → Prop} {Q:Exit → Act → World → Prop} {E:Prop} (hgd:o.guard=none) (s x:Operand) (t:TypeId)
  (ho:o.op=.call { callee:=.builtin .append,args:=#[s,x],argTypes:=#[t,t] })
  (base:Nat) (e:TypeId) (i:TypeInfo) (z:Value) (size bytes:Nat) (ht:P.underlying t=some (.slice e)) (hi:P.info? e=some i) (hz:i.zero=some z)
  (hsize:i.size=size) (hby:i.bytes=bytes) (hzs:z.cells.size=size) (hsz:0 < size)
  (v:Value) (n:Nat) (xs:List Value) (hs:a.eval s=v) (hown:w.ownsRow base e size v n xs)
  (B:Nat) (A:Option Addr) (m c:Nat) (news:List Value) (hx:a.eval x=.slice A m c) (hr:Reads w B size A m news) (h1:∀ u ∈ news,u.oneCell'=true)
  (h63:n + m ≤ maxLen) (hbytes:(n + m) * bytes ≤ 140737488355328) (hbase:base ≤ w.heap.size)
  (h:∀ A' c' w',w'.ownsRow base e size (.slice A' (n + m) c') (n + m) (xs ++ news) → w.grownBy w' v.ownBlock → ((Value.slice A' (n + m) c').ownBlock=v.ownBlock ∨ (Value.slice A' (n + m) c').ownBlock=some w.heap.size) →
   K (a.put o.dst (.slice A' (n + m) c')) w') :
  if Region.wanted o (yielded ops a.tmps)=true then Oper.wp P o a w K Q else E :=
 step_append_any w hgd s x t ho base e i z size bytes ht hi hz hsize hby hzs hsz v n xs hs hown B A m c news hx hr h1 h63 hbytes hbase fun v' w' h2 h3 h4=>by
  obtain ⟨A',c',rfl,_⟩:=own_form h2
  exact h A' c' w' h2 h3 h4
end
theorem reads_new (w:World) (cs:Array Value) (t:TypeId) (n size:Nat) (hs:cs.size=n * size):Reads (w.alloc (.cells cs t)) (w.heap.size + 1) size (some ⟨w.heap.size,0,none⟩) n cs.toList:=by
 refine ⟨by simpa using hs,fun _=>⟨_,rfl,by simp,fun j u hj=>?_⟩⟩
 have h1:=(Blk.new w t cs).cell j
 have e:(⟨w.heap.size,0,none⟩:Addr).add j=⟨w.heap.size,j,none⟩:=by unfold Addr.add; split <;> simp_all
 rw [e,h1]
 simpa using hj
end
section
theorem cell_spot {w:World} {q:Addr} {v:Value} (h:w.cell? q=some v):q=⟨q.block,q.off,none⟩:=by
 obtain ⟨b,o,p⟩:=q
 cases p with
 | none=>rfl
 | some p =>
  unfold World.cell? at h
  split at h
  · simp at h
  cases h
structure Tri where
 a:Int
 b:Int
 c:Int
def Tri.cells (t:Tri):List Value:=[.int .i64 t.a,.int .i64 t.b,.int .i64 t.c]
theorem flatMap_len (m:Nat) {α:Type} (f:α → List Value) (hf:∀ a,(f a).length=m):∀ l:List α,(l.flatMap f).length=l.length * m
 | []=>by simp
 | a :: l=>by rw [List.flatMap_cons,List.length_append,hf,flatMap_len m f hf l,List.length_cons,Nat.add_mul]; omega
theorem flatMap_at (m:Nat) {α:Type} (f:α → List Value) (hf:∀ a,(f a).length=m):∀ (l:List α) (k j:Nat) (a:α),l[k]?=some a → j < m → (l.flatMap f)[k * m + j]?=(f a)[j]?
 | [],k,j,a,h,_=>by simp at h
 | b :: l,0,j,a,h,hj=>by
  simp at h
  subst h
  rw [List.flatMap_cons,List.getElem?_append_left (by rw [hf]; omega)]
  simp
 | b :: l,k + 1,j,a,h,hj=>by
  have:=flatMap_at m f hf l k j a (by simpa using h) hj
  rw [List.flatMap_cons,List.getElem?_append_right (by rw [hf,Nat.add_mul]; omega),hf,← this]
  congr 1
  rw [Nat.add_mul]
  omega
structure Cells3 (w:World) (q:Addr) (x y z:Value):Prop where
 c0:w.cell? q=some x
 c1:w.cell? (q.add 1)=some y
 c2:w.cell? (q.add 2)=some z
 f0:w.cell? ⟨q.block,q.off,none⟩=some x
 f1:w.cell? ⟨q.block,q.off + 1,none⟩=some y
 f2:w.cell? ⟨q.block,q.off + 2,none⟩=some z
theorem cells3 {w:World} {q:Addr} {x y z:Value} (h0:w.cell? q=some x) (h1:w.cell? (q.add 1)=some y) (h2:w.cell? (q.add 2)=some z):Cells3 w q x y z:=by
 have e:=cell_spot h0
 refine ⟨h0,h1,h2,?_,?_,?_⟩
 · rw [← e]; exact h0
 · have e1:q.add 1=⟨q.block,q.off + 1,none⟩:=by rw [e]; simp [Addr.add]
   rw [← e1]; exact h1
 have e1:q.add 2=⟨q.block,q.off + 2,none⟩:=by rw [e]; simp [Addr.add]
 rw [← e1]; exact h2
theorem Cells3.keep {w w':World} {q:Addr} {x y z:Value} (h:Cells3 w q x y z) (hk:∀ p:Addr,p.block=q.block → w'.cell? p=w.cell? p):Cells3 w' q x y z :=
 ⟨(hk _ rfl).trans h.c0,(hk _ (block_of_add _ _)).trans h.c1,(hk _ (block_of_add _ _)).trans h.c2,(hk ⟨q.block,q.off,none⟩ rfl).trans h.f0,(hk ⟨q.block,q.off + 1,none⟩ rfl).trans h.f1,(hk ⟨q.block,q.off + 2,none⟩ rfl).trans h.f2⟩
theorem Cells3.below {w w':World} {q:Addr} {x y z:Value} {B:Nat} (h:Cells3 w q x y z) (hb:Below B w w') (hq:q.block < B):Cells3 w' q x y z :=
 h.keep fun p hp=>hb.cell (by omega)
structure TrisAt (w:World) (B:Nat) (A:Option Addr) (n:Nat) (T:List Tri):Prop where
 row:Reads w B 3 A n (T.flatMap Tri.cells)
 len:T.length=n
section
variable {w w':World} {B n:Nat} {A:Option Addr} {T:List Tri}
theorem TrisAt.mk_ (h:Reads w B 3 A n (T.flatMap Tri.cells)):TrisAt w B A n T:=by
 refine ⟨h,?_⟩
 have:=h.1
 rw [flatMap_len 3 _ (fun _=>rfl)] at this
 omega
theorem TrisAt.below (h:TrisAt w B A n T) (hb:Below B w w'):TrisAt w' B A n T:=⟨h.row.below hb,h.len⟩
theorem TrisAt.drewN (h:TrisAt w B A n T) (k:Nat):TrisAt (w.drewN k) B A n T:=⟨h.row.drewN k,h.len⟩
theorem TrisAt.more {B':Nat} (h:TrisAt w B A n T) (hB:B ≤ B'):TrisAt w B' A n T:=⟨h.row.more hB,h.len⟩
theorem TrisAt.at_ (h:TrisAt w B A n T) {k:Nat} (hk:k < n) :
  ∃ ad t,A=some ad ∧ T[k]?=some t ∧ t ∈ T ∧ ad.block < B ∧ Cells3 w (ad.add (k * 3)) (.int .i64 t.a) (.int .i64 t.b) (.int .i64 t.c):=by
 obtain ⟨ad,e,hb,hc⟩:=h.row.2 (by omega)
 have hl:k < T.length:=by rw [h.len]; exact hk
 have hp:T[k]?=some T[k]:=List.getElem?_eq_getElem hl
 have h0:=flatMap_at 3 Tri.cells (fun _=>rfl) T k 0 _ hp (by omega)
 have h1:=flatMap_at 3 Tri.cells (fun _=>rfl) T k 1 _ hp (by omega)
 have h2:=flatMap_at 3 Tri.cells (fun _=>rfl) T k 2 _ hp (by omega)
 refine ⟨ad,T[k],e,hp,List.getElem_mem hl,hb,cells3 (hc _ _ h0) ?_ ?_⟩
 · rw [add_of_add]; exact hc _ _ h1
 rw [add_of_add]; exact hc _ _ h2
theorem TrisAt.cells (h:TrisAt w B A n T) {ad:Addr} (hA:A=some ad) {k:Nat} {t:Tri} (ht:T[k]?=some t):Cells3 w (ad.add (k * 3)) (.int .i64 t.a) (.int .i64 t.b) (.int .i64 t.c):=by
 have hk:k < n:=by rw [← h.len]; exact (List.getElem?_eq_some_iff.1 ht).1
 obtain ⟨ad',t',e,h1,_,_,h2⟩:=h.at_ hk
 rw [hA] at e; rw [ht] at h1
 injection e with e; injection h1 with h1
 subst e h1
 exact h2
theorem TrisAt.lt (h:TrisAt w B A n T) {ad:Addr} (hA:A=some ad) (hn:0 < n):ad.block < B:=by
 obtain ⟨ad',e,hb,_⟩:=h.row.2 hn
 rw [hA] at e; injection e with e; subst e; exact hb
end
theorem reads_blk {w:World} {g:Nat} {t:TypeId} {cs:Array Value} {n size:Nat} (h:Blk w g t cs) (hs:cs.size=n * size):Reads w (g + 1) size (some ⟨g,0,none⟩) n cs.toList:=by
 refine ⟨by simpa using hs,fun _=>⟨_,rfl,by simp,fun j u hj=>?_⟩⟩
 have e:(⟨g,0,none⟩:Addr).add j=⟨g,j,none⟩:=by unfold Addr.add; split <;> simp_all
 rw [e,h.cell j]
 simpa using hj
theorem reads_newN (w:World) (cs:Array Value) (t:TypeId) (n size:Nat) {g:Nat} (hs:cs.size=n * size) (hg:w.heap.size=g):Reads (w.alloc (.cells cs t)) (g + 1) size (some ⟨g,0,none⟩) n cs.toList:=by
 subst hg
 exact reads_new w cs t n size hs
def w3 (x:Int × Int × Int):List Value:=[.int .i64 x.1,.int .i64 x.2.1,.int .i64 x.2.2]
def picks (kind:Int) (p:Nat → Bool) (k:Nat):List (Int × Int × Int):=((List.range k).filter p).map fun i:Nat=>(kind,(i:Int),0)
theorem picks_succ (kind:Int) (p:Nat → Bool) (k:Nat):picks kind p (k + 1)=if p k then picks kind p k ++ [(kind,(k:Int),0)] else picks kind p k:=by
 unfold picks
 rw [List.range_succ,List.filter_append,List.map_append]
 by_cases h:p k <;> simp [h]
theorem picks_len (kind:Int) (p:Nat → Bool) (k:Nat):(picks kind p k).length ≤ k:=by
 unfold picks
 rw [List.length_map]
 exact Nat.le_trans (List.length_filter_le _ _) (by simp)
theorem take_snoc_ {α:Type} (l:List α) (k:Nat) {x:α} (h:l[k]?=some x):l.take (k + 1)=l.take k ++ [x]:=by
 obtain ⟨hk,e⟩:=List.getElem?_eq_some_iff.1 h
 rw [List.take_succ_eq_append_getElem hk,e]
theorem w3_snoc (l:List (Int × Int × Int)) (x:Int × Int × Int):(l ++ [x]).flatMap w3=l.flatMap w3 ++ w3 x:=by simp
end
section
structure Pk where
 at_:Int
 seq:Int
 data:List UInt8
structure LS where
 rate:Int
 delay:Int
 now:Int
 next:Int
 lost:List Int
 wait:List UInt8
 way:List Pk
def LS.len (s:LS):Nat:=min s.rate.toNat s.wait.length
def LS.pk (s:LS):Pk:=⟨s.now + 1 + s.delay,s.next,s.wait.take s.len⟩
def LS.put (s:LS):LS :=
 if s.wait=[] then { s with now:=s.now + 1 }
 else { s with now:=s.now + 1,next:=s.next + 1,wait:=s.wait.drop s.len,way:=if s.next ∈ s.lost then s.way else s.way ++ [s.pk] }
def LS.out (s:LS):List Pk:=s.put.way.filter (fun p=>p.at_=s.now + 1)
structure LS.Ok (s:LS):Prop where
 rate1:1 ≤ s.rate
 rate2:s.rate ≤ 65536
 delay1:0 ≤ s.delay
 delay2:s.delay ≤ 1000
 now1:0 ≤ s.now
 now2:s.now ≤ 1000000
 next1:0 ≤ s.next
 next2:s.next ≤ s.now
 lost:s.lost.length ≤ 1000
 wait:s.wait.length ≤ 4194304
 way:∀ p ∈ s.way,s.now < p.at_ ∧ p.at_ ≤ s.now + s.delay
 rising:s.way.Pairwise (fun p q=>p.at_ < q.at_)
 short:s.way.length ≤ 1000
end
section
open Go.ChangeShapes Go.WideShapes Go.ChangeAt Go.RowKit
section
variable {H:Type} {enc:TypeId × Value → H} {P:Program} {w:World} {base:Nat} {spare:Nat → Bool} {held:Bool}
end
end
end Go.Proofs.YtffmfhkiienmaaaGreat
