/- soup.fits and soup.Fits, walked. No condition. -/
import Derived.Test.YtffmfhkiienmaaaGreatB2
import Derived.Test.YtffmfhkiienmaaaGreatSh47
import Derived.Test.YtffmfhkiienmaaaGreatCornerB
import Derived.Test.YtffmfhkiienmaaaGreatRt47
import Derived.Deep.SlicePairs
set_option maxRecDepth 100000
set_option maxHeartbeats 16000000
set_option linter.all false
namespace Go.Proofs.YtffmfhkiienmaaaGreat
open Go.RowKit
section
theorem take_snoc_T (T:List Tri) (k:Nat) {t:Tri} (h:T[k]?=some t):T.take (k + 1)=T.take k ++ [t]:=by
 rw [List.take_add_one,h]
 rfl
theorem ret_bool {a b:Bool} (h:a=b):Ending.returned (.bool a)=.returned (.bool b):=by rw [h]
theorem fits1_any (t:Tri) (N:Int) (w:World):Calls Tryz.prog 107 #[.agg #[.int .i64 t.a,.int .i64 t.b,.int .i64 t.c],.int .i64 N] w (BoolPost w (fitT N t)):=by
 obtain ⟨a,b,c⟩:=t
 go_enter Tryz.func107,Tryz.ntmps107
 go_wp2_with fail
 obtain ⟨V,hV⟩:=jX (w.alloc (.cells #[.int .i64 a,.int .i64 b,.int .i64 c] 65))
 have HX:Hid (Blk V w.heap.size 65 #[.int .i64 a,.int .i64 b,.int .i64 c]):=by subst hV; exact jJ (Blk.new _ _ _)
 have HB:Hid (Below w.heap.size w V):=by subst hV; exact jJ ((Below.refl _ _).alloc (Nat.le_refl _) _)
 rw [← hV]
 clear hV
 have e0:∀ w,(Instr.index 65 (.agg #[.int .i64 a,.int .i64 b,.int .i64 c]) (.int .i64 0)).run Tryz.prog w=.ok (.int .i64 a) w:=fun _=>by kernel_rfl
 have e1:∀ w,(Instr.index 65 (.agg #[.int .i64 a,.int .i64 b,.int .i64 c]) (.int .i64 1)).run Tryz.prog w=.ok (.int .i64 b) w:=fun _=>by kernel_rfl
 have e2:∀ w,(Instr.index 65 (.agg #[.int .i64 a,.int .i64 b,.int .i64 c]) (.int .i64 2)).run Tryz.prog w=.ok (.int .i64 c) w:=fun _=>by kernel_rfl
 go_loopw [8] (fun iv wr=>∃ q:Nat,q ≤ 3 ∧ iv=.int .i64 q ∧ Hid ((0 < q → 0 ≤ a ∧ a < N) ∧ (1 < q → 0 ≤ b ∧ b < N) ∧ (2 < q → 0 ≤ c ∧ c < N)) ∧ wr=V) (fun iv _=>3 - (intOf iv).toNat)
 case atStart=>exact ⟨0,by omega,rfl,jJ ⟨fun h=>absurd h (by omega),fun h=>absurd h (by omega),fun h=>absurd h (by omega)⟩,rfl⟩
 obtain ⟨q,hq,hkv,HQ,rfl⟩:=hrel
 rcases (by omega:q=0 ∨ q=1 ∨ q=2 ∨ q=3) with rfl | rfl | rfl | rfl
 · have hkv':_=Value.int .i64 0:=hkv
   subst hkv'
   clear hkv
   by_cases h0:a < 0
   · go_wp2_with fail
     go_ret
     refine ⟨ret_bool (Eq.symm ?_),HB.out⟩
     cases h:fitT N ⟨a,b,c⟩ with
     | false=>rfl
     | true=>have:=(fitT_iff.1 h).1; simp only at this; omega
   by_cases h1:N ≤ a
   · go_wp2_with fail
     go_ret
     refine ⟨ret_bool (Eq.symm ?_),HB.out⟩
     cases h:fitT N ⟨a,b,c⟩ with
     | false=>rfl
     | true=>have:=(fitT_iff.1 h).1; simp only at this; omega
   go_wp2_with fail
   refine ⟨⟨1,by omega,by go_num,jJ ?_,by first | rfl | trivial⟩,by simp [intOf]⟩
   have:=HQ.out
   omega
 · have hkv':_=Value.int .i64 1:=hkv
   subst hkv'
   clear hkv
   by_cases h0:b < 0
   · go_wp2_with fail
     go_ret
     refine ⟨ret_bool (Eq.symm ?_),HB.out⟩
     cases h:fitT N ⟨a,b,c⟩ with
     | false=>rfl
     | true=>have:=(fitT_iff.1 h).1; simp only at this; omega
   by_cases h1:N ≤ b
   · go_wp2_with fail
     go_ret
     refine ⟨ret_bool (Eq.symm ?_),HB.out⟩
     cases h:fitT N ⟨a,b,c⟩ with
     | false=>rfl
     | true=>have:=(fitT_iff.1 h).1; simp only at this; omega
   go_wp2_with fail
   refine ⟨⟨2,by omega,by go_num,jJ ?_,by first | rfl | trivial⟩,by simp [intOf]⟩
   have:=HQ.out
   omega
 · have hkv':_=Value.int .i64 2:=hkv
   subst hkv'
   clear hkv
   by_cases h0:c < 0
   · go_wp2_with fail
     go_ret
     refine ⟨ret_bool (Eq.symm ?_),HB.out⟩
     cases h:fitT N ⟨a,b,c⟩ with
     | false=>rfl
     | true=>have:=(fitT_iff.1 h).1; simp only at this; omega
   by_cases h1:N ≤ c
   · go_wp2_with fail
     go_ret
     refine ⟨ret_bool (Eq.symm ?_),HB.out⟩
     cases h:fitT N ⟨a,b,c⟩ with
     | false=>rfl
     | true=>have:=(fitT_iff.1 h).1; simp only at this; omega
   go_wp2_with fail
   refine ⟨⟨3,by omega,by go_num,jJ ?_,by first | rfl | trivial⟩,by simp [intOf]⟩
   have:=HQ.out
   omega
 have hkv':_=Value.int .i64 3:=hkv
 subst hkv'
 clear hkv
 have x0:=HX.out.cell 0
 have x1:=HX.out.cell 1
 have x2:=HX.out.cell 2
 simp at x0 x1 x2
 have hR:=HQ.out
 go_wp2_with fail
 all_goals
  go_ret
  refine ⟨ret_bool ?_,HB.out⟩
  rw [Bool.eq_iff_iff,fitT_iff]
  have:=HQ.out
  clear e0 e1 e2 HB HX HQ x0 x1 x2
  simp [*]
theorem fitsNot_any (t:Tri) (N:Int) (S:Value) (g:Nat) (w:World) (hg:Blk w g 24 #[.int .i64 N,S]) :
  Calls Tryz.prog 106 #[.agg #[.int .i64 t.a,.int .i64 t.b,.int .i64 t.c],.pointer (some ⟨g,0,none⟩)] w (BoolPost w (!(fitT N t))):=by
 obtain ⟨V,hV⟩:=jX (w.alloc (.cells #[.int .i64 t.a,.int .i64 t.b,.int .i64 t.c] 65))
 have HG:Hid (Blk V g 24 #[.int .i64 N,S]):=by subst hV; exact jJ (hg.alloc _)
 have HV:Hid (Below w.heap.size w V):=by subst hV; exact jJ ((Below.refl _ _).alloc (Nat.le_refl _) _)
 have x0:V.cell? ⟨w.heap.size,0,none⟩=some (.int .i64 t.a):=by subst hV; exact (Blk.new w 65 #[.int .i64 t.a,.int .i64 t.b,.int .i64 t.c]).cell 0
 have x1:V.cell? ⟨w.heap.size,1,none⟩=some (.int .i64 t.b):=by subst hV; exact (Blk.new w 65 #[.int .i64 t.a,.int .i64 t.b,.int .i64 t.c]).cell 1
 have x2:V.cell? ⟨w.heap.size,2,none⟩=some (.int .i64 t.c):=by subst hV; exact (Blk.new w 65 #[.int .i64 t.a,.int .i64 t.b,.int .i64 t.c]).cell 2
 have c0:=HG.out.cell 0
 simp at c0
 clear hg
 have HF:=jJ fun w=>fits1_any t N w
 generalize fitT N t=b at *
 go_enter Tryz.func106,Tryz.ntmps106
 subst hV
 go_wp2_with fail
 refine (HF.out _).mono ?_
 rintro e w1 ⟨rfl,hb⟩
 have HB1:=jJ (HV.out.trans (hb.mono HV.out.size))
 cases b with
 | true =>
  go_wp2_with fail
  go_ret
  exact ⟨rfl,HB1.out⟩
 | false =>
  go_wp2_with fail
  go_ret
  exact ⟨rfl,HB1.out⟩
theorem indexFunc_any (A:Option Addr) (n c:Nat) (T:List Tri) (N:Int) (S:Value) (g:Nat) (w:World) (hn:n ≤ 10000) (ht:TrisAt w w.heap.size A n T) (hg:Blk w g 24 #[.int .i64 N,S]) :
  Calls Tryz.prog 131 #[.slice A n c,.func (.func 106) #[] #[.pointer (some ⟨g,0,none⟩)]] w (fun e w'=>(∃ i:Int,e=.returned (.int .i64 i) ∧ ((decide (0 ≤ i))=!(T.all (fitT N)))) ∧ Below w.heap.size w w'):=by
 obtain rfl:n=T.length:=ht.len.symm
 have HT:=jJ ht
 have HG:=jJ hg
 clear ht hg
 go_enter Tryz.func131,Tryz.ntmps131
 go_wp2_with fail
 go_loopw [8] (fun iv wr=>∃ k:Nat,k ≤ T.length ∧ iv=.int .i64 k ∧ Hid ((T.take k).all (fitT N)=true) ∧ Hid (Below w.heap.size w wr)) (fun iv _=>T.length - (intOf iv).toNat)
 case atStart=>exact ⟨0,by omega,rfl,jJ (by simp),jJ (Below.refl _ _)⟩
 obtain ⟨k,hk,rfl,HA,HB⟩:=hrel
 by_cases hlt:k < T.length
 · obtain ⟨ad,t,rfl,htk,_,hadb,hc3⟩:=((HT.out.below HB.out).more HB.out.size).at_ hlt
   obtain ⟨d0,d1,d2,d3,d4,d5⟩:=hc3
   have hk0:(0:Int) ≤ (k:Int):=by omega
   have hk1:(k:Int) < (T.length:Int):=by omega
   have HTK:=jJ htk
   have HF:=jJ (fitsNot_any t N S g wr (HG.out.below HB.out HG.out.lt))
   clear htk
   go_wp2_with fail
   refine HF.out.mono ?_
   rintro e w1 ⟨rfl,hb⟩
   have HB1:=jJ (HB.out.trans (hb.mono HB.out.size))
   cases h:fitT N t with
   | false =>
    have hne:T.all (fitT N)=false:=by
     cases e:T.all (fitT N) with
     | false=>rfl
     | true =>
      have:=(List.all_eq_true.1 e) t (List.mem_of_getElem? HTK.out)
      rw [h] at this
      cases this
    go_wp2_with fail
    go_ret
    exact ⟨⟨k,rfl,by rw [hne]; simp⟩,HB1.out⟩
   | true =>
    go_wp2_with fail
    refine ⟨⟨k + 1,by omega,by go_num,jJ ?_,HB1⟩,by simp [intOf]; omega⟩
    rw [take_snoc_T T k HTK.out,List.all_append,HA.out]
    simp [h]
 obtain rfl:k=T.length:=by omega
 have hall:=HA.out
 rw [List.take_length] at hall
 go_wp2_with fail
 go_ret
 exact ⟨⟨-1,rfl,by rw [hall]; rfl⟩,HB.out⟩
theorem containsFunc_any (A:Option Addr) (n c:Nat) (T:List Tri) (N:Int) (S:Value) (g:Nat) (w:World) (hn:n ≤ 10000) (ht:TrisAt w w.heap.size A n T) (hg:Blk w g 24 #[.int .i64 N,S]) :
  Calls Tryz.prog 105 #[.slice A n c,.func (.func 106) #[] #[.pointer (some ⟨g,0,none⟩)]] w (BoolPost w (!(T.all (fitT N)))):=by
 have HI:=jJ (indexFunc_any A n c T N S g w hn ht hg)
 clear ht hg
 generalize T.all (fitT N)=b at *
 go_enter Tryz.func105,Tryz.ntmps105
 go_wp2_with fail
 refine HI.out.mono ?_
 rintro e w1 ⟨⟨i,rfl,hi⟩,hb⟩
 by_cases h:0 ≤ i
 · go_wp2_with fail
   go_ret
   refine ⟨ret_bool ?_,hb⟩
   rw [← hi]
   first | done | simp [h]
 go_wp2_with fail
 go_ret
 refine ⟨ret_bool ?_,hb⟩
 rw [← hi]
 first | done | simp [h]
theorem fits_any (N:Int) (A:Option Addr) (n c:Nat) (T:List Tri) (w:World) (hn:n ≤ 8192) (ht:TrisAt w w.heap.size A n T) :
  Calls Tryz.prog 86 #[.agg #[.int .i64 N,.slice A n c]] w (BoolPost w (fitL N T)):=by
 have HT:=jJ ht
 clear ht
 go_enter Tryz.func86,Tryz.ntmps86
 obtain ⟨V,hV⟩:=jX (w.alloc (.cells #[.int .i64 N,.slice A n c] 24))
 have HX:Hid (Blk V w.heap.size 24 #[.int .i64 N,.slice A n c]):=by subst hV; exact jJ (Blk.new _ _ _)
 have HB:Hid (Below w.heap.size w V):=by subst hV; exact jJ ((Below.refl _ _).alloc (Nat.le_refl _) _)
 have hn2:¬ (8192:Int) < (n:Int):=by omega
 by_cases h0:N < 0
 · go_wp2_with fail
   go_ret
   refine ⟨ret_bool ?_,by rw [← hV]; exact HB.out⟩
   unfold fitL
   rw [show decide (0 ≤ N)=false by simp; omega]
   rfl
 by_cases h1:4096 < N
 · go_wp2_with fail
   go_ret
   refine ⟨ret_bool ?_,by rw [← hV]; exact HB.out⟩
   unfold fitL
   rw [show decide (N ≤ 4096)=false by simp; omega]
   simp
 have hfl:fitL N T=T.all (fitT N):=by
  unfold fitL
  rw [show decide (N ≤ 4096)=true by simp; omega,show decide (0 ≤ N)=true by simp; omega]
  rfl
 rw [hfl]
 have HC:=jJ (containsFunc_any A n c T N _ w.heap.size V (by omega) ((HT.out.below HB.out).more HB.out.size) HX.out)
 clear hfl
 generalize T.all (fitT N)=b at *
 go_wp2_with fail
 rw [← hV]
 refine HC.out.mono ?_
 rintro e w1 ⟨rfl,hb⟩
 have HB1:=jJ (HB.out.trans (hb.mono HB.out.size))
 cases b with
 | true =>
  go_wp2_with fail
  go_ret
  exact ⟨rfl,HB1.out⟩
 | false =>
  go_wp2_with fail
  go_ret
  exact ⟨rfl,HB1.out⟩
end
section
def IRow (w:World) (B:Nat) (A:Option Addr) (c:Nat) (L:List Int):Prop:=w.ownsRow B 3 1 (.slice A L.length c) L.length (ZL L)
section
variable {w w':World} {B:Nat} {A:Option Addr} {c:Nat} {L:List Int}
theorem IRow.nil (w:World) (B:Nat):IRow w B none 0 []:=World.ownsRow_nil _ _ _ _
theorem IRow.below (h:IRow w B A c L) (hb:Below w.heap.size w w'):IRow w' B A c L:=own_same h fun k hk=>hb.block k (h.lt k hk).2
theorem IRow.alloc (h:IRow w B A c L) (o:Obj):IRow (w.alloc o) B A c L:=h.below ((Below.refl _ _).alloc (Nat.le_refl _) _)
theorem IRow.drew (h:IRow w B A c L):IRow w.drew B A c L:=h
theorem IRow.reads (h:IRow w B A c L):Reads w w.heap.size 1 A L.length (ZL L):=Reads.of_own h
theorem IRow.base {B':Nat} (h:IRow w B A c L) (hB:B' ≤ B):IRow w B' A c L:=by
 obtain ⟨h1,h2⟩:=h
 refine ⟨h1,?_⟩
 rcases h2 with h2 | ⟨g,cap,cur,hv,hb,hr⟩
 · exact .inl h2
 exact .inr ⟨g,cap,cur,hv,Nat.le_trans hB hb,hr⟩
theorem IRow.grown {row:Option Nat} (h:IRow w B A c L) (hg:w.grownBy w' row) (hne:∀ k,(Value.slice A L.length c).ownBlock=some k → some k ≠ row):IRow w' B A c L :=
 own_same h fun k hk=>hg.block k (h.lt k hk).2 (hne k hk)
theorem IRow.ne_blk {g:Nat} {t:TypeId} {cs:Array Value} (h:IRow w B A c L) (hb:Blk w g t cs) (ht : 3 ≠ t):∀ k,(Value.slice A L.length c).ownBlock=some k → k ≠ g:=fun k hk=>by
 obtain ⟨ds,hd⟩:=own_blk h hk
 exact hd.ne_ hb ht
theorem IRow.setCell {g i:Nat} {t:TypeId} {cs:Array Value} (h:IRow w B A c L) (hb:Blk w g t cs) (ht : 3 ≠ t) (u:Value):IRow (w.setCell ⟨g,i,none⟩ u) B A c L :=
 own_same h fun k hk=>Below.heap_setCell _ _ _ _ (h.ne_blk hb ht k hk)
end
def SPost (w:World) (N:Int) (T:List Tri) (e:Ending) (w':World):Prop:=∃ A c,e=.returned (.agg #[.int .i64 N,.slice A T.length c]) ∧ LRow w' w.heap.size A c T ∧ Below w.heap.size w w'
structure PS8 (W0 w:World) (gs gr:Nat) (N:Int) (A:Option Addr) (n c:Nat):Prop where
 s:Blk w gs 24 #[.int .i64 N,.slice A n c]
 r:Blk w gr 24 #[.int .i64 0,.slice none 0 0]
 b:Below W0.heap.size W0 w
 hs:W0.heap.size ≤ gs
 hr:W0.heap.size ≤ gr
 ne:gr ≠ gs
section
variable {W0 w w':World} {gs gr:Nat} {N:Int} {A:Option Addr} {n c:Nat}
theorem PS8.on (h:PS8 W0 w gs gr N A n c) (hb:Below w.heap.size w w'):PS8 W0 w' gs gr N A n c:=⟨blk_call h.s hb,blk_call h.r hb,bw_call h.b hb,h.hs,h.hr,h.ne⟩
theorem PS8.alloc (h:PS8 W0 w gs gr N A n c) (o:Obj):PS8 W0 (w.alloc o) gs gr N A n c:=h.on (bw_alloc (Below.refl _ _) o)
theorem PS8.drew (h:PS8 W0 w gs gr N A n c):PS8 W0 w.drew gs gr N A n c:=h.on (bw_drew (Below.refl _ _))
theorem PS8.drewN (h:PS8 W0 w gs gr N A n c) (m:Nat):PS8 W0 (w.drewN m) gs gr N A n c:=h.on (below_drewN (Below.refl _ _) m)
theorem PS8.far (h:PS8 W0 w gs gr N A n c) {go:Nat} (h1:gs ≠ go) (h2:gr ≠ go) (h3:W0.heap.size ≤ go) (i:Nat) (u:Value):PS8 W0 (w.setCell ⟨go,i,none⟩ u) gs gr N A n c:=⟨h.s.far h1 _,h.r.far h2 _,bw_set h.b h3 _,h.hs,h.hr,h.ne⟩
theorem PS8.grown (h:PS8 W0 w gs gr N A n c) {B:Nat} {A':Option Addr} {c':Nat} {T:List Tri} (h':LRow w B A' c' T) (hB:W0.heap.size ≤ B) (hg:w.grownBy w' (Value.slice A' T.length c').ownBlock):PS8 W0 w' gs gr N A n c :=
 ⟨h.s.grown hg fun e=>soup_tri_ne h' h.s gs e.symm rfl,h.r.grown hg fun e=>soup_tri_ne h' h.r gr e.symm rfl,bw_grow h.b hg fun k hk=>Nat.le_trans hB (h'.owns.lt k hk).1,h.hs,h.hr,h.ne⟩
theorem PS8.cells (h:PS8 W0 w gs gr N A n c):w.cell? ⟨gs,0,none⟩=some (.int .i64 N) ∧ w.cell? ⟨gs,1,none⟩=some (.slice A n c) ∧ w.cell? ⟨gr,0,none⟩=some (.int .i64 0) ∧ w.cell? ⟨gr,1,none⟩=some (.slice none 0 0) ∧ w.frozen? ⟨gr,0,none⟩=false ∧ w.frozen? ⟨gr,1,none⟩=false :=
 have h1:=soup_facts h.s
 have h2:=soup_facts h.r
 ⟨h1.1,h1.2.1,h2.1,h2.2.1,h2.2.2.1,h2.2.2.2.1⟩
end
theorem tri_cells {w:World} {g:Nat} {x y z:Value} (h:Blk w g 65 #[x,y,z]):w.cell? ⟨g,0,none⟩=some x ∧ w.cell? ⟨g,1,none⟩=some y ∧ w.cell? ⟨g,2,none⟩=some z:=⟨h.cell 0,h.cell 1,h.cell 2⟩
def PickPost (w:World) (r:Int × List Tri × Int) (e:Ending) (w':World):Prop:=∃ A c,e=.returned (.tuple #[.agg #[.int .i64 r.1,.slice A r.2.1.length c],.int .i64 r.2.2]) ∧ LRow w' w.heap.size A c r.2.1 ∧ Below w.heap.size w w'
theorem pick_post {w w':World} {r:Int × List Tri × Int} {A:Option Addr} {c:Nat} {N e:Int} {L:List Tri} (h:r=(N,L,e)) (hr:LRow w' w.heap.size A c L) (hb:Below w.heap.size w w'):PickPost w r (.returned (.tuple #[.agg #[.int .i64 N,.slice A L.length c],.int .i64 e])) w':=by
 subst h
 exact ⟨A,c,rfl,hr,hb⟩
theorem fit_tri {N:Int} {T:List Tri} (hf:fitL N T=true) {i:Nat} (hi:i < T.length):fitT N (tri T i)=true:=by
 unfold fitL at hf
 simp only [Bool.and_eq_true] at hf
 exact (List.all_eq_true.1 hf.2) _ (List.mem_of_getElem? (tri_at hi))
theorem fit_N {N:Int} {T:List Tri} (hf:fitL N T=true):0 ≤ N ∧ N ≤ 4096:=by
 unfold fitL at hf
 simp only [Bool.and_eq_true,decide_eq_true_eq] at hf
 exact hf.1
end
section
structure Cells2 (w:World) (q:Addr) (x y:Value):Prop where
 c0:w.cell? q=some x
 c1:w.cell? (q.add 1)=some y
 f0:w.cell? ⟨q.block,q.off,none⟩=some x
 f1:w.cell? ⟨q.block,q.off + 1,none⟩=some y
theorem cells2 {w:World} {q:Addr} {x y:Value} (h0:w.cell? q=some x) (h1:w.cell? (q.add 1)=some y):Cells2 w q x y:=by
 have e:=cell_spot h0
 refine ⟨h0,h1,?_,?_⟩
 · rw [← e]; exact h0
 have e1:q.add 1=⟨q.block,q.off + 1,none⟩:=by rw [e]; simp [Addr.add]
 rw [← e1]; exact h1
structure Sp where
 N:Int
 A:Option Addr
 c:Nat
 T:List Tri
def Sp.cells (s:Sp):List Value:=[.int .i64 s.N,.slice s.A s.T.length s.c]
structure SoupsAt (w:World) (B:Nat) (A:Option Addr) (n:Nat) (l:List Sp):Prop where
 row:Reads w B 2 A n (l.flatMap Sp.cells)
 tris:∀ s ∈ l,TrisAt w B s.A s.T.length s.T
theorem SoupsAt.len {w:World} {B:Nat} {A:Option Addr} {n:Nat} {l:List Sp} (h:SoupsAt w B A n l):l.length=n:=by
 have:=h.row.1
 rw [flatMap_len 2 _ (fun _=>rfl)] at this
 omega
theorem SoupsAt.below {w w':World} {B:Nat} {A:Option Addr} {n:Nat} {l:List Sp} (h:SoupsAt w B A n l) (hb:Below B w w'):SoupsAt w' B A n l:=⟨h.row.below hb,fun s hs=>(h.tris s hs).below hb⟩
theorem SoupsAt.more {w:World} {B B':Nat} {A:Option Addr} {n:Nat} {l:List Sp} (h:SoupsAt w B A n l) (hb:B ≤ B'):SoupsAt w B' A n l:=⟨h.row.more hb,fun s hs=>(h.tris s hs).more hb⟩
theorem SoupsAt.at_ {w:World} {B:Nat} {A:Option Addr} {n:Nat} {l:List Sp} (h:SoupsAt w B A n l) {k:Nat} (hk:k < n) :
  ∃ ad s,A=some ad ∧ l[k]?=some s ∧ ad.block < B ∧ Cells2 w (ad.add (k * 2)) (.int .i64 s.N) (.slice s.A s.T.length s.c) ∧ TrisAt w B s.A s.T.length s.T:=by
 obtain ⟨ad,e,hb,hc⟩:=h.row.2 (by omega)
 have hl:k < l.length:=by rw [h.len]; exact hk
 have hp:l[k]?=some l[k]:=List.getElem?_eq_getElem hl
 have h0:=flatMap_at 2 Sp.cells (fun _=>rfl) l k 0 _ hp (by omega)
 have h1:=flatMap_at 2 Sp.cells (fun _=>rfl) l k 1 _ hp (by omega)
 refine ⟨ad,l[k],e,hp,hb,cells2 (hc _ _ h0) ?_,h.tris _ (List.getElem_mem hl)⟩
 rw [add_of_add]
 exact hc _ _ h1
def shT (N:Int) (t:Tri):Tri:=⟨t.a + N,t.b + N,t.c + N⟩
def joinStep (r:Int × List Tri) (s:Sp):Int × List Tri:=(r.1 + s.N,r.2 ++ s.T.map (shT r.1))
def joinS (l:List Sp):Int × List Tri:=l.foldl joinStep (0,[])
def allFit (l:List Sp):Bool:=l.all fun s=>fitL s.N s.T
def joinL (l:List Sp):Int × List Tri × Int:=if allFit l=false then (0,[],1) else if 4096 < (joinS l).1 then (0,[],7) else ((joinS l).1,(joinS l).2,0)
theorem take_snoc_S (l:List Sp) (k:Nat) {s:Sp} (h:l[k]?=some s):l.take (k + 1)=l.take k ++ [s]:=by
 rw [List.take_add_one,h]
 rfl
theorem joinS_succ (l:List Sp) (k:Nat) {s:Sp} (h:l[k]?=some s):joinS (l.take (k + 1))=joinStep (joinS (l.take k)) s:=by
 rw [take_snoc_S l k h]
 unfold joinS
 rw [List.foldl_append]
 rfl
theorem joinS_le (l m:List Sp) (h:∀ s ∈ m,0 ≤ s.N):∀ r:Int × List Tri,r.1 ≤ (m.foldl joinStep r).1:=by
 induction m with
 | nil=>exact fun r=>Int.le_refl _
 | cons s m ih =>
  intro r
  rw [List.foldl_cons]
  have h1:=ih (fun x hx=>h x (List.mem_cons_of_mem _ hx)) (joinStep r s)
  have h2:=h s (List.mem_cons_self ..)
  have h3:(joinStep r s).1=r.1 + s.N:=rfl
  omega
theorem joinS_take (l:List Sp) (h:∀ s ∈ l,0 ≤ s.N) (k:Nat):(joinS (l.take k)).1 ≤ (joinS l).1:=by
 have h1:=joinS_le l (l.drop k) (fun s hs=>h s (List.mem_of_mem_drop hs)) (joinS (l.take k))
 have h2:(l.drop k).foldl joinStep (joinS (l.take k))=joinS l:=by
  unfold joinS
  rw [← List.foldl_append,List.take_append_drop]
 rw [h2] at h1
 exact h1
theorem joinS_bound (l:List Sp) (h:∀ s ∈ l,0 ≤ s.N ∧ s.N ≤ 4096):∀ k,k ≤ l.length → 0 ≤ (joinS (l.take k)).1 ∧ (joinS (l.take k)).1 ≤ 4096 * k:=by
 intro k
 induction k with
 | zero=>intro _; simp [joinS]
 | succ k ih =>
  intro hk
  have hp:l[k]?=some l[k]:=List.getElem?_eq_getElem (by omega)
  have h1:=ih (by omega)
  have h2:=h _ (List.getElem_mem (show k < l.length by omega))
  rw [joinS_succ l k hp]
  have h3:(joinStep (joinS (l.take k)) l[k]).1=(joinS (l.take k)).1 + l[k].N:=rfl
  omega
theorem joinS_len (l:List Sp) (m:Nat) (h:∀ s ∈ l,s.T.length ≤ m):∀ k,k ≤ l.length → (joinS (l.take k)).2.length ≤ m * k:=by
 intro k
 induction k with
 | zero=>intro _; simp [joinS]
 | succ k ih =>
  intro hk
  have hp:l[k]?=some l[k]:=List.getElem?_eq_getElem (by omega)
  have h1:=ih (by omega)
  have h2:=h _ (List.getElem_mem (show k < l.length by omega))
  rw [joinS_succ l k hp]
  have h3:(joinStep (joinS (l.take k)) l[k]).2.length=(joinS (l.take k)).2.length + l[k].T.length:=by simp [joinStep]
  rw [h3,Nat.mul_succ]
  omega
theorem allFit_take {l:List Sp} (h:allFit l=true) {k:Nat} {s:Sp} (hk:l[k]?=some s):fitL s.N s.T=true:=by
 unfold allFit at h
 rw [List.all_eq_true] at h
 exact h s (List.mem_of_getElem? hk)
theorem joinL_bad {l:List Sp} {k:Nat} {s:Sp} (hk:l[k]?=some s) (hf:fitL s.N s.T=false):joinL l=(0,[],1):=by
 unfold joinL
 rw [if_pos]
 unfold allFit
 rw [← Bool.not_eq_true,List.all_eq_true]
 intro h
 rw [h s (List.mem_of_getElem? hk)] at hf
 cases hf
theorem joinL_full {l:List Sp} (hf:allFit l=true) (h:4096 < (joinS l).1):joinL l=(0,[],7):=by
 unfold joinL
 rw [if_neg (by rw [hf]; simp),if_pos h]
theorem joinL_ok {l:List Sp} (hf:allFit l=true) (h:¬ 4096 < (joinS l).1):joinL l=((joinS l).1,(joinS l).2,0):=by
 unfold joinL
 rw [if_neg (by rw [hf]; simp),if_neg h]
theorem allFit_snoc {l:List Sp} {k:Nat} {s:Sp} (h:allFit (l.take k)=true) (hk:l[k]?=some s) (hf:fitL s.N s.T=true):allFit (l.take (k + 1))=true:=by
 rw [take_snoc_S l k hk]
 unfold allFit at *
 rw [List.all_append,h]
 simp [hf]
theorem allFit_N {l:List Sp} (h:allFit l=true):∀ s ∈ l,0 ≤ s.N ∧ s.N ≤ 4096:=fun s hs=>by
 unfold allFit at h
 rw [List.all_eq_true] at h
 have:=fit_N (h s hs)
 omega
end
section
section
variable {T:List Tri} {m:Nat}
theorem putX_in (o:List Int) (c:Nat):cv T c ∈ putX T o c ∧ cv T (nxc c) ∈ putX T o c ∧ cv T (pvc c) ∈ putX T o c:=by
 unfold putX
 obtain ⟨l1,h1⟩:=putW_more (putW o (cv T c)) (cv T (nxc c))
 obtain ⟨l2,h2⟩:=putW_more (putW (putW o (cv T c)) (cv T (nxc c))) (cv T (pvc c))
 refine ⟨?_,?_,putW_mem _ _⟩
 · rw [h2,h1]
   exact List.mem_append_left _ (List.mem_append_left _ (putW_mem _ _))
 rw [h2]
 exact List.mem_append_left _ (putW_mem _ _)
theorem oldC_has {cs:List Nat} {c:Nat} (h:c ∈ cs):cv T c ∈ oldC T cs ∧ cv T (nxc c) ∈ oldC T cs ∧ cv T (pvc c) ∈ oldC T cs:=by
 obtain ⟨l,r,rfl⟩:=List.append_of_mem h
 obtain ⟨l',hl'⟩:=oldC_more (T:=T) (l ++ [c]) r
 rw [show l ++ c :: r=(l ++ [c]) ++ r by simp,hl',oldC_snoc]
 obtain ⟨h1,h2,h3⟩:=putX_in (T:=T) (oldC T l) c
 exact ⟨List.mem_append_left _ h1,List.mem_append_left _ h2,List.mem_append_left _ h3⟩
theorem idx_inj {o:List Int} {a b:Int} (ha:a ∈ o) (hb:b ∈ o) (h:o.idxOf a=o.idxOf b):a=b:=by
 have h1:=List.getElem_idxOf (List.idxOf_lt_length_of_mem ha)
 have h2:=List.getElem_idxOf (List.idxOf_lt_length_of_mem hb)
 rw [← h1,← h2]
 congr 1
theorem rootO_len (c:Nat) (hc:c < 3 * T.length):(rootO T c).length ≤ 3 * T.length:=by
 have h1:=oldC_len (T:=T) (rootC T c)
 have h2:=(rootC_fi hc).short
 unfold rootO
 omega
theorem cv_ne (hs:SurfE m T) {c:Nat} (hc:c < 3 * T.length):cv T c ≠ cv T (nxc c) ∧ cv T (nxc c) ≠ cv T (pvc c) ∧ cv T (pvc c) ≠ cv T c:=by
 have ht:nxc c ≠ c ∧ pvc c ≠ nxc c ∧ c ≠ pvc c:=by unfold nxc pvc; omega
 refine ⟨fun e=>ht.1 ?_,fun e=>ht.2.1 ?_,fun e=>ht.2.2 ?_⟩
 · exact (corner_one hs hc (nxc_lt hc) (by rw [nxc_div]) e).symm
 · exact (corner_one hs (nxc_lt hc) (pvc_lt hc) (by rw [nxc_div,pvc_div]) e).symm
 exact (corner_one hs (pvc_lt hc) hc (by rw [pvc_div]) e).symm
theorem fit_root (hs:SurfE m T) (hn:T.length ≤ 1000) {c:Nat} (hc:c < 3 * T.length):fitL ((rootO T c).length:Int) (rootT T c)=true:=by
 have hl:=rootO_len c hc
 unfold fitL
 simp only [Bool.and_eq_true,decide_eq_true_eq,List.all_eq_true]
 refine ⟨⟨by omega,by omega⟩,fun t ht=>?_⟩
 unfold rootT at ht
 obtain ⟨d,hd,rfl⟩:=List.mem_map.1 ht
 obtain ⟨h1,h2,h3⟩:=oldC_has (T:=T) hd
 obtain ⟨n1,n2,n3⟩:=cv_ne hs ((rootC_fi hc).lt d hd)
 have e:rootO T c=oldC T (rootC T c):=rfl
 rw [fitT_iff,e]
 unfold triR
 have l1:=List.idxOf_lt_length_of_mem h1
 have l2:=List.idxOf_lt_length_of_mem h2
 have l3:=List.idxOf_lt_length_of_mem h3
 refine ⟨by dsimp only; omega,fun e=>n1 (idx_inj h1 h2 (by dsimp only at e; omega)),fun e=>n2 (idx_inj h2 h3 (by dsimp only at e; omega)),fun e=>n3 (idx_inj h3 h1 (by dsimp only at e; omega))⟩
def Sps (T:List Tri) (b:Nat → Nat) (sp:Nat → Sp) (K:Nat):Prop:=∀ j,j < K → (sp j).N=((rootO T (b j)).length:Int) ∧ (sp j).T=rootT T (b j)
theorem oldsC_snoc (l:List Nat) (c:Nat):oldsC T (l ++ [c])=oldsC T l ++ rootO T c:=by unfold oldsC; rw [List.flatMap_append]; simp
theorem joinS_root {b:Nat → Nat} {sp:Nat → Sp} {K:Nat} (h:Sps T b sp K):∀ (js:List Nat) (n:Int) (L:List Tri),(∀ j ∈ js,j < K) →
  (js.map sp).foldl joinStep (n,L)=(n + (oldsC T (js.map b)).length,L ++ joinC T (js.map b) n)
 | [],n,L,_=>by simp [oldsC,joinC]
 | j :: js,n,L,hj=>by
  obtain ⟨h1,h2⟩:=h j (hj j List.mem_cons_self)
  rw [List.map_cons,List.foldl_cons,joinStep,joinS_root h js _ _ fun x hx=>hj x (List.mem_cons_of_mem _ hx),h1,h2]
  rw [List.map_cons,joinC]
  refine Prod.ext ?_ ?_
  · show n + ((rootO T (b j)).length:Int) + _=n + ((oldsC T (b j :: js.map b)).length:Int)
    unfold oldsC
    rw [List.flatMap_cons,List.length_append]
    omega
  show L ++ (rootT T (b j)).map (shT n) ++ joinC T (js.map b) (n + (rootO T (b j)).length)=_
  rw [List.append_assoc]
  rfl
theorem oldsC_len {l:List Nat} (h:∀ c ∈ l,c < 3 * T.length):(oldsC T l).length ≤ 3 * T.length * l.length:=by
 induction l with
 | nil=>simp [oldsC]
 | cons c l ih =>
  have h1:=rootO_len c (h c List.mem_cons_self)
  have h2:=ih fun x hx=>h x (List.mem_cons_of_mem _ hx)
  unfold oldsC at *
  rw [List.flatMap_cons,List.length_append,List.length_cons,Nat.mul_succ]
  omega
theorem joinL_root {b:Nat → Nat} {sp:Nat → Sp} {K:Nat} (hs:SurfE m T) (hn:T.length ≤ 1000) (hb:∀ j,j < K → b j < 3 * T.length) (hk:T.length * K ≤ 1000) (h:Sps T b sp K) :
  joinL ((List.range K).map sp)=(((oldsC T ((List.range K).map b)).length:Int),joinC T ((List.range K).map b) 0,0):=by
 have hj:joinS ((List.range K).map sp)=(((oldsC T ((List.range K).map b)).length:Int),joinC T ((List.range K).map b) 0):=by
  unfold joinS
  rw [joinS_root h (List.range K) 0 [] fun j hj=>List.mem_range.1 hj]
  simp
 have hf:allFit ((List.range K).map sp)=true:=by
  unfold allFit
  rw [List.all_eq_true]
  intro s hs'
  obtain ⟨j,hj',rfl⟩:=List.mem_map.1 hs'
  obtain ⟨h1,h2⟩:=h j (List.mem_range.1 hj')
  rw [h1,h2]
  exact fit_root hs hn (hb j (List.mem_range.1 hj'))
 have hl:=oldsC_len (T:=T) (l:=(List.range K).map b) fun c hc=>by
  obtain ⟨j,hj',rfl⟩:=List.mem_map.1 hc
  exact hb j (List.mem_range.1 hj')
 rw [List.length_map,List.length_range,Nat.mul_assoc] at hl
 have hle:((oldsC T ((List.range K).map b)).length:Int) ≤ 4096:=by omega
 rw [joinL_ok hf (by rw [hj]; exact Int.not_lt.2 hle),hj]
theorem joinS_short {b:Nat → Nat} {sp:Nat → Sp} {K:Nat} (hb:∀ j,j < K → b j < 3 * T.length) (hk:T.length * K ≤ 1000) (h:Sps T b sp K) (k:Nat) (hkK:k ≤ ((List.range K).map sp).length):(joinS (((List.range K).map sp).take k)).2.length ≤ 6000:=by
 have:=joinS_len ((List.range K).map sp) T.length (fun s hs=>by
  obtain ⟨j,hj',rfl⟩:=List.mem_map.1 hs
  rw [(h j (List.mem_range.1 hj')).2,rootT_len]
  exact (rootC_fi (hb j (List.mem_range.1 hj'))).short) k hkK
 have h2:T.length * k ≤ T.length * K:=Nat.mul_le_mul_left _ (by simpa using hkK)
 omega
end
end
section
theorem SlotV.only {B gb b:Nat} {T:List Tri} {u:Nat → Value} {W W':World} {K:Nat} {v:Nat → Nat → Value} (h:SlotV B T b u W) (hs:SAt W gb K v) (ho:Only (fun i=>i=gb) W W'):SlotV B T b u W' :=
 h.same fun el s n z xs hne how=>own_same how fun q hq=>ho.block q (World.ownsRow.lt how q hq).2 fun e=>hs.own_ne how hne (by rw [hq,e])
theorem BAt.rows {w W:World} {T:List Tri} {gb:Nat} (h:BAt w T gb (kN T) (bestF T (3 * T.length)) W) :
  ∃ v,SAt W gb (kN T) v ∧ RowsS w.heap.size gb (kN T) v (fun k=>rowC T (bestN T k)) W ∧ ∀ k,k < kN T → SlotV w.heap.size T (bestN T k) (v k) W:=by
 obtain ⟨v,hs,hv⟩:=h.ex
 have key:∀ k,k < kN T → SlotV w.heap.size T (bestN T k) (v k) W:=fun k hk=>by
  have h1:=hv k hk
  rw [(bestN_is hk).1] at h1
  exact h1
 refine ⟨v,hs,⟨fun k hk=>?_,fun k j hk hj=>?_⟩,key⟩
 · obtain ⟨Ar,At,Ao,cr,ct,co,e,r,_,_⟩:=(key k hk).ex
   exact ⟨Ar,cr,by rw [e]; rfl,r,hs.own_ne r (by decide)⟩
 obtain ⟨Ar,At,Ao,cr,ct,co,e,r,_,_⟩:=(key k hk).ex
 rw [e]
 rcases (by omega:j=0 ∨ j=1 ∨ j=2 ∨ j=3 ∨ j=4 ∨ j=5) with rfl | rfl | rfl | rfl | rfl | rfl <;> rfl
structure Outs (B gb K:Nat) (T:List Tri) (b:Nat → Nat) (sp:Nat → Sp) (q:Nat → Option Addr × Nat) (u:Nat → Option Addr × Nat × Nat) (W:World):Prop where
 s:SAt W gb K (fun j=>s6 (.slice (u j).1 (u j).2.1 (u j).2.2) (.int .i64 (sp j).N) (.slice (sp j).A (sp j).T.length (sp j).c) (.slice none 0 0) (.slice none 0 0) (.slice (q j).1 (rootO T (b j)).length (q j).2))
 sps:Sps T b sp K
 l:∀ j,j < K → LRow W B (sp j).A (sp j).c (sp j).T
 o:∀ j,j < K → IR W B (q j).1 (q j).2 (rootO T (b j))
theorem Outs.below {B gb K:Nat} {T:List Tri} {b:Nat → Nat} {sp:Nat → Sp} {q:Nat → Option Addr × Nat} {u:Nat → Option Addr × Nat × Nat} {W W':World} (h:Outs B gb K T b sp q u W) (hb:Below W.heap.size W W'):Outs B gb K T b sp q u W' :=
 ⟨h.s.below hb h.s.lt,h.sps,fun j hj=>(h.l j hj).below hb,fun j hj=>(h.o j hj).below hb⟩
theorem outs_of {B gb K:Nat} {T:List Tri} {b:Nat → Nat} {v:Nat → Nat → Value} {W:World} (hs:SAt W gb K v) (h:∀ j,j < K → SlotV B T (b j) (v j) W):∃ sp q u,Outs B gb K T b sp q u W:=by
 have h1:∀ j,j < K → ∃ x:(Option Addr × Nat) × (Option Addr × Nat) × Option Addr × Nat,v j=s6 (.slice x.1.1 (rowC T (b j)).length x.1.2) (.int .i64 ((rootO T (b j)).length:Int)) (.slice x.2.1.1 (rootT T (b j)).length x.2.1.2) (.slice none 0 0) (.slice none 0 0) (.slice x.2.2.1 (rootO T (b j)).length x.2.2.2) ∧
   LRow W B x.2.1.1 x.2.1.2 (rootT T (b j)) ∧ IR W B x.2.2.1 x.2.2.2 (rootO T (b j)):=fun j hj=>by
  obtain ⟨Ar,At,Ao,cr,ct,co,e,_,r2,r3⟩:=(h j hj).ex
  exact ⟨((Ar,cr),(At,ct),Ao,co),e,r2,r3⟩
 haveI:Inhabited ((Option Addr × Nat) × (Option Addr × Nat) × Option Addr × Nat):=⟨((none,0),(none,0),none,0)⟩
 obtain ⟨F,hF⟩:=Deep.choose_lt h1
 refine ⟨fun j=>⟨((rootO T (b j)).length:Int),(F j).2.1.1,(F j).2.1.2,rootT T (b j)⟩,fun j=>((F j).2.2.1,(F j).2.2.2),fun j=>((F j).1.1,(rowC T (b j)).length,(F j).1.2),⟨hs.congr fun k j hk hj=>?_,fun j hj=>⟨rfl,rfl⟩,fun j hj=>(hF j hj).2.1,fun j hj=>(hF j hj).2.2⟩⟩
 rw [(hF k hk).1]
theorem own_grow2 {w w':World} {B B' s s' n n':Nat} {e e':TypeId} {v v':Value} {xs xs':List Value} (h:w.ownsRow B e s v n xs) (hg:w.grownBy w' v'.ownBlock) (ha:w.ownsRow B' e' s' v' n' xs') (hne:e ≠ e'):w'.ownsRow B e s v n xs :=
 own_same h fun k hk=>hg.block k (World.ownsRow.lt h k hk).2 fun ek=>by
  obtain ⟨cs,hb⟩:=own_blk ha ek.symm
  exact own_blk_ne h hb hne hk
theorem own_up {w:World} {B s n:Nat} {e:TypeId} {v:Value} {xs:List Value} (h:w.ownsRow B e s v n xs) (o:Obj):(w.alloc o).ownsRow B e s v n xs:=own_same h fun k hk=>Below.heap_alloc _ _ _ (World.ownsRow.lt h k hk).2
theorem own_off {w:World} {B s n g:Nat} {e t:TypeId} {v:Value} {xs:List Value} {cs:Array Value} (h:w.ownsRow B e s v n xs) (hb:Blk w g t cs) (hne:e ≠ t) (o:Nat) (u:Value):(w.setCell ⟨g,o,none⟩ u).ownsRow B e s v n xs :=
 own_same h fun k hk=>Below.heap_setCell _ ⟨g,o,none⟩ _ k fun ek=>own_blk_ne h hb hne (by rw [hk,ek])
theorem put_of {T:List Tri} {p:List Nat} (hp:p.Perm (List.range (kN T))) (hs:∀ i j,i < j → j < kN T → ¬ ltL (rowC T (bestN T (p.getD j 0))) (rowC T (bestN T (p.getD i 0)))):Put T p :=
 ⟨hp,fun i j hij hj=>hs i j hij (by rw [← List.length_range (n:=kN T),← hp.length_eq]; exact hj)⟩
theorem put_list {T:List Tri} {p:List Nat} (h:Put T p):putL T p=(List.range (kN T)).map fun j=>bestN T (p.getD j 0):=by
 have hl:p.length=kN T:=by rw [h.perm.length_eq,List.length_range]
 unfold putL
 refine List.ext_getElem? fun i=>?_
 rw [List.getElem?_map,List.getElem?_map]
 by_cases hi:i < kN T
 · rw [List.getElem?_range hi,List.getElem?_eq_getElem (by omega)]
   simp [List.getD,List.getElem?_eq_getElem (show i < p.length by omega)]
 rw [List.getElem?_eq_none (by omega),List.getElem?_eq_none (by simp; omega)]
 rfl
theorem put_lt {T:List Tri} {p:List Nat} (h:Put T p) {j:Nat} (hj:j < kN T):bestN T (p.getD j 0) < 3 * T.length:=by
 have hl:p.length=kN T:=by rw [h.perm.length_eq,List.length_range]
 have h1:p.getD j 0 ∈ p:=by
  rw [List.getD,List.getElem?_eq_getElem (by omega)]
  exact List.getElem_mem _
 have h2:=List.mem_range.1 (h.perm.mem_iff.1 h1)
 exact (bestN_is h2).2.lt
end
section
attribute [local irreducible] World.alloc World.setCell World.cell? World.frozen?
theorem run_nq_tri (a b c d e f:Int) (w:World):(binOp .neq 65 (.agg #[.int .i64 a,.int .i64 b,.int .i64 c]) (.agg #[.int .i64 d,.int .i64 e,.int .i64 f])).run Tryz.prog w=.ok (.bool (!(a == d && b == e && c == f))) w:=by
 rw [run_neq_struct]
 show ((Op.equalIn (9998 + 1 + 1) _ _ _).run _ _).andThen _=_
 unfold Op.equalIn
 cases h1:(a == d) <;> cases h2:(b == e) <;> cases h3:(c == f) <;> simp [go_sem,Tryz.underlying3,Result.andThen,List.range',h1,h2,h3]
deriving instance DecidableEq for Tri
theorem tri_eqb (t u:Tri):(t.a == u.a && t.b == u.b && t.c == u.c)=decide (t=u):=by
 obtain ⟨a,b,c⟩:=t
 obtain ⟨d,e,f⟩:=u
 by_cases h1:a=d <;> by_cases h2:b=e <;> by_cases h3:c=f <;> simp [h1,h2,h3]
theorem take_ne {X Y:List Tri} {k:Nat} {t u:Tri} (hx:X[k]?=some t) (hy:Y[k]?=some u) (h:t ≠ u):¬ X=Y:=by
 rintro rfl
 rw [hx] at hy
 cases hy
 exact h rfl
theorem slEqual_dec (X Y:List Tri) (B B2:Nat) (A A':Option Addr) (n n' c c':Nat) (w:World) (hn:n ≤ 1000000) (hn':n' ≤ 1000000) (h1:TrisAt w B A n X) (h2:TrisAt w B2 A' n' Y) :
  Calls Tryz.prog 72 #[.slice A n c,.slice A' n' c'] w (BoolPost w (decide (X=Y))):=by
 have hxl:=h1.len
 have hyl:=h2.len
 have H1:=jJ h1
 have H2:=jJ h2
 clear h1 h2
 go_enter Tryz.func72,Tryz.ntmps72
 by_cases hnn:n=n'
 · subst hnn
   go_wp2_with fail
   go_loopw [13] (fun iv wr=>∃ k q:Nat,k ≤ n ∧ iv=.int .i64 k ∧ Hid (X.take k=Y.take k) ∧ wr=w.drewN q) (fun iv _=>n - (intOf iv).toNat)
   case atStart=>exact ⟨0,0,by omega,rfl,jJ rfl,rfl⟩
   obtain ⟨k,q,hk,rfl,HK,rfl⟩:=hrel
   by_cases hlt:k < n
   · obtain ⟨ad,t,rfl,htk,_,hadb,hc3⟩:=H1.out.at_ hlt
     obtain ⟨ad2,t2,rfl,htk2,_,hadb2,hc4⟩:=H2.out.at_ hlt
     obtain ⟨d0,d1,d2,d3,d4,d5⟩:=hc3
     obtain ⟨e0,e1,e2,e3,e4,e5⟩:=hc4
     have hne:=run_nq_tri t.a t.b t.c t2.a t2.b t2.c
     rw [tri_eqb] at hne
     have HX:=jJ htk
     have HY:=jJ htk2
     have hk0:(0:Int) ≤ (k:Int):=by omega
     have hk1:(k:Int) < (n:Int):=by omega
     clear htk htk2 hadb hadb2
     by_cases heq:t=t2
     · have HS:Hid (X.take (k + 1)=Y.take (k + 1)):=jJ (by rw [take_snoc_T X k HX.out,take_snoc_T Y k HY.out,HK.out,heq])
       have hd:(!(decide (t=t2)))=false:=by simp [heq]
       rw [hd] at hne
       clear hd heq
       go_wp2_with fail
       go_quiet (fail)
       go_wp2_with fail
       exact ⟨⟨k + 1,_,by omega,by go_num,HS,rfl⟩,by simp [intOf]; omega⟩
     have HF:Hid (decide (X=Y)=false):=jJ (decide_eq_false (take_ne HX.out HY.out heq))
     have hd:(!(decide (t=t2)))=true:=by simp [heq]
     rw [hd] at hne
     clear hd heq
     go_wp2_with fail
     go_quiet (fail)
     go_wp2_with fail
     go_ret
     rw [HF.out]
     exact ⟨rfl,below_drewN (below_drewN (Below.refl _ _) q) _⟩
   obtain rfl:k=n:=by omega
   have HF:Hid (decide (X=Y)=true):=jJ (decide_eq_true (by
    have h:=HK.out
    rw [List.take_of_length_le (by omega),List.take_of_length_le (by omega)] at h
    exact h))
   go_wp2_with fail
   go_ret
   rw [HF.out]
   exact ⟨rfl,below_drewN (Below.refl _ _) q⟩
 have HF:Hid (decide (X=Y)=false):=jJ (decide_eq_false (fun e=>hnn (by rw [← hxl,← hyl,e])))
 have hi:¬ ((n:Int)=(n':Int)):=by omega
 go_wp2_with fail
 go_ret
 rw [HF.out]
 exact ⟨rfl,Below.refl _ _⟩
theorem soupSame_dec (N M:Int) (X Y:List Tri) (A A':Option Addr) (n n' c c':Nat) (w:World) (hn:n ≤ 1000000) (hn':n' ≤ 1000000) (h1:TrisAt w w.heap.size A n X) (h2:TrisAt w w.heap.size A' n' Y) :
  Calls Tryz.prog 42 #[.agg #[.int .i64 N,.slice A n c],.agg #[.int .i64 M,.slice A' n' c']] w (BoolPost w (decide (N=M ∧ X=Y))):=by
 have H1:=jJ h1
 have H2:=jJ h2
 clear h1 h2
 obtain ⟨b,hb⟩:∃ b,b=decide (N=M ∧ X=Y):=⟨_,rfl⟩
 rw [← hb]
 have HBQ:=jJ hb
 clear hb
 go_enter Tryz.func42,Tryz.ntmps42
 go_upto_region 1 with (fail)
 obtain ⟨V,hV⟩:=jX ((w.alloc (.cells #[.int .i64 N,.slice A n c] 24)).alloc (.cells #[.int .i64 M,.slice A' n' c'] 24))
 have HX:Hid (Blk V w.heap.size 24 #[.int .i64 N,.slice A n c]):=by subst hV; exact jJ ((Blk.new _ _ _).alloc _)
 have HY:Hid (Blk V (w.heap.size + 1) 24 #[.int .i64 M,.slice A' n' c']):=by subst hV; exact jJ (blk_new1 _ _ _ _)
 have HB:Hid (Below w.heap.size w V):=by subst hV; exact jJ (bw_alloc (bw_alloc (Below.refl _ _) _) _)
 rw [← hV]
 clear hV
 obtain ⟨x0,x1,_,_,_⟩:=soup_facts HX.out
 obtain ⟨y0,y1,_,_,_⟩:=soup_facts HY.out
 have HE:=jJ (slEqual_dec X Y _ _ A A' n n' c c' V hn hn' (H1.out.below HB.out) (H2.out.below HB.out))
 by_cases hNM:N=M
 · have HQ:Hid (b=decide (X=Y)):=jJ (by rw [HBQ.out]; simp [hNM])
   generalize decide (X=Y)=b2 at *
   go_wp2_with fail
   refine HE.out.mono ?_
   rintro e w1 ⟨rfl,hb1⟩
   have HB1:=jJ (bw_call HB.out hb1)
   clear hb1
   go_wp2_with fail
   go_ret
   rw [HQ.out]
   exact ⟨rfl,HB1.out⟩
 have HQ:Hid (b=false):=jJ (by rw [HBQ.out]; simp [hNM])
 go_wp2_with fail
 go_ret
 rw [HQ.out]
 exact ⟨rfl,HB.out⟩
end
section
abbrev Way:=(Option Addr × Nat) × List Int
def wayC (x:Way):Value:=.slice x.1.1 x.2.length x.1.2
structure WaysAt (W:World) (B:Nat) (A:Option Addr) (c:Nat) (ws:List (List Int)):Prop where
 ex:∃ L:List Way,L.map Prod.snd=ws ∧ W.ownsRow B 30 1 (.slice A ws.length c) ws.length (L.map wayC) ∧ ∀ x ∈ L,IR W B x.1.1 x.1.2 x.2
section
variable {W W':World} {B c:Nat} {A:Option Addr} {ws:List (List Int)}
theorem WaysAt.nil (W:World) (B:Nat):WaysAt W B none 0 []:=⟨⟨[],rfl,World.ownsRow_nil _ _ _ _,fun x hx=>by cases hx⟩⟩
theorem WaysAt.same (h:WaysAt W B A c ws) (hb:∀ (el:TypeId) (s n:Nat) (z:Value) (xs:List Value),el = 30 ∨ el = 3 → W.ownsRow B el s z n xs → W'.ownsRow B el s z n xs):WaysAt W' B A c ws:=by
 obtain ⟨L,h1,h2,h3⟩:=h.ex
 exact ⟨⟨L,h1,hb _ _ _ _ _ (.inl rfl) h2,fun x hx=>hb _ _ _ _ _ (.inr rfl) (h3 x hx)⟩⟩
theorem WaysAt.below (h:WaysAt W B A c ws) (hb:Below W.heap.size W W'):WaysAt W' B A c ws:=h.same fun _ _ _ _ _ _ ho=>own_same ho fun q hq=>hb.block q (World.ownsRow.lt ho q hq).2
theorem WaysAt.alloc (h:WaysAt W B A c ws) (o:Obj):WaysAt (W.alloc o) B A c ws:=h.below (bw_alloc (Below.refl _ _) o)
theorem WaysAt.drew (h:WaysAt W B A c ws):WaysAt W.drew B A c ws:=h.below (bw_drew (Below.refl _ _))
theorem WaysAt.off (h:WaysAt W B A c ws) {g:Nat} {t:TypeId} {cs:Array Value} (hb:Blk W g t cs) (h1:t ≠ 30) (h2:t ≠ 3) (o:Nat) (u:Value):WaysAt (W.setCell ⟨g,o,none⟩ u) B A c ws :=
 h.same fun el s n z xs he ho=>own_off ho hb (by rcases he with rfl | rfl; exact h1.symm; exact h2.symm) o u
theorem WaysAt.base {B':Nat} (h:WaysAt W B A c ws) (hB:B' ≤ B):WaysAt W B' A c ws:=by
 obtain ⟨L,h1,h2,h3⟩:=h.ex
 exact ⟨⟨L,h1,own_low h2 hB,fun x hx=>own_low (h3 x hx) hB⟩⟩
theorem WaysAt.push {A' Aw:Option Addr} {c' cw:Nat} {w:List Int} (h:WaysAt W B A c ws) (hw:IR W B Aw cw w) (hg:W.grownBy W' (Value.slice A ws.length c).ownBlock) {L:List Way} (hL:L.map Prod.snd=ws) (h3:∀ x ∈ L,IR W B x.1.1 x.1.2 x.2) (h2:W.ownsRow B 30 1 (.slice A ws.length c) ws.length (L.map wayC))
  (ho:W'.ownsRow B 30 1 (.slice A' (ws.length + 1) c') (ws.length + 1) (L.map wayC ++ [wayC ((Aw,cw),w)])):WaysAt W' B A' c' (ws ++ [w]):=by
 refine ⟨⟨L ++ [((Aw,cw),w)],by simp [hL],?_,fun x hx=>?_⟩⟩
 · rw [List.length_append,List.map_append]
   exact ho
 have key:∀ y:Way,IR W B y.1.1 y.1.2 y.2 → IR W' B y.1.1 y.1.2 y.2:=fun y hy=>own_grow2 hy hg h2 (by decide)
 rcases List.mem_append.1 hx with hx | hx
 · exact key x (h3 x hx)
 rw [List.mem_singleton.1 hx]
 exact key _ hw
theorem WaysAt.at_ (h:WaysAt W B A c ws) {k:Nat} (hk:k < ws.length):∃ g Aw cw,A=some ⟨g,0,none⟩ ∧ W.cell? ⟨g,k,none⟩=some (.slice Aw (ws.getD k []).length cw) ∧ IR W B Aw cw (ws.getD k []):=by
 obtain ⟨L,h1,h2,h3⟩:=h.ex
 obtain ⟨g,c1,hv,_⟩:=World.ownsRow.form h2 (by omega)
 injection hv with hA _ hc
 have hl:k < L.length:=by rw [← h1,List.length_map] at hk; exact hk
 have hx:L[k]?=some L[k]:=List.getElem?_eq_getElem hl
 have hw:ws.getD k []=L[k].2:=by rw [← h1,List.getD,List.getElem?_map,hx]; rfl
 refine ⟨g,L[k].1.1,L[k].1.2,hA,?_,by rw [hw]; exact h3 _ (List.getElem_mem hl)⟩
 rw [hw]
 have:=World.ownsRow.cells (hA ▸ h2) (g:=g) rfl k (wayC L[k]) (by rw [List.getElem?_map,hx]; rfl)
 rw [show (⟨g,0,none⟩:Addr).add k=⟨g,k,none⟩ by unfold Addr.add; split <;> simp_all] at this
 exact this
end
def wayOf (T:List Tri) (V:List Int) (c:Nat):List Int:=(rootO T c).map fun v=>V.getD v.toNat 0
def goodC (T:List Tri) (M:Int) (L:List Tri) (c:Nat):Bool:=decide (((rootO T c).length:Int)=M ∧ rootT T c=L)
def waysTo (T:List Tri) (V:List Int) (M:Int) (L:List Tri) (i:Nat):List (List Int):=((List.range i).filter (goodC T M L)).map (wayOf T V)
theorem waysTo_yes {T:List Tri} {V:List Int} {M:Int} {L:List Tri} {i:Nat} (h:goodC T M L i=true):waysTo T V M L (i + 1)=waysTo T V M L i ++ [wayOf T V i]:=by
 unfold waysTo
 rw [List.range_succ,List.filter_append,List.map_append]
 simp [h]
theorem waysTo_no {T:List Tri} {V:List Int} {M:Int} {L:List Tri} {i:Nat} (h:goodC T M L i=false):waysTo T V M L (i + 1)=waysTo T V M L i:=by
 unfold waysTo
 rw [List.range_succ,List.filter_append,List.map_append]
 simp [h]
theorem waysTo_len (T:List Tri) (V:List Int) (M:Int) (L:List Tri) (i:Nat):(waysTo T V M L i).length ≤ i:=by
 unfold waysTo
 rw [List.length_map]
 have:=List.length_filter_le (goodC T M L) (List.range i)
 rw [List.length_range] at this
 exact this
def wayP (V O:List Int) (i:Nat):List Int:=(O.take i).map (fun v=>V.getD v.toNat 0) ++ List.replicate (O.length - i) 0
theorem wayP_zero (V O:List Int):wayP V O 0=List.replicate O.length 0:=by simp [wayP]
theorem wayP_all (V O:List Int):wayP V O O.length=O.map fun v=>V.getD v.toNat 0:=by simp [wayP]
theorem wayP_len {V O:List Int} {i:Nat} (h:i ≤ O.length):(wayP V O i).length=O.length:=by unfold wayP; simp; omega
theorem wayP_set {V O:List Int} {i:Nat} {v:Int} (h:O[i]?=some v):(wayP V O i).set i (V.getD v.toNat 0)=wayP V O (i + 1):=by
 have hi:i < O.length:=(List.getElem?_eq_some_iff.1 h).1
 unfold wayP
 rw [List.take_add_one,h,show O.length - i=(O.length - (i + 1)) + 1 by omega,List.replicate_succ,List.map_append]
 have hl:((O.take i).map fun v=>V.getD v.toNat 0).length=i:=by simp; omega
 rw [List.set_append_right _ _ (by omega),hl]
 simp
end
end Go.Proofs.YtffmfhkiienmaaaGreat
