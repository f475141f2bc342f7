/- gypsumref13.Facing and gypsumref21.Facing, walked. No condition but sizes. -/
import Derived.Test.YtffmfhkiienmaaaGreatCornerB
import Derived.Test.YtffmfhkiienmaaaGreatTurP
set_option maxRecDepth 100000
set_option maxHeartbeats 16000000
set_option linter.all false
namespace Go.Proofs.YtffmfhkiienmaaaGreat
open Go.RowKit
section
theorem TriQ.cornerS {w:World} {q:Addr} {t:Tri} (h:TriQ w q t) {x:Nat} (hx:x < 3):CellQ w (q.add x) (.int .i64 (cornerT t x)):=by
 refine ⟨?_,by rw [block_of_add]; exact h.lt⟩
 rcases (by omega:x=0 ∨ x=1 ∨ x=2) with rfl | rfl | rfl
 · rw [show q.add 0=q by simp [Addr.add]]
   exact h.c.c0
 · exact h.c.c1
 exact h.c.c2
def FcI (T:List Tri) (a b r:Int):Prop:=r=-1 ∨ ∃ d:Nat,r=(d:Int) ∧ d < 3 * T.length ∧ ce T d=(a,b)
def FcPost (w:World) (T:List Tri) (a b:Int) (e:Ending) (w':World):Prop:=∃ r:Int,e=.returned (.int .i64 r) ∧ FcI T a b r ∧ Below w.heap.size w w'
attribute [local irreducible] Blk LRow World.alloc World.setCell World.cell? World.frozen? MapV MapI
theorem facing13_any (N:Int) (A:Option Addr) (c:Nat) (T:List Tri) (a b:Int) (w:World) (hT:T.length ≤ 1000) (ht:TrisAt w w.heap.size A T.length T) :
  Calls Tryz.prog 55 #[.agg #[.int .i64 N,.slice A T.length c],.int .i64 a,.int .i64 b] w (FcPost w T a b):=by
 have HT:=jJ ht
 clear ht
 obtain ⟨V,hV⟩:=jX (w.alloc (.cells #[.int .i64 N,.slice A T.length c] 24))
 have GA0:Hid (Blk V w.heap.size 24 #[.int .i64 N,.slice A T.length c]):=by subst hV; exact jJ (Blk.new _ _ _)
 have HB0:Hid (Below w.heap.size w V):=by subst hV; exact jJ (bw_alloc (Below.refl _ _) _)
 go_enter Tryz.func55,Tryz.ntmps55
 go_upto_region 1 with (fail)
 rw [← hV]
 clear hV
 obtain ⟨ga,hga⟩:=jX w.heap.size
 rw [← hga] at GA0
 simp only [← hga]
 clear hga
 obtain ⟨s0,s1,_,_,_⟩:=soup_facts GA0.out
 go_wp2_with fail
 go_loopw [7] (fun iv wr=>∃ i:Nat,i ≤ T.length ∧ iv=.int .i64 i ∧ wr=V) (fun iv _=>T.length - (intOf iv).toNat)
 case atStart=>exact ⟨0,by omega,rfl,rfl⟩
 obtain ⟨i,hi,rfl,hwr⟩:=hrel
 obtain ⟨wB,hwB⟩:=jX (wr:World)
 rw [← hwB] at hwr ⊢
 clear hwB
 subst hwr
 by_cases hlt:i < T.length
 rotate_left
 · obtain rfl:i=T.length:=by omega
   go_wp2_with fail
   go_ret
   exact ⟨-1,rfl,.inl rfl,HB0.out⟩
 have hii:(i:Int) < (T.length:Int):=by omega
 obtain ⟨ad,hAd,tq⟩:=(HT.out.below HB0.out).triQ HB0.out.size hlt
 subst hAd
 have TQ:=jJ tq
 have HCE:Hid (∀ k,k < 3 → ce T (3 * i + k)=(cornerT (tri T i) ((k + 1) % 3),cornerT (tri T i) ((k + 2) % 3))):=jJ fun k hk=>by
  rw [ce_ct,show (3 * i + k) / 3=i by omega,show (3 * i + k) % 3=k by omega]
  rfl
 clear tq
 generalize tri T i=t at *
 go_wp2_with fail
 go_loopw [8] (fun iv wr=>∃ k:Nat,k ≤ 3 ∧ iv=.int .i64 k ∧ wr=wB) (fun iv _=>3 - (intOf iv).toNat)
 case atStart=>exact ⟨0,by omega,rfl,rfl⟩
 obtain ⟨k,hk,rfl,hwr⟩:=hrel
 obtain ⟨wC,hwC⟩:=jX (wr:World)
 rw [← hwC] at hwr ⊢
 clear hwC
 subst hwr
 by_cases hk3:k < 3
 rotate_left
 · obtain rfl:k=3:=by omega
   go_wp2_with fail
   exact ⟨⟨i + 1,by omega,by go_num,by first | rfl | trivial⟩,by simp [intOf]; omega⟩
 have hki:(k:Int) < 3:=by omega
 have HC1:=jJ (HCE.out k hk3)
 obtain ⟨k2,hk2⟩:=jY ((k + 1) % 3)
 obtain ⟨k1,hk1⟩:=jY ((k + 2) % 3)
 rw [hk1,hk2] at HC1
 have hk23:k2 < 3:=by omega
 have hk2i:(k2:Int) < 3:=by omega
 have hk13:k1 < 3:=by omega
 have hk1i:(k1:Int) < 3:=by omega
 have e1:Int.tmod ((k:Int) + 1) 3=(k2:Int):=by rw [← hk2]; exact Int.ofNat_tmod (k + 1) 3
 have e2:Int.tmod ((k:Int) + 2) 3=(k1:Int):=by rw [← hk1]; exact Int.ofNat_tmod (k + 2) 3
 have hw1:IntKind.i64.wrap ((k:Int) + 1)=(k:Int) + 1:=IntWalk.i64_in _ (by omega)
 have hw1':IntKind.i64.wrap ((k:Int) + 2)=(k:Int) + 2:=IntWalk.i64_in _ (by omega)
 have hw2:IntKind.i64.wrap (k2:Int)=(k2:Int):=IntWalk.i64_in _ (by omega)
 have hw3:IntKind.i64.wrap (k1:Int)=(k1:Int):=IntWalk.i64_in _ (by omega)
 have x0:=(TQ.out.cornerS hk23).c
 have y0:=(TQ.out.cornerS hk13).c
 clear hk2 hk1
 generalize cornerT t k2=x at *
 generalize cornerT t k1=y at *
 by_cases hx:x=a
 rotate_left
 · have hxb:(x == a)=false:=by simpa using hx
   clear hx HC1
   go_wp2_with fail
   exact ⟨⟨k + 1,by omega,by go_num,by first | rfl | trivial⟩,by simp [intOf]; omega⟩
 by_cases hy:y=b
 rotate_left
 · have hyb:(y == b)=false:=by simpa using hy
   subst hx
   clear hy HC1
   go_wp2_with fail
   exact ⟨⟨k + 1,by omega,by go_num,by first | rfl | trivial⟩,by simp [intOf]; omega⟩
 subst hx hy
 have hw4:IntKind.i64.wrap (3 * (i:Int))=3 * (i:Int):=IntWalk.i64_in _ (by omega)
 have hw5:IntKind.i64.wrap (3 * (i:Int) + (k:Int))=3 * (i:Int) + (k:Int):=IntWalk.i64_in _ (by omega)
 go_wp2_with fail
 go_ret
 exact ⟨3 * (i:Int) + (k:Int),rfl,.inr ⟨3 * i + k,by omega,by omega,HC1.out⟩,HB0.out⟩
theorem facing21_any (N:Int) (A:Option Addr) (c:Nat) (T:List Tri) (a b:Int) (w:World) (hT:T.length ≤ 1000) (ht:TrisAt w w.heap.size A T.length T) :
  Calls Tryz.prog 29 #[.agg #[.int .i64 N,.slice A T.length c],.int .i64 a,.int .i64 b] w (FcPost w T a b):=by
 have HT:=jJ ht
 clear ht
 obtain ⟨V,hV⟩:=jX (w.alloc (.cells #[.int .i64 N,.slice A T.length c] 24))
 have GA0:Hid (Blk V w.heap.size 24 #[.int .i64 N,.slice A T.length c]):=by subst hV; exact jJ (Blk.new _ _ _)
 have HB0:Hid (Below w.heap.size w V):=by subst hV; exact jJ (bw_alloc (Below.refl _ _) _)
 go_enter Tryz.func29,Tryz.ntmps29
 go_upto_region 1 with (fail)
 rw [← hV]
 clear hV
 obtain ⟨ga,hga⟩:=jX w.heap.size
 rw [← hga] at GA0
 simp only [← hga]
 clear hga
 obtain ⟨s0,s1,_,_,_⟩:=soup_facts GA0.out
 go_wp2_with fail
 refine (facing13_any N A c T a b V hT (tris_on HB0.out HT.out)).mono ?_
 rintro e w1 ⟨r,rfl,hr,hb⟩
 have HR:=jJ hr
 have HB1:=jJ (bw_call HB0.out hb)
 clear hr hb
 go_wp2_with fail
 go_ret
 exact ⟨r,rfl,HR.out,HB1.out⟩
end
section
def MetE (T:List Tri) (i k:Nat):Prop:=∃ d,d < 3 * T.length ∧ ce T d=(cornerT (tri T i) ((k + 1) % 3),cornerT (tri T i) k)
def Ed21Post (w:World) (T:List Tri) (e:Ending) (w':World):Prop:=∃ cl:Bool,e=.returned (.tuple #[.int .i64 ((T.length * 3 / 2:Nat):Int),.bool cl]) ∧ (cl=true → ∀ i k,i < T.length → k < 3 → MetE T i k) ∧ Below w.heap.size w w'
attribute [local irreducible] Blk LRow World.alloc World.setCell World.cell? World.frozen? MapV MapI
theorem edges21_any (N:Int) (A:Option Addr) (c:Nat) (T:List Tri) (w:World) (hT:T.length ≤ 1000) (ht:TrisAt w w.heap.size A T.length T) :
  Calls Tryz.prog 14 #[.agg #[.int .i64 N,.slice A T.length c]] w (Ed21Post w T):=by
 have HT:=jJ ht
 clear ht
 obtain ⟨V,hV⟩:=jX (w.alloc (.cells #[.int .i64 N,.slice A T.length c] 24))
 have GAV:Hid (Blk V w.heap.size 24 #[.int .i64 N,.slice A T.length c]):=by subst hV; exact jJ (Blk.new _ _ _)
 have HBV:Hid (Below w.heap.size w V):=by subst hV; exact jJ (bw_alloc (Below.refl _ _) _)
 go_enter Tryz.func14,Tryz.ntmps14
 go_upto_region 1 with (fail)
 rw [← hV]
 clear hV
 obtain ⟨ga,hga⟩:=jX w.heap.size
 have HGA:Hid (w.heap.size ≤ ga):=jJ (by omega)
 rw [← hga] at GAV
 simp only [← hga]
 clear hga
 go_wp2_with fail
 go_loopw [4,5] (fun cv iv wr=>∃ (i:Nat) (cl:Bool),i ≤ T.length ∧ cv=.bool cl ∧ iv=.int .i64 i ∧ Hid (cl=true → ∀ j k,j < i → k < 3 → MetE T j k) ∧ Hid (Blk wr ga 24 #[.int .i64 N,.slice A T.length c]) ∧ Hid (Below w.heap.size w wr)) (fun _ iv _=>T.length - (intOf iv).toNat)
 case atStart=>exact ⟨0,true,by omega,rfl,rfl,jJ (fun _ j k hj=>absurd hj (by omega)),GAV,HBV⟩
 obtain ⟨i,cl,hi,rfl,rfl,HMi,GAr,HBr⟩:=hrel
 obtain ⟨wB,hwB⟩:=jX (wr:World)
 rw [← hwB] at GAr HBr ⊢
 clear hwB GAV HBV
 obtain ⟨s0,s1,_,_,_⟩:=soup_facts GAr.out
 by_cases hlt:i < T.length
 rotate_left
 · obtain rfl:i=T.length:=by omega
   have hw1:IntKind.i64.wrap ((T.length:Int) * 3)=((T.length * 3:Nat):Int):=by rw [IntWalk.i64_in _ (by omega)]; omega
   have hq:Int.tdiv ((T.length * 3:Nat):Int) 2=((T.length * 3 / 2:Nat):Int):=by rfl
   have hw2:IntKind.i64.wrap ((T.length * 3 / 2:Nat):Int)=((T.length * 3 / 2:Nat):Int):=IntWalk.i64_in _ (by omega)
   go_wp2_with fail
   refine bodyPost_ret (v:=.tuple #[.int .i64 ((T.length * 3 / 2:Nat):Int),.bool cl]) ?_ rfl ⟨cl,rfl,HMi.out,HBr.out⟩
   simp [results,Tryz.results14,go_sem]
 have hii:(i:Int) < (T.length:Int):=by omega
 have HTQ:Hid (∀ W,Below w.heap.size w W → ∃ ad,A=some ad ∧ TriQ W (ad.add (i * 3)) (tri T i)):=jJ (fun W hW=>(HT.out.below hW).triQ hW.size hlt)
 go_wp2_with fail
 go_loopw [4,6] (fun cv iv wr=>∃ (k:Nat) (cl:Bool),k ≤ 3 ∧ cv=.bool cl ∧ iv=.int .i64 k ∧ Hid (cl=true → (∀ j k,j < i → k < 3 → MetE T j k) ∧ ∀ q,q < k → MetE T i q) ∧ Hid (Blk wr ga 24 #[.int .i64 N,.slice A T.length c]) ∧ Hid (Below w.heap.size w wr)) (fun _ iv _=>3 - (intOf iv).toNat)
 case atStart=>exact ⟨0,cl,by omega,rfl,rfl,jJ (fun h=>⟨HMi.out h,fun q hq=>absurd hq (by omega)⟩),GAr,HBr⟩
 obtain ⟨k,cl,hk,rfl,rfl,HMk,GAw,HBw⟩:=hrel
 obtain ⟨wC,hwC⟩:=jX (wr:World)
 rw [← hwC] at GAw HBw ⊢
 clear hwC GAr HBr s0 s1 HMi
 obtain ⟨s0,s1,_,_,_⟩:=soup_facts GAw.out
 by_cases hk3:k < 3
 rotate_left
 · obtain rfl:k=3:=by omega
   go_wp2_with fail
   exact ⟨⟨i + 1,cl,by omega,rfl,by go_num,jJ (fun h j q hj hq=>by
    by_cases e:j=i
    · subst e; exact (HMk.out h).2 q hq
    exact (HMk.out h).1 j q (by omega) hq),GAw,HBw⟩,by simp [intOf]; omega⟩
 have hki:(k:Int) < 3:=by omega
 obtain ⟨ad,hAd,tq⟩:=HTQ.out wC HBw.out
 subst hAd
 have TQ:=jJ tq
 clear tq
 have HME:Hid (MetE T i k ↔ ∃ d,d < 3 * T.length ∧ ce T d=(cornerT (tri T i) ((k + 1) % 3),cornerT (tri T i) k)):=jJ Iff.rfl
 obtain ⟨k2,hk2⟩:=jY ((k + 1) % 3)
 rw [hk2] at HME
 have hk23:k2 < 3:=by omega
 have hk2i:(k2:Int) < 3:=by omega
 have e1:Int.tmod ((k:Int) + 1) 3=(k2:Int):=by rw [← hk2]; exact Int.ofNat_tmod (k + 1) 3
 have hw1:IntKind.i64.wrap ((k:Int) + 1)=(k:Int) + 1:=IntWalk.i64_in _ (by omega)
 have hw2:IntKind.i64.wrap (k2:Int)=(k2:Int):=IntWalk.i64_in _ (by omega)
 have KXwC:=jJ (TQ.out.cornerS hk23)
 have KYwC:=jJ (TQ.out.cornerS hk3)
 clear hk2 TQ
 generalize cornerT (tri T i) k2=x at *
 generalize cornerT (tri T i) k=y at *
 have HFC:Hid (∀ W,Below w.heap.size w W → Calls Tryz.prog 29 #[.agg #[.int .i64 N,.slice (some ad) T.length c],.int .i64 x,.int .i64 y] W (FcPost W T x y)):=jJ (fun W hW=>facing21_any N (some ad) c T x y W hT (tris_on hW HT.out))
 have GAwC:=GAw
 have HBwC:=HBw
 clear GAw HBw
 go_upto_region 8 with (fail)
 refine wp_region_held_drew (S:=fun w'=>w'.cell? ⟨ga,0,none⟩=some (.int .i64 N) ∧ w'.cell? ⟨ga,1,none⟩=some (.slice (some ad) T.length c) ∧ w'.cell? ((ad.add (i * 3)).add k2)=some (.int .i64 x) ∧ w'.cell? ((ad.add (i * 3)).add k)=some (.int .i64 y)) (by kernel_rfl) ⟨(soup_facts GAwC.out.drew).1,(soup_facts GAwC.out.drew).2.1,(KXwC.out.drew.c),(KYwC.out.drew.c)⟩ (fun hHeld=>?_)
 refine hKk 0 ?_; (try simp only [zQ])
 refine hKk 1 ?_; (try simp only [zQ])
 refine hKk 2 ?_; (try simp only [zQ])
 refine hKk 3 ?_; (try simp only [zQ])
 refine hKk 4 ?_; (try simp only [zQ])
 refine hKk 5 ?_; (try simp only [zQ])
 refine hKk 6 ?_; (try simp only [zQ])
 refine hKk 7 ?_; (try simp only [zQ])
 refine hKk 8 ?_; (try simp only [zQ])
 refine hKk 9 ?_; (try simp only [zQ])
 refine hKk 10 ?_; (try simp only [zQ])
 refine hKk 11 ?_; (try simp only [zQ])
 refine hKk 12 ?_; (try simp only [zQ])
 refine hKk 13 ?_; (try simp only [zQ])
 refine hKk 14 ?_; (try simp only [zQ])
 refine hKk 15 ?_; (try simp only [zQ])
 refine hKk 16 ?_; (try simp only [zQ])
 refine wpAnyH_ready (rs:=[17]) (by kernel_rfl) (by simp) ?_
 refine held_cons rfl (fun K hK=>?_) ?_
 · go_simp
   go_wp2_with (go_at_call 29; refine (HFC.out wC.drew (bw_drew HBwC.out)).mono ?_; rintro e v3 ⟨r,rfl,hr,hb⟩)
   have GAv3:=jJ (blk_call GAwC.out.drew hb)
   have KXv3:=jJ (KXwC.out.drew.below hb)
   have KYv3:=jJ (KYwC.out.drew.below hb)
   have HBv3:=jJ (bw_call (bw_drew HBwC.out) hb)
   clear hb
   refine hK.out _ _ ?_ (fun hHeld=>?_)
   · exact ⟨(soup_facts GAv3.out).1,(soup_facts GAv3.out).2.1,(KXv3.out.c),(KYv3.out.c)⟩
   clear hK K
   (try simp only [zQ])
   refine hKk 18 ?_; (try simp only [zQ])
   refine wpAnyH_done (by kernel_rfl) ?_ _
   have HR:=jJ hr
   clear hr
   by_cases hr0:r < 0
   · go_wp2_with fail
     exact ⟨⟨k + 1,false,by omega,rfl,by go_num,jJ (fun h=>by cases h),GAv3,HBv3⟩,by simp [intOf]; omega⟩
   have hr1:0 ≤ r:=by omega
   go_wp2_with fail
   exact ⟨⟨k + 1,cl,by omega,rfl,by go_num,jJ (fun h=>⟨(HMk.out h).1,fun q hq=>by
    by_cases e:q=k
    · subst e
      rcases HR.out with e | ⟨d,_,h1,h2⟩
      · omega
      exact HME.out.2 ⟨d,h1,h2⟩
    exact (HMk.out h).2 q (by omega)⟩),GAv3,HBv3⟩,by simp [intOf]; omega⟩
 exact AllReadyH.nil
end
section
def NbE (t u:Tri):Prop:=∃ i k,i < 3 ∧ k < 3 ∧ cornerT t i=cornerT u ((k + 1) % 3) ∧ cornerT t ((i + 1) % 3)=cornerT u k
def NbPost (w:World) (t u:Tri) (e:Ending) (w':World):Prop:=∃ b:Bool,e=.returned (.bool b) ∧ (b=true → NbE t u) ∧ Below w.heap.size w w'
theorem tri_cell {w:World} {g:Nat} {t:Tri} (h:Blk w g 65 #[.int .i64 t.a,.int .i64 t.b,.int .i64 t.c]) {x:Nat} (hx:x < 3):CellQ w ⟨g,x,none⟩ (.int .i64 (cornerT t x)):=by
 refine ⟨?_,h.lt⟩
 rcases (by omega:x=0 ∨ x=1 ∨ x=2) with rfl | rfl | rfl
 · exact h.cell 0
 · exact h.cell 1
 exact h.cell 2
attribute [local irreducible] Blk LRow World.alloc World.setCell World.cell? World.frozen? MapV MapI
theorem nb13_any (t u:Tri) (w:World) :
  Calls Tryz.prog 30 #[.agg #[.int .i64 t.a,.int .i64 t.b,.int .i64 t.c],.agg #[.int .i64 u.a,.int .i64 u.b,.int .i64 u.c]] w (NbPost w t u):=by
 obtain ⟨V,hV⟩:=jX ((w.alloc (.cells #[.int .i64 t.a,.int .i64 t.b,.int .i64 t.c] 65)).alloc (.cells #[.int .i64 u.a,.int .i64 u.b,.int .i64 u.c] 65))
 have HTV:Hid (Blk V w.heap.size 65 #[.int .i64 t.a,.int .i64 t.b,.int .i64 t.c]):=by subst hV; exact jJ ((Blk.new _ _ _).alloc _)
 have HUV:Hid (Blk V (w.heap.size + 1) 65 #[.int .i64 u.a,.int .i64 u.b,.int .i64 u.c]):=by subst hV; exact jJ (Blk.new_ (by rw [World.size_alloc]) _ _)
 have HBV:Hid (Below w.heap.size w V):=by subst hV; exact jJ (bw_alloc (bw_alloc (Below.refl _ _) _) _)
 go_enter Tryz.func30,Tryz.ntmps30
 go_upto_region 1 with (fail)
 rw [← hV]
 clear hV
 obtain ⟨bu,hbu⟩:=jX (w.heap.size + 1)
 obtain ⟨bt,hbt⟩:=jX w.heap.size
 rw [← hbt] at HTV
 rw [← hbu] at HUV
 simp only [← hbu]
 simp only [← hbt]
 clear hbu hbt
 go_wp2_with fail
 go_loopw [5] (fun iv wr=>∃ i:Nat,i ≤ 3 ∧ iv=.int .i64 i ∧ Hid (Blk wr bt 65 #[.int .i64 t.a,.int .i64 t.b,.int .i64 t.c]) ∧ Hid (Blk wr bu 65 #[.int .i64 u.a,.int .i64 u.b,.int .i64 u.c]) ∧ Hid (Below w.heap.size w wr)) (fun iv _=>3 - (intOf iv).toNat)
 case atStart=>exact ⟨0,by omega,rfl,HTV,HUV,HBV⟩
 obtain ⟨i,hi,rfl,HTr,HUr,HBr⟩:=hrel
 obtain ⟨wB,hwB⟩:=jX (wr:World)
 rw [← hwB] at HTr HUr HBr ⊢
 clear hwB HTV HUV HBV
 by_cases hi3:i < 3
 rotate_left
 · obtain rfl:i=3:=by omega
   go_wp2_with fail
   go_ret
   exact ⟨false,rfl,(fun h=>by cases h),HBr.out⟩
 have hii:(i:Int) < 3:=by omega
 go_wp2_with fail
 go_loopw [6] (fun iv wr=>∃ k:Nat,k ≤ 3 ∧ iv=.int .i64 k ∧ Hid (Blk wr bt 65 #[.int .i64 t.a,.int .i64 t.b,.int .i64 t.c]) ∧ Hid (Blk wr bu 65 #[.int .i64 u.a,.int .i64 u.b,.int .i64 u.c]) ∧ Hid (Below w.heap.size w wr)) (fun iv _=>3 - (intOf iv).toNat)
 case atStart=>exact ⟨0,by omega,rfl,HTr,HUr,HBr⟩
 obtain ⟨k,hk,rfl,HTw,HUw,HBw⟩:=hrel
 obtain ⟨wC,hwC⟩:=jX (wr:World)
 rw [← hwC] at HTw HUw HBw ⊢
 clear hwC HTr HUr HBr
 by_cases hk3:k < 3
 rotate_left
 · obtain rfl:k=3:=by omega
   go_wp2_with fail
   exact ⟨⟨i + 1,by omega,by go_num,HTw,HUw,HBw⟩,by simp [intOf]; omega⟩
 have hki:(k:Int) < 3:=by omega
 have HNB:Hid (cornerT t i=cornerT u ((k + 1) % 3) → cornerT t ((i + 1) % 3)=cornerT u k → NbE t u):=jJ fun h1 h2=>⟨i,k,hi3,hk3,h1,h2⟩
 obtain ⟨k2,hk2⟩:=jY ((k + 1) % 3)
 obtain ⟨i2,hi2⟩:=jY ((i + 1) % 3)
 rw [hk2,hi2] at HNB
 have hk23:k2 < 3:=by omega
 have hk2i:(k2:Int) < 3:=by omega
 have hi23:i2 < 3:=by omega
 have hi2i:(i2:Int) < 3:=by omega
 have e1:Int.tmod ((k:Int) + 1) 3=(k2:Int):=by rw [← hk2]; exact Int.ofNat_tmod (k + 1) 3
 have e2:Int.tmod ((i:Int) + 1) 3=(i2:Int):=by rw [← hi2]; exact Int.ofNat_tmod (i + 1) 3
 have hw1:IntKind.i64.wrap ((k:Int) + 1)=(k:Int) + 1:=IntWalk.i64_in _ (by omega)
 have hw2:IntKind.i64.wrap (k2:Int)=(k2:Int):=IntWalk.i64_in _ (by omega)
 have hw3:IntKind.i64.wrap ((i:Int) + 1)=(i:Int) + 1:=IntWalk.i64_in _ (by omega)
 have hw4:IntKind.i64.wrap (i2:Int)=(i2:Int):=IntWalk.i64_in _ (by omega)
 have KAwC:=jJ (tri_cell HTw.out hi3)
 have KBwC:=jJ (tri_cell HTw.out hi23)
 have KCwC:=jJ (tri_cell HUw.out hk23)
 have KDwC:=jJ (tri_cell HUw.out hk3)
 clear hk2 hi2
 generalize cornerT t i=xa at *
 generalize cornerT t i2=xb at *
 generalize cornerT u k2=xc at *
 generalize cornerT u k=xd at *
 have HBwC:=HBw
 have HTwC:=HTw
 have HUwC:=HUw
 clear HBw HTw HUw
 by_cases hac:xa=xc
 rotate_left
 · have hacb:(xa == xc)=false:=by simpa using hac
   clear hac
   go_upto_region 7 with (fail)
   refine wp_region_held_drew (S:=fun w'=>w'.cell? ⟨bt,i,none⟩=some (.int .i64 xa) ∧ w'.cell? ⟨bt,i2,none⟩=some (.int .i64 xb) ∧ w'.cell? ⟨bu,k2,none⟩=some (.int .i64 xc) ∧ w'.cell? ⟨bu,k,none⟩=some (.int .i64 xd)) (by kernel_rfl) ⟨(KAwC.out.drew.c),(KBwC.out.drew.c),(KCwC.out.drew.c),(KDwC.out.drew.c)⟩ (fun hHeld=>?_)
   refine hKk 0 ?_; (try simp only [zQ])
   refine hKk 1 ?_; (try simp only [zQ])
   refine hKk 2 ?_; (try simp only [zQ])
   refine hKk 3 ?_; (try simp only [zQ])
   refine hKk 4 ?_; (try simp only [zQ])
   refine hKk 5 ?_; (try simp only [zQ])
   refine hKk 6 ?_; (try simp only [zQ])
   refine hKk 7 ?_; (try simp only [zQ])
   refine hKk 8 ?_; (try simp only [zQ])
   refine hKk 9 ?_; (try simp only [zQ])
   refine hRk 10 ?_; (try simp only [zQ])
   refine hRk 11 ?_; (try simp only [zQ])
   refine hRk 12 ?_; (try simp only [zQ])
   refine hRk 13 ?_; (try simp only [zQ])
   refine hRk 14 ?_; (try simp only [zQ])
   refine hRk 15 ?_; (try simp only [zQ])
   refine hRk 16 ?_; (try simp only [zQ])
   refine hRk 17 ?_; (try simp only [zQ])
   refine hRk 18 ?_; (try simp only [zQ])
   refine hKk 19 ?_; (try simp only [zQ])
   refine wpAnyH_done (by kernel_rfl) ?_ _
   go_wp2_with fail
   exact ⟨⟨k + 1,by omega,by go_num,jJ HTwC.out.drew,jJ HUwC.out.drew,jJ (bw_drew HBwC.out)⟩,by simp [intOf]; omega⟩
 subst hac
 by_cases hbd:xb=xd
 rotate_left
 · have hbdb:(xb == xd)=false:=by simpa using hbd
   clear hbd
   go_upto_region 7 with (fail)
   refine wp_region_held_drew (S:=fun w'=>w'.cell? ⟨bt,i,none⟩=some (.int .i64 xa) ∧ w'.cell? ⟨bt,i2,none⟩=some (.int .i64 xb) ∧ w'.cell? ⟨bu,k2,none⟩=some (.int .i64 xa) ∧ w'.cell? ⟨bu,k,none⟩=some (.int .i64 xd)) (by kernel_rfl) ⟨(KAwC.out.drew.c),(KBwC.out.drew.c),(KCwC.out.drew.c),(KDwC.out.drew.c)⟩ (fun hHeld=>?_)
   refine hKk 0 ?_; (try simp only [zQ])
   refine hKk 1 ?_; (try simp only [zQ])
   refine hKk 2 ?_; (try simp only [zQ])
   refine hKk 3 ?_; (try simp only [zQ])
   refine hKk 4 ?_; (try simp only [zQ])
   refine hKk 5 ?_; (try simp only [zQ])
   refine hKk 6 ?_; (try simp only [zQ])
   refine hKk 7 ?_; (try simp only [zQ])
   refine hKk 8 ?_; (try simp only [zQ])
   refine hKk 9 ?_; (try simp only [zQ])
   refine hKk 10 ?_; (try simp only [zQ])
   refine hKk 11 ?_; (try simp only [zQ])
   refine hKk 12 ?_; (try simp only [zQ])
   refine hKk 13 ?_; (try simp only [zQ])
   refine hKk 14 ?_; (try simp only [zQ])
   refine hKk 15 ?_; (try simp only [zQ])
   refine hKk 16 ?_; (try simp only [zQ])
   refine hKk 17 ?_; (try simp only [zQ])
   refine hKk 18 ?_; (try simp only [zQ])
   refine hKk 19 ?_; (try simp only [zQ])
   refine wpAnyH_done (by kernel_rfl) ?_ _
   go_wp2_with fail
   exact ⟨⟨k + 1,by omega,by go_num,jJ HTwC.out.drew,jJ HUwC.out.drew,jJ (bw_drew HBwC.out)⟩,by simp [intOf]; omega⟩
 subst hbd
 go_upto_region 7 with (fail)
 refine wp_region_held_drew (S:=fun w'=>w'.cell? ⟨bt,i,none⟩=some (.int .i64 xa) ∧ w'.cell? ⟨bt,i2,none⟩=some (.int .i64 xb) ∧ w'.cell? ⟨bu,k2,none⟩=some (.int .i64 xa) ∧ w'.cell? ⟨bu,k,none⟩=some (.int .i64 xb)) (by kernel_rfl) ⟨(KAwC.out.drew.c),(KBwC.out.drew.c),(KCwC.out.drew.c),(KDwC.out.drew.c)⟩ (fun hHeld=>?_)
 refine hKk 0 ?_; (try simp only [zQ])
 refine hKk 1 ?_; (try simp only [zQ])
 refine hKk 2 ?_; (try simp only [zQ])
 refine hKk 3 ?_; (try simp only [zQ])
 refine hKk 4 ?_; (try simp only [zQ])
 refine hKk 5 ?_; (try simp only [zQ])
 refine hKk 6 ?_; (try simp only [zQ])
 refine hKk 7 ?_; (try simp only [zQ])
 refine hKk 8 ?_; (try simp only [zQ])
 refine hKk 9 ?_; (try simp only [zQ])
 refine hKk 10 ?_; (try simp only [zQ])
 refine hKk 11 ?_; (try simp only [zQ])
 refine hKk 12 ?_; (try simp only [zQ])
 refine hKk 13 ?_; (try simp only [zQ])
 refine hKk 14 ?_; (try simp only [zQ])
 refine hKk 15 ?_; (try simp only [zQ])
 refine hKk 16 ?_; (try simp only [zQ])
 refine hKk 17 ?_; (try simp only [zQ])
 refine hKk 18 ?_; (try simp only [zQ])
 refine hKk 19 ?_; (try simp only [zQ])
 refine wpAnyH_done (by kernel_rfl) ?_ _
 go_wp2_with fail
 go_ret
 exact ⟨true,rfl,fun _=>HNB.out (by first | trivial | rfl) (by first | trivial | rfl),bw_drew HBwC.out⟩
end
end Go.Proofs.YtffmfhkiienmaaaGreat
