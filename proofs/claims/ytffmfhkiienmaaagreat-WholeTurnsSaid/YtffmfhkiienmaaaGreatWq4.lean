/- genus.Of's closure and done, walked. No condition but sizes. -/
import Derived.Test.YtffmfhkiienmaaaGreatWq3
import Derived.Test.YtffmfhkiienmaaaGreatSh47
set_option maxRecDepth 100000
set_option maxHeartbeats 16000000
set_option linter.all false
namespace Go.Proofs.YtffmfhkiienmaaaGreat
open Go.RowKit
section
theorem TabN.corner {w:World} {g m:Nat} {T:List Tri} (h:TabN w g m T) (v:Int):Calls Tryz.prog 57 #[.pointer (some ⟨g,0,none⟩),.int .i64 v] w (IsPost w (.int .i64 (cornerI T m v))):=corner_any g 0 m T v w h.s.m1 h.t
theorem cornerI_in {m:Nat} {T:List Tri} {v:Int} (h:0 ≤ v ∧ v < (m:Int)) {s:Nat} (hs:cornerF T v=some s):cornerI T m v=(s:Int):=by
 unfold cornerI
 rw [if_pos h,hs]
 rfl
structure Of1C (w:World) (b1 b3 gs s3:Nat) (u1 u3 us:Value):Prop where
 c1:w.cell? ⟨b1,0,none⟩=some u1
 c3:w.cell? ⟨b3,0,none⟩=some u3
 cs:w.cell? ⟨gs,s3,none⟩=some us
 k1:b1 < w.heap.size
 k3:b3 < w.heap.size
 ks:gs < w.heap.size
theorem Of1C.below {w w':World} {b1 b3 gs s3:Nat} {u1 u3 us:Value} (h:Of1C w b1 b3 gs s3 u1 u3 us) (hb:Below w.heap.size w w'):Of1C w' b1 b3 gs s3 u1 u3 us :=
 ⟨(hb.cell h.k1).trans h.c1,(hb.cell h.k3).trans h.c3,(hb.cell h.ks).trans h.cs,Nat.lt_of_lt_of_le h.k1 hb.size,Nat.lt_of_lt_of_le h.k3 hb.size,Nat.lt_of_lt_of_le h.ks hb.size⟩
theorem Of1C.drew {w:World} {b1 b3 gs s3:Nat} {u1 u3 us:Value} (h:Of1C w b1 b3 gs s3 u1 u3 us):Of1C w.drew b1 b3 gs s3 u1 u3 us:=h.below (bw_drew (Below.refl _ _))
attribute [local irreducible] Blk World.alloc World.setCell World.cell? World.frozen? MapV MapI
theorem of1_any (g m:Nat) (T:List Tri) (gs n cs b1 b3 v:Nat) (w:World) (h:TabN w g m T) (hv:v < m) (hn:n=T.length) (h1:w.cell? ⟨b1,0,none⟩=some (.pointer (some ⟨g,0,none⟩))) (h3:w.cell? ⟨b3,0,none⟩=some (.slice (some ⟨gs,0,none⟩) n cs)) (hs:∀ x,x < n → w.cell? ⟨gs,x,none⟩=some (.int .i64 0)) (k1:b1 < w.heap.size) (k3:b3 < w.heap.size) (ks:gs < w.heap.size) :
  Calls Tryz.prog 56 #[.int .i64 (v:Int),.pointer (some ⟨b3,0,none⟩),.pointer (some ⟨b1,0,none⟩)] w (IntPost w 0):=by
 obtain ⟨s,hs'⟩:=cornerF_used h.s hv
 have h1000:=h.n
 have hsl:=(cornerF_some hs').1
 have HC:Hid (∀ W:World,W=w ∨ W=w.drew → Calls Tryz.prog 57 #[.pointer (some ⟨g,0,none⟩),.int .i64 (v:Int)] W (IntPost W (s:Int))):=jJ fun W hW=>by
  have:TabN W g m T:=by rcases hW with rfl | rfl; exact h; exact h.drew
  have:=this.corner (v:Int)
  rw [cornerI_in ⟨by omega,by omega⟩ hs'] at this
  exact this.mono fun e w' h=>is_int h
 have e3:Int.tdiv (s:Int) 3=((s / 3:Nat):Int):=rfl
 have hw3:IntKind.i64.wrap (((s / 3:Nat):Int))=((s / 3:Nat):Int):=IntWalk.i64_in _ (by omega)
 have hs3:s / 3 < n:=by omega
 have hcell:=hs (s / 3) hs3
 clear h hs' hs hn h1000 hsl
 go_enter Tryz.func56,Tryz.ntmps56
 go_upto_region 1 with (fail)
 have HBw:Hid (Below w.heap.size w w):=jJ (Below.refl _ _)
 have KXw:Hid (Of1C w b1 b3 gs (s / 3) (.pointer (some ⟨g,0,none⟩)) (.slice (some ⟨gs,0,none⟩) n cs) (.int .i64 0)):=jJ ⟨h1,h3,hcell,k1,k3,ks⟩
 clear h1 h3 hcell
 obtain ⟨s3,hs3e⟩:=jX (s / 3)
 rw [← hs3e] at e3 hw3 hs3 KXw
 have hs3i:(s3:Int) < (n:Int):=by omega
 have e4:(s:Int) / 3=(s3:Int):=by omega
 clear hs3e
 refine wp_region_till (S:=fun w'=>w'.cell? ⟨b1,0,none⟩=some (.pointer (some ⟨g,0,none⟩)) ∧ w'.cell? ⟨b3,0,none⟩=some (.slice (some ⟨gs,0,none⟩) n cs) ∧ w'.cell? ⟨gs,s3,none⟩=some (.int .i64 0)) 7 (by kernel_rfl) ⟨KXw.out.drew.c1,KXw.out.drew.c3,KXw.out.drew.cs⟩ (fun hHeld=>?_)
 refine tKk 0 ?_; (try simp only [zQ])
 refine tKk 1 ?_; (try simp only [zQ])
 refine tKk 2 ?_; (try simp only [zQ])
 refine Till.ready (rs:=[3]) (by kernel_rfl) (by simp) ?_
 refine TillEach.cons rfl (fun K hK=>?_) ?_
 · go_simp
   go_wp2_with (go_at_call 57; refine ((HC.out _ (Or.inr rfl))).mono ?_; rintro e v1 ⟨rfl,hb⟩)
   have KXv1:=jJ (KXw.out.drew.below hb)
   have HBv1:=jJ (bw_call (bw_drew HBw.out) hb)
   clear hb
   refine hK.out _ _ ?_ (fun hHeld=>?_)
   · exact ⟨KXv1.out.c1,KXv1.out.c3,KXv1.out.cs⟩
   clear hK K
   (try simp only [zQ])
   refine tKk 4 ?_; (try simp only [zQ])
   refine tKk 5 ?_; (try simp only [zQ])
   refine tKk 6 ?_; (try simp only [zQ])
   refine Till.ready (rs:=[7]) (by kernel_rfl) (by simp) ?_
   refine TillEach.last rfl (fun K hK=>?_)
   go_simp
   refine hK.out _ _ ?_
   clear hK K
   (try simp only [zQ])
   refine Till.done (by kernel_rfl) ?_ _
   go_wp2_with fail
   go_ret
   exact ⟨rfl,HBv1.out⟩
 exact TillEach.nil
theorem gdone_any (gn V F Bo tw:Nat) (E Eu Ge eu ge:Int) (w:World) (hk:Blk w gn 83 #[.int .i64 (V:Int),.int .i64 E,.int .i64 (F:Int),.int .i64 (Bo:Int),.int .i64 Eu,.int .i64 Ge]) (h1:tw ≤ 1000000) (h2:V ≤ 1000000) (h3:F ≤ 1000000) (h4:Bo ≤ 1000000)
  (heu:(V:Int) - ((tw / 2:Nat):Int) + (F:Int)=eu) (hge:Int.tdiv (2 - (Bo:Int) - eu) 2=ge) :
  Calls Tryz.prog 61 #[.pointer (some ⟨gn,0,none⟩),.int .i64 (tw:Int)] w (fun e w'=>e=.returned (.tuple #[]) ∧ Blk w' gn 83 #[.int .i64 (V:Int),.int .i64 ((tw / 2:Nat):Int),.int .i64 (F:Int),.int .i64 (Bo:Int),.int .i64 eu,.int .i64 ge] ∧ Only (fun k=>k=gn) w w'):=by
 have KNw:=jJ hk
 obtain ⟨t2,ht2⟩:=jX (tw / 2)
 have e1:Int.tdiv (tw:Int) 2=(t2:Int):=by rw [ht2]; rfl
 have e2:(tw:Int) / 2=(t2:Int):=by omega
 have hw1:IntKind.i64.wrap (t2:Int)=(t2:Int):=IntWalk.i64_in _ (by omega)
 have hw2:IntKind.i64.wrap ((V:Int) - (t2:Int))=(V:Int) - (t2:Int):=IntWalk.i64_in _ (by omega)
 rw [← ht2] at heu ⊢
 have hw3:IntKind.i64.wrap ((V:Int) - (t2:Int) + (F:Int))=eu:=by rw [IntWalk.i64_in _ (by omega)]; exact heu
 have heb:-2000000 ≤ eu ∧ eu ≤ 2000000:=by omega
 have hgb:-4000000 ≤ ge ∧ ge ≤ 4000000:=by
  have h:=@Int.tdiv_eq_ediv (2 - (Bo:Int) - eu) 2
  rw [hge,show Int.sign 2=1 from rfl] at h
  split at h <;> omega
 have hw4:IntKind.i64.wrap (2 - (Bo:Int))=2 - (Bo:Int):=IntWalk.i64_in _ (by omega)
 have hw5:IntKind.i64.wrap (2 - (Bo:Int) - eu)=2 - (Bo:Int) - eu:=IntWalk.i64_in _ (by omega)
 have hw6:IntKind.i64.wrap ge=ge:=IntWalk.i64_in _ (by omega)
 have c1:w.cell? ⟨gn,1,none⟩=some (.int .i64 E):=hk.cell 1
 have f1:w.frozen? ⟨gn,1,none⟩=false:=hk.frozen 1
 clear hk ht2 heu
 go_enter Tryz.func61,Tryz.ntmps61
 go_upto_region 1 with (fail)
 clear c1 f1
 obtain ⟨w1,hw1'⟩:=jX (w.setCell ⟨gn,1,none⟩ (.int .i64 (t2:Int)))
 have KNw1:Hid (Blk w1 gn 83 #[.int .i64 (V:Int),.int .i64 (t2:Int),.int .i64 (F:Int),.int .i64 (Bo:Int),.int .i64 Eu,.int .i64 Ge]):=by rw [hw1']; exact jJ (KNw.out.set_ 1 _)
 have HOw1:Hid (Only (fun k=>k=gn) w w1):=by rw [hw1']; exact jJ ((Only.refl (fun k=>k=gn) w).setCell (p:=⟨gn,1,none⟩) (.inl rfl) _)
 rw [← hw1']
 clear hw1'
 have c4:w1.drew.cell? ⟨gn,4,none⟩=some (.int .i64 Eu):=KNw1.out.drew.cell 4
 have f4:w1.drew.frozen? ⟨gn,4,none⟩=false:=KNw1.out.drew.frozen 4
 refine wp_region_till (S:=fun w'=>w'.cell? ⟨gn,0,none⟩=some (.int .i64 (V:Int)) ∧ w'.cell? ⟨gn,1,none⟩=some (.int .i64 (t2:Int)) ∧ w'.cell? ⟨gn,2,none⟩=some (.int .i64 (F:Int)) ∧ w'.cell? ⟨gn,3,none⟩=some (.int .i64 (Bo:Int)) ∧ w'.cell? ⟨gn,4,none⟩=some (.int .i64 Eu)) 17 (by kernel_rfl) ⟨KNw1.out.drew.cell 0,KNw1.out.drew.cell 1,KNw1.out.drew.cell 2,KNw1.out.drew.cell 3,KNw1.out.drew.cell 4⟩ (fun hHeld=>?_)
 refine tKk 0 ?_; (try simp only [zQ])
 refine tKk 1 ?_; (try simp only [zQ])
 refine tKk 2 ?_; (try simp only [zQ])
 refine tKk 3 ?_; (try simp only [zQ])
 refine tKk 4 ?_; (try simp only [zQ])
 refine tKk 5 ?_; (try simp only [zQ])
 refine tKk 6 ?_; (try simp only [zQ])
 refine tKk 7 ?_; (try simp only [zQ])
 refine tKk 8 ?_; (try simp only [zQ])
 refine tKk 9 ?_; (try simp only [zQ])
 refine tKk 10 ?_; (try simp only [zQ])
 refine tKk 11 ?_; (try simp only [zQ])
 refine tKk 12 ?_; (try simp only [zQ])
 refine tKk 13 ?_; (try simp only [zQ])
 refine tKk 14 ?_; (try simp only [zQ])
 refine Till.takeP [16] (i:=15) (v:=?vt36) rfl (by kernel_rfl) (by kernel_rfl) (by kernel_rfl) (by kernel_rfl) (by kernel_rfl) (fun _ _ _ h=>h) (Or.inl ⟨by rfl,?ht36⟩) (by assumption) ?restt36
 case ht36=>(intro w h; (try dsimp only at h); go_simp; try with_reducible rfl)
 (try simp only [zQ])
 refine tKk 16 ?_; (try simp only [zQ])
 refine Till.ready (rs:=[17]) (by kernel_rfl) (by simp) ?_
 refine TillEach.last rfl (fun K hK=>?_)
 go_simp
 refine hK.out _ _ ?_
 clear hK K
 (try simp only [zQ])
 refine Till.done (by kernel_rfl) ?_ _
 obtain ⟨w2,hw2'⟩:=jX ((w1.setCell ⟨gn,4,none⟩ (.int .i64 eu)).drew)
 have KNw2:Hid (Blk w2 gn 83 #[.int .i64 (V:Int),.int .i64 (t2:Int),.int .i64 (F:Int),.int .i64 (Bo:Int),.int .i64 eu,.int .i64 Ge]):=by rw [hw2']; exact jJ (KNw1.out.set_ 4 _).drew
 have HOw2:Hid (Only (fun k=>k=gn) w w2):=by rw [hw2']; exact jJ (HOw1.out.setCell (p:=⟨gn,4,none⟩) (.inl rfl) _).drew
 go_upto_region 2 with (fail)
 rw [← hw2']
 clear hw2' c4 f4
 have c5:w2.drew.cell? ⟨gn,5,none⟩=some (.int .i64 Ge):=KNw2.out.drew.cell 5
 have f5:w2.drew.frozen? ⟨gn,5,none⟩=false:=KNw2.out.drew.frozen 5
 refine wp_region_till (S:=fun w'=>w'.cell? ⟨gn,0,none⟩=some (.int .i64 (V:Int)) ∧ w'.cell? ⟨gn,1,none⟩=some (.int .i64 (t2:Int)) ∧ w'.cell? ⟨gn,2,none⟩=some (.int .i64 (F:Int)) ∧ w'.cell? ⟨gn,3,none⟩=some (.int .i64 (Bo:Int)) ∧ w'.cell? ⟨gn,4,none⟩=some (.int .i64 eu)) 14 (by kernel_rfl) ⟨KNw2.out.drew.cell 0,KNw2.out.drew.cell 1,KNw2.out.drew.cell 2,KNw2.out.drew.cell 3,KNw2.out.drew.cell 4⟩ (fun hHeld=>?_)
 refine tKk 0 ?_; (try simp only [zQ])
 refine tKk 1 ?_; (try simp only [zQ])
 refine tKk 2 ?_; (try simp only [zQ])
 refine tKk 3 ?_; (try simp only [zQ])
 refine tKk 4 ?_; (try simp only [zQ])
 refine tKk 5 ?_; (try simp only [zQ])
 refine tKk 6 ?_; (try simp only [zQ])
 refine tKk 7 ?_; (try simp only [zQ])
 refine tKk 8 ?_; (try simp only [zQ])
 refine tKk 9 ?_; (try simp only [zQ])
 refine tKk 10 ?_; (try simp only [zQ])
 refine tKk 11 ?_; (try simp only [zQ])
 refine Till.takeP [13] (i:=12) (v:=?vt19) rfl (by kernel_rfl) (by kernel_rfl) (by kernel_rfl) (by kernel_rfl) (by kernel_rfl) (fun _ _ _ h=>h) (Or.inl ⟨by rfl,?ht19⟩) (by assumption) ?restt19
 case ht19=>(intro w h; (try dsimp only at h); go_simp; try with_reducible rfl)
 (try simp only [zQ])
 refine tKk 13 ?_; (try simp only [zQ])
 refine Till.ready (rs:=[14]) (by kernel_rfl) (by simp) ?_
 refine TillEach.last rfl (fun K hK=>?_)
 go_simp
 refine hK.out _ _ ?_
 clear hK K
 (try simp only [zQ])
 refine Till.done (by kernel_rfl) ?_ _
 go_wp2_with fail
 refine bodyPost_end (results_none rfl _ _ _) rfl ⟨rfl,(KNw2.out.set_ 5 _).drew,(HOw2.out.setCell (p:=⟨gn,5,none⟩) (.inl rfl) _).drew⟩
end
section
theorem num_infoG:(Tryz.prog.info? 83).map (fun i=>(i.zero,i.size,i.bytes))=some (some (.agg #[.int .i64 0,.int .i64 0,.int .i64 0,.int .i64 0,.int .i64 0,.int .i64 0]),6,48):=by kernel_rfl
theorem madeNum1:madeCells (Value.agg #[.int .i64 0,.int .i64 0,.int .i64 0,.int .i64 0,.int .i64 0,.int .i64 0]).cells (1 * 6)=#[.int .i64 0,.int .i64 0,.int .i64 0,.int .i64 0,.int .i64 0,.int .i64 0]:=by kernel_rfl
theorem madeInt1:madeCells (Value.int .i64 0).cells (1 * 1)=#[.int .i64 0]:=by kernel_rfl
def GenPost (w:World) (m F:Nat) (e:Ending) (w':World):Prop :=
 ∃ go:Nat,e=.returned (.slice (some ⟨go,0,none⟩) 1 1) ∧ Blk w' go 83 #[.int .i64 (m:Int),.int .i64 ((3 * F / 2:Nat):Int),.int .i64 (F:Int),.int .i64 ((0:Nat):Int),.int .i64 ((m:Int) - ((3 * F / 2:Nat):Int) + (F:Int)),.int .i64 (Int.tdiv (2 - ((0:Nat):Int) - ((m:Int) - ((3 * F / 2:Nat):Int) + (F:Int))) 2)] ∧ Below w.heap.size w w'
attribute [local irreducible] Blk World.alloc World.setCell World.cell? World.frozen? MapV MapI
theorem genus_any (g m:Nat) (T:List Tri) (w:World) (h:TabN w g m T) (hcl:ClosedC T) (h1:kN T=1) :
  Calls Tryz.prog 32 #[.pointer (some ⟨g,0,none⟩)] w (GenPost w m T.length):=by
 obtain ⟨i0,hi0,hz0,hz1,hz2⟩:=info_parts num_infoG
 obtain ⟨i1,hi1,jz0,jz1,jz2⟩:=info_parts int_infoC
 have HT:=jJ h
 have HCL:=jJ hcl
 have hn1000:=h.n
 have hm4:=h.s.m1
 obtain ⟨n,hn⟩:=jX T.length
 have HN:=jJ hn
 have HZ:Hid (∀ x,x < n → (ofL T).getD x 0=0):=jJ fun x hx=>by
  have h2:=ofN_lt (T:=T) (x:=x) (by omega)
  rw [ofN_eq (by omega)]
  omega
 have hpos:0 < n:=by
  have:=kN_le T
  omega
 have HOF:Hid (∀ V:World,Below w.heap.size w V → Calls Tryz.prog 49 #[.pointer (some ⟨g,0,none⟩)] V (OfPost V T)):=jJ fun V hV=>of_any g m T V (h.below hV)
 have HCN:Hid (∀ V:World,Below w.heap.size w V → Calls Tryz.prog 48 #[.pointer (some ⟨g,0,none⟩)] V (IntPost V 1)):=jJ fun V hV=>by
  have:=count_any g m T V (h.below hV)
  rw [kN_eq T,h1] at this
  exact this
 have hmk:∀ wx:World,(Instr.makeSlice 80 (.int .i64 1) (.int .i64 1)).run Tryz.prog wx=.ok (.slice (some ⟨wx.heap.size,0,none⟩) 1 1) (wx.alloc (.cells #[.int .i64 0,.int .i64 0,.int .i64 0,.int .i64 0,.int .i64 0,.int .i64 0] 83)):=fun wx=>by
  have:=run_make_rowN (P:=Tryz.prog) 80 83 i0 _ Tryz.underlying80 hi0 hz0 .i64 .i64 1 1 (Nat.le_refl _) (by rw [hz2]; omega) (by omega) wx
  rw [hz1,madeNum1] at this
  exact this
 have hmi:∀ wx:World,(Instr.makeSlice 30 (.int .i64 1) (.int .i64 1)).run Tryz.prog wx=.ok (.slice (some ⟨wx.heap.size,0,none⟩) 1 1) (wx.alloc (.cells #[.int .i64 0] 3)):=fun wx=>by
  have:=run_make_rowN (P:=Tryz.prog) 30 3 i1 _ Tryz.underlying30 hi1 jz0 .i64 .i64 1 1 (Nat.le_refl _) (by rw [jz2]; omega) (by omega) wx
  rw [jz1,madeInt1] at this
  exact this
 rw [← hn] at hn1000
 rw [← hn]
 clear h hcl h1 hn
 go_enter Tryz.func32,Tryz.ntmps32
 go_upto_region 1 with (fail)
 obtain ⟨v0,hv0⟩:=jX (w.alloc (.cells #[.pointer (some ⟨g,0,none⟩)] 25))
 have K10:Hid (Blk v0 w.heap.size 25 #[.pointer (some ⟨g,0,none⟩)]):=by rw [hv0]; exact jJ (Blk.new _ _ _)
 have HB0:Hid (Below w.heap.size w v0):=by rw [hv0]; exact jJ (bw_alloc (Below.refl _ _) _)
 rw [← hv0]
 obtain ⟨b1,hb1⟩:=jX w.heap.size
 rw [← hb1] at K10
 simp only [← hb1]
 clear hv0 hb1
 have p1:v0.cell? ⟨b1,0,none⟩=some (.pointer (some ⟨g,0,none⟩)):=K10.out.cell 0
 go_wp2_with fail
 refine (HOF.out _ HB0.out).mono ?_
 rintro e v1 ⟨A,cs,rfl,hr,hb⟩
 have K11:=jJ (blk_call K10.out hb)
 have HB1:=jJ (bw_call HB0.out hb)
 have hlen:(ofL T).length=n:=by rw [ofL_len,HN.out]
 obtain ⟨gs,c',hf,_⟩:=World.ownsRow.form hr (by omega:0 < (ofL T).length)
 injection hf with hA _ _
 subst hA
 have hsx:∀ x,x < n → v1.cell? ⟨gs,x,none⟩=some (.int .i64 0):=by
  intro x hx
  have hxl:x < (ofL T).length:=by omega
  have hx0:(ofL T)[x]?=some 0:=by
   have:=HZ.out x hx
   rw [List.getD_eq_getElem?_getD,List.getElem?_eq_getElem hxl,Option.getD_some] at this
   rw [List.getElem?_eq_getElem hxl,this]
  obtain ⟨ad,hA,hc⟩:=IR.cellQ hr hx0
  injection hA with hA
  subst hA
  have e:(⟨gs,0,none⟩:Addr).add x=⟨gs,x,none⟩:=by
   simp [Addr.add]
   intro h
   exact h.symm
  rw [e] at hc
  exact hc.c
 have HS1:Hid ((∀ x,x < n → v1.cell? ⟨gs,x,none⟩=some (.int .i64 0)) ∧ gs < v1.heap.size):=jJ ⟨hsx,(hr.lt gs rfl).2⟩
 clear hr hb p1 K10 HB0 HOF hlen hsx
 rw [← HN.out]
 go_upto_region 2 with (fail)
 obtain ⟨v2,hv2⟩:=jX (v1.alloc (.cells #[.slice (some ⟨gs,0,none⟩) n c'] 30))
 have K12:Hid (Blk v2 b1 25 #[.pointer (some ⟨g,0,none⟩)]):=by rw [hv2]; exact jJ (K11.out.alloc _)
 have K32:Hid (Blk v2 v1.heap.size 30 #[.slice (some ⟨gs,0,none⟩) n c']):=by rw [hv2]; exact jJ (Blk.new _ _ _)
 have HB2:Hid (Below w.heap.size w v2):=by rw [hv2]; exact jJ (bw_alloc HB1.out _)
 have HW2:Hid (Below v1.heap.size v1 v2):=by rw [hv2]; exact jJ (bw_alloc (Below.refl _ _) _)
 rw [← hv2]
 obtain ⟨b3,hb3⟩:=jX v1.heap.size
 rw [← hb3] at K32
 simp only [← hb3]
 have HB3E:Hid (v1.heap.size ≤ b3 ∧ b1 < v1.heap.size):=jJ ⟨by omega,K11.out.lt⟩
 clear hv2 hb3 K11
 have p1:v2.cell? ⟨b1,0,none⟩=some (.pointer (some ⟨g,0,none⟩)):=K12.out.cell 0
 go_wp2_with fail
 refine (HCN.out _ HB2.out).mono ?_
 rintro e v3 ⟨rfl,hb⟩
 have K13:=jJ (blk_call K12.out hb)
 have K33:=jJ (blk_call K32.out hb)
 have HB3:=jJ (bw_call HB2.out hb)
 have HW3:=jJ (bw_call HW2.out hb)
 clear hb p1 K12 K32 HB2 HW2 HCN
 go_upto_region 4 with (fail)
 obtain ⟨v4,hv4⟩:=jX ((v3.alloc (.cells #[.int .i64 0,.int .i64 0,.int .i64 0,.int .i64 0,.int .i64 0,.int .i64 0] 83)).alloc (.cells #[.int .i64 0] 3))
 have K14:Hid (Blk v4 b1 25 #[.pointer (some ⟨g,0,none⟩)]):=by rw [hv4]; exact jJ ((K13.out.alloc _).alloc _)
 have K34:Hid (Blk v4 b3 30 #[.slice (some ⟨gs,0,none⟩) n c']):=by rw [hv4]; exact jJ ((K33.out.alloc _).alloc _)
 have KG4:Hid (Blk v4 v3.heap.size 83 #[.int .i64 0,.int .i64 0,.int .i64 ((0:Nat):Int),.int .i64 0,.int .i64 0,.int .i64 0]):=by rw [hv4]; exact jJ ((Blk.new _ _ _).alloc _)
 have KT4:Hid (Blk v4 (v3.heap.size + 1) 3 #[.int .i64 ((0:Nat):Int)]):=by rw [hv4]; exact jJ (Blk.new_ (by rw [World.size_alloc]) _ _)
 have HB4:Hid (Below w.heap.size w v4):=by rw [hv4]; exact jJ (bw_alloc (bw_alloc HB3.out _) _)
 have HW4:Hid (Below v1.heap.size v1 v4):=by rw [hv4]; exact jJ (bw_alloc (bw_alloc HW3.out _) _)
 rw [← hv4]
 obtain ⟨gt,hgt⟩:=jX (v3.heap.size + 1)
 obtain ⟨go,hgo⟩:=jX v3.heap.size
 rw [← hgt] at KT4
 rw [← hgo] at KG4
 simp only [← hgt]
 simp only [← hgo]
 have HGE:Hid (v1.heap.size ≤ go ∧ v1.heap.size ≤ gt ∧ w.heap.size ≤ go ∧ w.heap.size ≤ gt ∧ go ≠ gt ∧ b3 ≠ go ∧ b3 ≠ gt ∧ b1 ≠ go ∧ b1 ≠ gt):=jJ (by
  have h1:=HW3.out.size
  have h2:=HB3.out.size
  have h3:=K33.out.lt
  have h4:=K13.out.lt
  omega)
 clear hv4 hgt hgo K13 K33 HB3 HW3 hmk hmi
 have p3:v4.cell? ⟨b3,0,none⟩=some (.slice (some ⟨gs,0,none⟩) n c'):=K34.out.cell 0
 go_wp2_with fail
 clear p3
 have HOP:Hid (∀ (c:Nat) (V:World),c < 3 * n → Below w.heap.size w V → ∃ o:Nat,Calls Tryz.prog 58 #[.pointer (some ⟨g,0,none⟩),.int .i64 (c:Int)] V (IntPost V (o:Int))):=jJ fun c V hc hV=>by
  have:=(HT.out.below hV).opp (c:=c) (by rw [← HN.out]; exact hc)
  rw [opp_clo HCL.out (by rw [← HN.out]; exact hc)] at this
  exact ⟨_,this⟩
 have HLOW:Hid (∀ W,Only (fun k=>k=go ∨ k=gt) v4 W → Below w.heap.size w W ∧ Below v1.heap.size v1 W ∧ (∀ x,x < n → W.cell? ⟨gs,x,none⟩=some (.int .i64 0)) ∧ W.cell? ⟨b1,0,none⟩=some (.pointer (some ⟨g,0,none⟩)) ∧ W.cell? ⟨b3,0,none⟩=some (.slice (some ⟨gs,0,none⟩) n c') ∧ b1 < W.heap.size ∧ b3 < W.heap.size ∧ gs < W.heap.size ∧ Blk W b1 25 #[.pointer (some ⟨g,0,none⟩)] ∧ Blk W b3 30 #[.slice (some ⟨gs,0,none⟩) n c']):=jJ fun W hW=>by
  have h1:Below w.heap.size w W:=HB4.out.trans (hW.below HB4.out.size fun k hk e=>by have:=HGE.out; omega)
  have h2:Below v1.heap.size v1 W:=HW4.out.trans (hW.below HW4.out.size fun k hk e=>by have:=HGE.out; omega)
  have h3:=K14.out.only hW (fun e=>by have:=HGE.out; omega)
  have h4:=K34.out.only hW (fun e=>by have:=HGE.out; omega)
  exact ⟨h1,h2,fun x hx=>(h2.cell HS1.out.2).trans (HS1.out.1 x hx),h3.cell 0,h4.cell 0,h3.lt,h4.lt,Nat.lt_of_lt_of_le HS1.out.2 h2.size,h3,h4⟩
 go_loopw [25] (fun iv wr=>∃ i:Nat,i ≤ n ∧ iv=.int .i64 i ∧ Hid (Blk wr go 83 #[.int .i64 0,.int .i64 0,.int .i64 (i:Int),.int .i64 0,.int .i64 0,.int .i64 0]) ∧ Hid (Blk wr gt 3 #[.int .i64 ((3 * i:Nat):Int)]) ∧ Hid (Only (fun k=>k=go ∨ k=gt) v4 wr)) (fun iv _=>n - (intOf iv).toNat)
 case atStart=>exact ⟨0,by omega,rfl,KG4,KT4,jJ (Only.refl _ _)⟩
 obtain ⟨i,hi,rfl,KGr,KTr,HOr⟩:=hrel
 obtain ⟨wB,hwB⟩:=jX (wr:World)
 rw [← hwB] at KGr KTr HOr ⊢
 clear hwB
 by_cases hlt:i < n
 rotate_left
 · have hin:i=n:=by omega
   rw [hin] at KGr KTr ⊢
   clear KG4 KT4 hi hlt hin i
   have p1:=(HLOW.out wB HOr.out).2.2.2.1
   have HVT:Hid (∀ V:World,Below w.heap.size w V → Calls Tryz.prog 59 #[.pointer (some ⟨g,0,none⟩)] V (IsPost V (.int .i64 (m:Int)))):=jJ fun V hV=>(HT.out.below hV).verts
   go_wp2_with fail
   refine (HVT.out _ (HLOW.out wB HOr.out).1).mono ?_
   rintro e w' ⟨rfl,hw⟩
   replace hw:=hw.symm
   subst hw
   clear p1
   go_wp2_with fail
   go_loopw [66] (fun iv wr=>∃ v:Nat,v ≤ m ∧ iv=.int .i64 v ∧ Hid (Blk wr go 83 #[.int .i64 (v:Int),.int .i64 0,.int .i64 (n:Int),.int .i64 0,.int .i64 0,.int .i64 0]) ∧ Hid (Blk wr gt 3 #[.int .i64 ((3 * n:Nat):Int)]) ∧ Hid (Only (fun k=>k=go ∨ k=gt) v4 wr)) (fun iv _=>m - (intOf iv).toNat)
   case atStart=>exact ⟨0,by omega,rfl,KGr,KTr,HOr⟩
   obtain ⟨v,hv,rfl,KGv,KTv,HOv⟩:=hrel
   obtain ⟨wG,hwG⟩:=jX (wr:World)
   rw [← hwG] at KGv KTv HOv ⊢
   clear hwG
   by_cases hvl:v < m
   rotate_left
   · have hvm:v=m:=by omega
     rw [hvm] at KGv ⊢
     clear hv hvl hvm v KGr KTr HOr
     have p1:=(HLOW.out wG HOv.out).2.2.2.1
     go_wp2_with fail
     refine (loops_nil g m T wG (HT.out.below (HLOW.out wG HOv.out).1) HCL.out).mono ?_
     rintro e wH ⟨rfl,hb⟩
     have KGh:=jJ (blk_call KGv.out hb)
     have KTh:=jJ (blk_call KTv.out hb)
     have HOh:Hid (Only (fun k=>k=go ∨ k=gt) v4 wH):=jJ (HOv.out.trans (Only.of_below hb _))
     clear hb p1 KGv KTv HOv
     go_wp2_with fail
     go_loopw [83] (fun iv wr=>iv=.int .i64 0 ∧ wr=wH) (fun _ _=>0)
     case atStart=>exact ⟨rfl,rfl⟩
     obtain ⟨rfl,hwr⟩:=hrel
     obtain ⟨wI,hwI⟩:=jX (wr:World)
     rw [← hwI] at hwr ⊢
     clear hwI
     subst hwr
     go_wp2_with fail
     go_loopw [102] (fun iv wr=>(iv=.int .i64 0 ∧ wr=wI) ∨ (iv=.int .i64 1 ∧ Hid (Blk wr go 83 #[.int .i64 (m:Int),.int .i64 ((3 * n / 2:Nat):Int),.int .i64 (n:Int),.int .i64 ((0:Nat):Int),.int .i64 ((m:Int) - ((3 * n / 2:Nat):Int) + (n:Int)),.int .i64 (Int.tdiv (2 - ((0:Nat):Int) - ((m:Int) - ((3 * n / 2:Nat):Int) + (n:Int))) 2)]) ∧ Hid (Below w.heap.size w wr))) (fun iv _=>1 - (intOf iv).toNat)
     case atStart=>exact .inl ⟨rfl,rfl⟩
     rcases hrel with ⟨rfl,hwr⟩ | ⟨rfl,KGw,HBw⟩
     rotate_left
     · obtain ⟨wJ,hwJ⟩:=jX (wr:World)
       rw [← hwJ] at KGw HBw ⊢
       clear hwJ
       go_wp2_with fail
       go_ret
       exact ⟨go,rfl,KGw.out,HBw.out⟩
     obtain ⟨wJ,hwJ⟩:=jX (wr:World)
     rw [← hwJ] at hwr ⊢
     clear hwJ
     subst hwr
     have HDN:Hid (Calls Tryz.prog 61 #[.pointer (some ⟨go,0,none⟩),.int .i64 ((3 * n:Nat):Int)] wJ.drew (fun e w'=>e=.returned (.tuple #[]) ∧ Blk w' go 83 #[.int .i64 (m:Int),.int .i64 ((3 * n / 2:Nat):Int),.int .i64 (n:Int),.int .i64 ((0:Nat):Int),.int .i64 ((m:Int) - ((3 * n / 2:Nat):Int) + (n:Int)),.int .i64 (Int.tdiv (2 - ((0:Nat):Int) - ((m:Int) - ((3 * n / 2:Nat):Int) + (n:Int))) 2)] ∧ Only (fun k=>k=go) wJ.drew w')):=jJ (gdone_any go m n 0 (3 * n) 0 0 0 _ _ wJ.drew KGh.out.drew (by omega) (by omega) (by omega) (by omega) rfl rfl)
     have KTwJ:=KTh
     go_upto_region 29 with (fail)
     refine wp_region_held_drew (S:=fun w'=>w'.cell? ⟨gt,0,none⟩=some (.int .i64 ((3 * n:Nat):Int))) (by kernel_rfl) (KTwJ.out.drew.cell 0) (fun hHeld=>?_)
     refine hKk 0 ?_; (try simp only [zQ])
     refine hKk 1 ?_; (try simp only [zQ])
     refine hKk 2 ?_; (try simp only [zQ])
     refine hKk 3 ?_; (try simp only [zQ])
     refine hKk 4 ?_; (try simp only [zQ])
     refine hKk 5 ?_; (try simp only [zQ])
     refine hKk 6 ?_; (try simp only [zQ])
     refine wpAnyH_ready (rs:=[7]) (by kernel_rfl) (by simp) ?_
     refine held_cons rfl (fun K hK=>?_) ?_
     · go_simp
       go_wp2_with (go_at_call 61; refine HDN.out.mono ?_; rintro e v50 ⟨rfl,hk9,ho9⟩)
       have KTv50:Hid (Blk v50 gt 3 #[.int .i64 ((3 * n:Nat):Int)]):=jJ (KTwJ.out.drew.only ho9 (by have:=HGE.out; show ¬ gt=go; omega))
       have KGv50:=jJ hk9
       have HBv50:Hid (Below w.heap.size w v50):=jJ ((HLOW.out wJ HOh.out).1.trans ((bw_drew (Below.refl _ _)).mono (HLOW.out wJ HOh.out).1.size |>.trans (ho9.below (show w.heap.size ≤ wJ.heap.size from (HLOW.out wJ HOh.out).1.size) fun k hk e=>by have:=HGE.out; omega)))
       clear hk9 ho9
       refine hK.out _ _ ?_ (fun hHeld=>?_)
       · exact (KTv50.out.cell 0)
       clear hK K
       (try simp only [zQ])
       refine wpAnyH_done (by kernel_rfl) ?_ _
       go_wp2_with fail
       exact ⟨.inr ⟨by go_num,KGv50,HBv50⟩,by simp [intOf]⟩
     exact AllReadyH.nil
   have hvi:(v:Int) < (m:Int):=by omega
   obtain ⟨g1,g2,g3,g4,g5,g6,g7,g8,g9,g10⟩:=HLOW.out wG HOv.out
   have HO1:Hid (Calls Tryz.prog 56 #[.int .i64 (v:Int),.pointer (some ⟨b3,0,none⟩),.pointer (some ⟨b1,0,none⟩)] wG (IntPost wG 0)):=jJ (of1_any g m T gs n c' b1 b3 v wG (HT.out.below g1) hvl HN.out g4 g5 g3 g6 g7 g8)
   clear g1 g2 g3 g4 g5 g6 g7 g8 g9 g10
   go_wp2_with fail
   refine HO1.out.mono ?_
   rintro e wH ⟨rfl,hb⟩
   have KGh:=jJ (blk_call KGv.out hb)
   have KTh:=jJ (blk_call KTv.out hb)
   have HOh:Hid (Only (fun k=>k=go ∨ k=gt) v4 wH):=jJ (HOv.out.trans (Only.of_below hb _))
   clear hb HO1 KGv KTv HOv
   have pg:wH.cell? ⟨go,0,none⟩=some (.int .i64 (v:Int)):=KGh.out.cell 0
   have fg:wH.frozen? ⟨go,0,none⟩=false:=KGh.out.frozen 0
   have hw1:IntKind.i64.wrap ((v:Int) + 1)=(v:Int) + 1:=IntWalk.i64_in _ (by omega)
   go_wp2_with fail
   exact ⟨⟨v + 1,by omega,by go_num,jJ (KGh.out.set_ 0 _),jJ (KTh.out.far (p:=⟨go,0,none⟩) (by have:=HGE.out; show gt ≠ go; omega) _),jJ (HOh.out.setCell (p:=⟨go,0,none⟩) (.inl (.inl rfl)) _)⟩,by simp [intOf]; omega⟩
 have hii:(i:Int) < (n:Int):=by omega
 have ps:=(HLOW.out wB HOr.out).2.2.1 i hlt
 have pg:wB.cell? ⟨go,2,none⟩=some (.int .i64 (i:Int)):=KGr.out.cell 2
 have fg:wB.frozen? ⟨go,2,none⟩=false:=KGr.out.frozen 2
 have hw1:IntKind.i64.wrap ((i:Int) + 1)=(i:Int) + 1:=IntWalk.i64_in _ (by omega)
 have hw3:IntKind.i64.wrap (3 * (i:Int))=3 * (i:Int):=IntWalk.i64_in _ (by omega)
 have hw4:IntKind.i64.wrap (3 * (i:Int) + 3)=3 * (i:Int) + 3:=IntWalk.i64_in _ (by omega)
 go_upto_region 9 with (fail)
 obtain ⟨wC,hwC⟩:=jX (wB.setCell ⟨go,2,none⟩ (.int .i64 ((i:Int) + 1)))
 have KGc:Hid (Blk wC go 83 #[.int .i64 0,.int .i64 0,.int .i64 ((i:Int) + 1),.int .i64 0,.int .i64 0,.int .i64 0]):=by rw [hwC]; exact jJ (KGr.out.set_ 2 _)
 have KTc:Hid (Blk wC gt 3 #[.int .i64 ((3 * i + 0:Nat):Int)]):=by rw [hwC]; exact jJ (KTr.out.far (p:=⟨go,2,none⟩) (by have:=HGE.out; show gt ≠ go; omega) _)
 have HOc:Hid (Only (fun k=>k=go ∨ k=gt) v4 wC):=by rw [hwC]; exact jJ (HOr.out.setCell (p:=⟨go,2,none⟩) (.inl (.inl rfl)) _)
 rw [← hwC]
 clear hwC pg fg ps KGr KTr HOr
 go_wp2_with fail
 go_loopw [9] (fun iv wr=>∃ q:Nat,q ≤ 3 ∧ iv=.int .i64 ((3 * i + q:Nat):Int) ∧ Hid (Blk wr go 83 #[.int .i64 0,.int .i64 0,.int .i64 ((i:Int) + 1),.int .i64 0,.int .i64 0,.int .i64 0]) ∧ Hid (Blk wr gt 3 #[.int .i64 ((3 * i + q:Nat):Int)]) ∧ Hid (Only (fun k=>k=go ∨ k=gt) v4 wr)) (fun iv _=>3 * i + 3 - (intOf iv).toNat)
 case atStart=>exact ⟨0,by omega,by go_num,KGc,KTc,HOc⟩
 obtain ⟨q,hq,rfl,KGr,KTr,HOr⟩:=hrel
 obtain ⟨wD,hwD⟩:=jX (wr:World)
 rw [← hwD] at KGr KTr HOr ⊢
 clear hwD
 obtain ⟨d,hd⟩:=jX (3 * i + q)
 rw [← hd] at KTr ⊢
 have HD:=jJ hd
 by_cases hq3:q < 3
 rotate_left
 · have hdl:¬ (d:Int) < 3 * (i:Int) + 3:=by omega
   have KTe:Hid (Blk wD gt 3 #[.int .i64 ((3 * (i + 1):Nat):Int)]):=by
    have:d=3 * (i + 1):=by omega
    rw [← this]
    exact KTr
   clear hd KTr KGc KTc HOc
   go_wp2_with fail
   exact ⟨⟨i + 1,by omega,by go_num,KGr,KTe,HOr⟩,by simp [intOf]; omega⟩
 have hdl:(d:Int) < 3 * (i:Int) + 3:=by omega
 have hdn:d < 3 * n:=by omega
 have hw5:IntKind.i64.wrap ((d:Int) + 1)=(d:Int) + 1:=IntWalk.i64_in _ (by omega)
 have pt:wD.cell? ⟨gt,0,none⟩=some (.int .i64 (d:Int)):=KTr.out.cell 0
 have ft:wD.frozen? ⟨gt,0,none⟩=false:=KTr.out.frozen 0
 clear hd
 go_upto_region 13 with (fail)
 obtain ⟨wE,hwE⟩:=jX (wD.setCell ⟨gt,0,none⟩ (.int .i64 ((d:Int) + 1)))
 have KGe:Hid (Blk wE go 83 #[.int .i64 0,.int .i64 0,.int .i64 ((i:Int) + 1),.int .i64 0,.int .i64 0,.int .i64 0]):=by rw [hwE]; exact jJ (KGr.out.far (p:=⟨gt,0,none⟩) (by have:=HGE.out; show go ≠ gt; omega) _)
 have KTe:Hid (Blk wE gt 3 #[.int .i64 ((d:Int) + 1)]):=by rw [hwE]; exact jJ (KTr.out.set_ 0 _)
 have HOe:Hid (Only (fun k=>k=go ∨ k=gt) v4 wE):=by rw [hwE]; exact jJ (HOr.out.setCell (p:=⟨gt,0,none⟩) (.inl (.inr rfl)) _)
 rw [← hwE]
 clear hwE pt ft KGr KTr HOr
 obtain ⟨o,ho⟩:=HOP.out d wE hdn (HLOW.out wE HOe.out).1
 have HOO:=jJ ho
 have p1:=(HLOW.out wE HOe.out).2.2.2.1
 have ho0:¬ (o:Int) < 0:=by omega
 clear ho
 go_wp2_with fail
 refine HOO.out.mono ?_
 rintro e wF ⟨rfl,hb⟩
 have KGf:=jJ (blk_call KGe.out hb)
 have KTf:Hid (Blk wF gt 3 #[.int .i64 ((3 * i + (q + 1):Nat):Int)]):=jJ (by
  have:((3 * i + (q + 1):Nat):Int)=(d:Int) + 1:=by have:=HD.out; omega
  rw [this]
  exact blk_call KTe.out hb)
 have HOf:Hid (Only (fun k=>k=go ∨ k=gt) v4 wF):=jJ (HOe.out.trans (Only.of_below hb _))
 clear hb KGe KTe HOe HOO p1
 go_wp2_with fail
 exact ⟨⟨q + 1,by omega,by have:=HD.out; go_num,KGf,KTf,HOf⟩,by have:=HD.out; simp [intOf]; omega⟩
end
section
structure SphT (m:Nat) (T:List Tri):Prop where
 clo:ClosedC T
 one:kN T=1
 pos:0 < T.length
 num:2 * m=T.length + 4
theorem SphT.sph {m:Nat} {T:List Tri} (h:SphT m T) (hs:SurfE m T):Sph T.length (oppC T) (cv T) (vertL m):=sph_of hs h.clo h.one h.pos h.num
attribute [local irreducible] Blk World.alloc World.setCell World.cell? World.frozen? MapV MapI
theorem wcheck_any (g m:Nat) (T:List Tri) (root:Nat) (w:World) (h:TabN w g m T) (hs:SphT m T) (hr:root < 3 * T.length) :
  Calls Tryz.prog 16 #[.pointer (some ⟨g,0,none⟩),.int .i64 (root:Int)] w (IntPost w 0):=by
 have h1000:=h.n
 have HTR:Hid (Calls Tryz.prog 31 #[.pointer (some ⟨g,0,none⟩)] w (IsPost w (.int .i64 T.length))):=jJ (tris_any g 0 m T w h.t.s)
 have HG:=jJ (genus_any g m T w h hs.clo hs.one)
 have hnum:=hs.num
 obtain ⟨eu,heu⟩:=jX ((m:Int) - ((3 * T.length / 2:Nat):Int) + (T.length:Int))
 obtain ⟨E,hE⟩:=jX (3 * T.length / 2)
 have heu2:eu=2:=by omega
 unfold GenPost at HG
 rw [← heu,heu2,← hE] at HG
 rw [show Int.tdiv (2 - ((0:Nat):Int) - 2) 2=0 from rfl,show ((0:Nat):Int)=0 from rfl] at HG
 have hr0:¬ (root:Int) < 0:=by omega
 have hr3:(root:Int) < 3 * (T.length:Int):=by omega
 have hw3:IntKind.i64.wrap (3 * (T.length:Int))=3 * (T.length:Int):=IntWalk.i64_in _ (by omega)
 clear h hs heu heu2 hE hnum
 go_enter Tryz.func16,Tryz.ntmps16
 go_wp2_with fail
 refine HTR.out.mono ?_
 rintro e w' ⟨rfl,hw⟩
 replace hw:=hw.symm
 subst hw
 go_wp2_with fail
 refine HG.out.mono ?_
 rintro e w1 ⟨go,rfl,hk,hb⟩
 have HB1:=jJ hb
 have c3:w1.cell? ⟨go,3,none⟩=some (.int .i64 0):=hk.cell 3
 have c5:w1.cell? ⟨go,5,none⟩=some (.int .i64 0):=hk.cell 5
 clear hk hb
 go_wp2_with fail
 go_ret
 exact ⟨rfl,HB1.out⟩
theorem steps_fn (p:Option Addr) (v:Int) (w:World) :
  Calls Tryz.prog 20 #[.pointer p,.int .i64 v] w fun e w'=>e=.returned (.func (.func 35) #[] #[.pointer (some ⟨w.heap.size,0,none⟩),.pointer (some ⟨w.heap.size + 1,0,none⟩)]) ∧ w'=(w.alloc (.cells #[.pointer p] 25)).alloc (.cells #[.int .i64 v] 3):=by
 go_enter Tryz.func20,Tryz.ntmps20
 go_wp2_with fail
 go_ret
 exact ⟨by simp,rfl⟩
end
end Go.Proofs.YtffmfhkiienmaaaGreat
