/- What the document's simple surface is: plain. No condition. -/
import Derived.Test.YtffmfhkiienmaaaGreatTurP
import Derived.Test.YtffmfhkiienmaaaGreatRq13
import Derived.Test.YtffmfhkiienmaaaGreatWq4
set_option maxRecDepth 100000
set_option maxHeartbeats 16000000
set_option linter.all false
namespace Go.Proofs.YtffmfhkiienmaaaGreat
open Go.RowKit
section
section
variable {m:Nat} {T:List Tri}
theorem ce_tri {i k:Nat} (hk:k < 3):ce T (3 * i + k)=(cornerT (tri T i) ((k + 1) % 3),cornerT (tri T i) ((k + 2) % 3)):=by
 rw [ce_ct,show (3 * i + k) / 3=i by omega,show (3 * i + k) % 3=k by omega]
 rfl
theorem met_clo (hs:SurfE m T) (h:∀ i k,i < T.length → k < 3 → MetE T i k):ClosedC T:=fun c hc=>by
 obtain ⟨d,hd,he⟩:=h (c / 3) ((c % 3 + 1) % 3) (by omega) (by omega)
 have e1:ce T c=(cornerT (tri T (c / 3)) ((c % 3 + 1) % 3),cornerT (tri T (c / 3)) ((c % 3 + 2) % 3)):=by
  have:=ce_tri (T:=T) (i:=c / 3) (k:=c % 3) (by omega)
  rwa [show 3 * (c / 3) + c % 3=c by omega] at this
 unfold oppF
 rw [e1]
 have:((c % 3 + 1) % 3 + 1) % 3=(c % 3 + 2) % 3:=by omega
 rw [this] at he
 rw [facing_is hs hd he]
 rfl
theorem nb_adj (hs:SurfE m T) {i k:Nat} (hi:i < T.length) (hk:k < T.length) (h:NbE (tri T i) (tri T k)):Adj T k i:=by
 obtain ⟨p,q,hp,hq,h1,h2⟩:=h
 have e1:ce T (3 * k + (q + 2) % 3)=(cornerT (tri T k) q,cornerT (tri T k) ((q + 1) % 3)):=by
  rw [ce_tri (by omega),show ((q + 2) % 3 + 1) % 3=q by omega,show ((q + 2) % 3 + 2) % 3=(q + 1) % 3 by omega]
 have e2:ce T (3 * i + (p + 2) % 3)=(cornerT (tri T i) p,cornerT (tri T i) ((p + 1) % 3)):=by
  rw [ce_tri (by omega),show ((p + 2) % 3 + 1) % 3=p by omega,show ((p + 2) % 3 + 2) % 3=(p + 1) % 3 by omega]
 refine ⟨3 * k + (q + 2) % 3,3 * i + (p + 2) % 3,by omega,by omega,?_,by omega⟩
 unfold oppF
 refine facing_is hs (by omega) ?_
 rw [e1,e2,h1,h2]
theorem kN_one (hs:SurfE m T) (h0:0 < T.length) (h:∀ x,x < T.length → Re T 0 x):kN T=1:=by
 have key:∀ k,k < kN T → k=ofN T 0:=fun k hk=>by
  have hp:=lst_pos hk
  obtain ⟨x,l,e⟩:=List.exists_cons_of_ne_nil (List.ne_nil_of_length_pos hp)
  have hx:x ∈ lstOf (ofL T) T.length k:=by rw [e]; exact .head _
  obtain ⟨q1,q2⟩:=lst_iff.1 hx
  rw [← q2]
  exact ((ofN_re hs h0 q1).2 (h x q1)).symm
 have h1:=ofN_lt h0
 rcases Nat.lt_or_ge 1 (kN T) with h2 | h2
 · have a:=key 0 (by omega)
   have b:=key 1 h2
   omega
 omega
def OfJ (T:List Tri) (O:List Int):Prop:=O.length=T.length ∧ ∀ i,i < T.length → ∃ j:Nat,O.getD i 0=(j:Int) ∧ j ≤ i ∧ Re T j i
theorem OfJ.upd (hs:SurfE m T) {O:List Int} (h:OfJ T O) {i k:Nat} (hi:i < T.length) (hk:k < T.length) (hn:NbE (tri T i) (tri T k)) (hl:O.getD k 0 < O.getD i 0):OfJ T (O.set i (O.getD k 0)):=by
 refine ⟨by rw [List.length_set]; exact h.1,fun x hx=>?_⟩
 rw [getD_set (by rw [h.1]; exact hi)]
 by_cases e:i=x
 · subst e
   rw [if_pos rfl]
   obtain ⟨a,h1,h2,h3⟩:=h.2 i hi
   obtain ⟨b,g1,g2,g3⟩:=h.2 k hk
   exact ⟨b,g1,by omega,g3.step (nb_adj hs hi hk hn)⟩
 rw [if_neg e]
 exact h.2 x hx
theorem OfJ.start (T:List Tri):OfJ T ((List.range T.length).map fun i:Nat=>(i:Int)):=by
 refine ⟨by simp,fun i hi=>⟨i,?_,Nat.le_refl _,.refl _⟩⟩
 rw [List.getD_eq_getElem?_getD,List.getElem?_map,List.getElem?_range hi]
 rfl
def NumJ (T:List Tri) (i:Nat) (many:Nat) (L:List Int):Prop:=L.length=T.length ∧ (0 < i → 1 ≤ many) ∧ many ≤ i ∧ ∀ x,x < i → (L.getD x 0=0 → Re T 0 x)
theorem NumJ.root {O L:List Int} {i many:Nat} (h:NumJ T i many L) (hi:i < T.length):NumJ T (i + 1) (many + 1) (L.set i (many:Int)):=by
 obtain ⟨h1,h2,h3,h4⟩:=h
 refine ⟨by rw [List.length_set]; exact h1,fun _=>by omega,by omega,fun x hx=>?_⟩
 rw [getD_set (by rw [h1]; exact hi)]
 by_cases e:i=x
 · subst e
   rw [if_pos rfl]
   intro e
   have:i=0:=by
    rcases Nat.eq_zero_or_pos i with h | h
    · exact h
    have:=h2 h
    omega
   subst this
   exact .refl _
 rw [if_neg e]
 exact h4 x (by omega)
theorem NumJ.next {O L:List Int} {i many:Nat} (hO:OfJ T O) (h:NumJ T i many L) (hi:i < T.length) {j:Nat} (hj:O.getD i 0=(j:Int)) (hne:j ≠ i):j < i ∧ NumJ T (i + 1) many (L.set i (L.getD j 0)):=by
 obtain ⟨h1,h2,h3,h4⟩:=h
 obtain ⟨a,e1,e2,e3⟩:=hO.2 i hi
 obtain rfl:a=j:=by omega
 refine ⟨by omega,by rw [List.length_set]; exact h1,fun _=>h2 (by omega),by omega,fun x hx=>?_⟩
 rw [getD_set (by rw [h1]; exact hi)]
 by_cases e:i=x
 · subst e
   rw [if_pos rfl]
   intro e
   exact (h4 a (by omega) e).trans e3
 rw [if_neg e]
 exact h4 x (by omega)
end
end
section
def intA (l:List Int):Array Value:=(l.map (Value.int .i64)).toArray
theorem intA_at {l:List Int} {j:Nat} (h:j < l.length):(intA l)[j]?=some (.int .i64 (l.getD j 0)):=by
 unfold intA
 rw [List.getElem?_toArray,List.getElem?_map,List.getElem?_eq_getElem h,List.getD_eq_getElem?_getD,List.getElem?_eq_getElem h]
 rfl
theorem intA_set (l:List Int) (j:Nat) (v:Int):(intA l).setIfInBounds j (.int .i64 v)=intA (l.set j v):=by
 unfold intA
 rw [List.setIfInBounds_toArray,List.map_set]
theorem madeInt (n:Nat):madeCells (Value.int .i64 0).cells (n * 1)=intA (List.replicate n 0):=by
 apply Array.ext'
 refine List.ext_getElem? fun i=>?_
 by_cases hi:i < n
 · simp [madeCells,intA,hi,Value.cells,Nat.mod_one]
 simp [madeCells,intA,hi,Value.cells]
theorem blk_intA {w:World} {g:Nat} {L:List Int} (h:Blk w g 3 (intA L)) {j:Nat} (hj:j < L.length):CellQ w ⟨g,j,none⟩ (.int .i64 (L.getD j 0)):=⟨(h.cell j).trans (intA_at hj),h.lt⟩
theorem blk_intS {w:World} {g:Nat} {L:List Int} (h:Blk w g 3 (intA L)) (j:Nat) (v:Int):Blk (w.setCell ⟨g,j,none⟩ (.int .i64 v)) g 3 (intA (L.set j v)):=intA_set L j v ▸ h.set_ j _
def OfrPost (w:World) (T:List Tri) (e:Ending) (w':World):Prop:=∃ (go:Nat) (L:List Int),e=.returned (.slice (some ⟨go,0,none⟩) T.length T.length) ∧ Blk w' go 3 (intA L) ∧ L.length=T.length ∧ (∀ x,x < T.length → L.getD x 0=0 → Re T 0 x) ∧ Below w.heap.size w w'
structure OfW (w:World) (ga go:Nat) (N:Int) (A:Option Addr) (n c:Nat) (L:List Int) (W:World):Prop where
 s:Blk W ga 24 #[.int .i64 N,.slice A n c]
 r:Blk W go 3 (intA L)
 b:Below w.heap.size w W
section
variable {w W W2:World} {ga go n c:Nat} {N:Int} {A:Option Addr} {L:List Int}
theorem OfW.below (h:OfW w ga go N A n c L W) (hb:Below W.heap.size W W2):OfW w ga go N A n c L W2:=⟨blk_call h.s hb,blk_call h.r hb,bw_call h.b hb⟩
theorem OfW.drew (h:OfW w ga go N A n c L W):OfW w ga go N A n c L W.drew:=⟨h.s.drew,h.r.drew,bw_drew h.b⟩
theorem OfW.set (h:OfW w ga go N A n c L W) (hg:w.heap.size ≤ go) (j:Nat) (v:Int):OfW w ga go N A n c (L.set j v) (W.setCell ⟨go,j,none⟩ (.int .i64 v)) :=
 ⟨h.s.far (p:=⟨go,j,none⟩) (h.s.ne_ h.r (by decide)) _,blk_intS h.r j v,bw_set h.b (p:=⟨go,j,none⟩) hg _⟩
end
attribute [local irreducible] Blk LRow World.alloc World.setCell World.cell? World.frozen? MapV MapI
theorem ofr_any (m:Nat) (N:Int) (A:Option Addr) (c:Nat) (T:List Tri) (w:World) (hs:SurfE m T) (hT:T.length ≤ 1000) (ht:TrisAt w w.heap.size A T.length T) :
  Calls Tryz.prog 15 #[.agg #[.int .i64 N,.slice A T.length c]] w (OfrPost w T):=by
 obtain ⟨i0,hi0,hz0,hz1,hz2⟩:=info_parts (show (Tryz.prog.info? 3).map (fun i=>(i.zero,i.size,i.bytes))=some (some (.int .i64 0),1,8) by kernel_rfl)
 have HT:=jJ ht
 have HS:=jJ hs
 have hmk:∀ wx:World,(Instr.makeSlice 30 (.int .i64 (T.length:Int)) (.int .i64 (T.length:Int))).run Tryz.prog wx=.ok (.slice (some ⟨wx.heap.size,0,none⟩) T.length T.length) (wx.alloc (.cells (intA (List.replicate T.length 0)) 3)):=fun wx=>by
  have:=run_make_rowN (P:=Tryz.prog) 30 3 i0 _ Tryz.underlying30 hi0 hz0 .i64 .i64 T.length T.length (Nat.le_refl _) (by rw [hz2]; omega) (by omega) wx
  rw [hz1,madeInt] at this
  exact this
 clear ht hs
 obtain ⟨V,hV⟩:=jX (w.alloc (.cells #[.int .i64 N,.slice A T.length c] 24))
 have GAV:Hid (Blk V w.heap.size 24 #[.int .i64 N,.slice A T.length c]):=by subst hV; exact jJ (Blk.new _ _ _)
 have HBV:Hid (Below w.heap.size w V):=by subst hV; exact jJ (bw_alloc (Below.refl _ _) _)
 go_enter Tryz.func15,Tryz.ntmps15
 go_upto_region 1 with (fail)
 rw [← hV]
 clear hV
 obtain ⟨ga,hga⟩:=jX w.heap.size
 rw [← hga] at GAV
 simp only [← hga]
 clear hga
 obtain ⟨s0,s1,_,_,_⟩:=soup_facts GAV.out
 go_upto_region 3 with (fail)
 obtain ⟨w3,hw3⟩:=jX (V.alloc (.cells (intA (List.replicate T.length 0)) 3))
 obtain ⟨go,hgo⟩:=jX V.heap.size
 have KW3:Hid (OfW w ga go N A T.length c (List.replicate T.length 0) w3):=jJ (by rw [hw3,hgo]; exact ⟨GAV.out.alloc _,Blk.new _ _ _,bw_alloc HBV.out _⟩)
 have HGO:Hid (w.heap.size ≤ go):=jJ (by rw [hgo]; exact HBV.out.size)
 rw [← hw3]
 simp only [← hgo]
 clear hw3 hgo GAV HBV s0 s1
 go_loopw [4] (fun iv wr=>∃ (i:Nat) (L:List Int),i ≤ T.length ∧ iv=.int .i64 i ∧ L.length=T.length ∧ Hid (∀ x,x < i → L.getD x 0=(x:Int)) ∧ Hid (OfW w ga go N A T.length c L wr)) (fun iv _=>T.length - (intOf iv).toNat)
 case atStart=>exact ⟨0,_,by omega,rfl,by simp,jJ (fun x hx=>absurd hx (by omega)),KW3⟩
 obtain ⟨i,L,hi,rfl,hL,HLx,KWr⟩:=hrel
 obtain ⟨wB,hwB⟩:=jX (wr:World)
 rw [← hwB] at KWr ⊢
 clear hwB KW3
 by_cases hlt:i < T.length
 · have hii:(i:Int) < (T.length:Int):=by omega
   have q0:=(blk_intA KWr.out.r (j:=i) (by omega)).c
   have q1:=KWr.out.r.frozen i
   go_wp2_with fail
   exact ⟨⟨i + 1,L.set i (i:Int),by omega,by go_num,by rw [List.length_set]; exact hL,jJ (fun x hx=>by
    rw [getD_set (by omega)]
    by_cases e:i=x
    · rw [if_pos e,e]
    rw [if_neg e]
    exact HLx.out x (by omega)),jJ (KWr.out.set HGO.out i (i:Int))⟩,by simp [intOf]; omega⟩
 obtain rfl:i=T.length:=by omega
 have HJ0:Hid (OfJ T L):=jJ ⟨hL,fun x hx=>⟨x,HLx.out x hx,Nat.le_refl _,.refl _⟩⟩
 clear HLx hL
 go_wp2_with fail
 go_loopw [26] (fun iv wr=>∃ (i:Nat) (O:List Int),i ≤ T.length ∧ iv=.int .i64 i ∧ Hid (OfJ T O) ∧ Hid (OfW w ga go N A T.length c O wr)) (fun iv _=>T.length - (intOf iv).toNat)
 case atStart=>exact ⟨0,L,by omega,rfl,HJ0,KWr⟩
 obtain ⟨r,O,hr,rfl,HJ,KWs⟩:=hrel
 obtain ⟨wC,hwC⟩:=jX (wr:World)
 rw [← hwC] at KWs ⊢
 clear hwC KWr HJ0
 by_cases hlr:r < T.length
 · have hri:(r:Int) < (T.length:Int):=by omega
   go_wp2_with fail
   go_loopw [5] (fun iv wr=>∃ (i:Nat) (O:List Int),i ≤ T.length ∧ iv=.int .i64 i ∧ Hid (OfJ T O) ∧ Hid (OfW w ga go N A T.length c O wr)) (fun iv _=>T.length - (intOf iv).toNat)
   case atStart=>exact ⟨0,O,by omega,rfl,HJ,KWs⟩
   obtain ⟨i,O,hi,rfl,HJ,KWt⟩:=hrel
   obtain ⟨wD,hwD⟩:=jX (wr:World)
   rw [← hwD] at KWt ⊢
   clear hwD KWs
   by_cases hli:i < T.length
   rotate_left
   · obtain rfl:i=T.length:=by omega
     go_wp2_with fail
     exact ⟨⟨r + 1,O,by omega,by go_num,HJ,KWt⟩,by simp [intOf]; omega⟩
   have hii:(i:Int) < (T.length:Int):=by omega
   go_wp2_with fail
   go_loopw [6] (fun iv wr=>∃ (k:Nat) (O:List Int),k ≤ T.length ∧ iv=.int .i64 k ∧ Hid (OfJ T O) ∧ Hid (OfW w ga go N A T.length c O wr)) (fun iv _=>T.length - (intOf iv).toNat)
   case atStart=>exact ⟨0,O,by omega,rfl,HJ,KWt⟩
   obtain ⟨k,O,hk,rfl,HJ,KWu⟩:=hrel
   obtain ⟨wE,hwE⟩:=jX (wr:World)
   rw [← hwE] at KWu ⊢
   clear hwE KWt
   by_cases hlk:k < T.length
   rotate_left
   · obtain rfl:k=T.length:=by omega
     go_wp2_with fail
     exact ⟨⟨i + 1,O,by omega,by go_num,HJ,KWu⟩,by simp [intOf]; omega⟩
   have hki:(k:Int) < (T.length:Int):=by omega
   obtain ⟨ad,hAd,tq⟩:=(HT.out.below KWu.out.b).triQ KWu.out.b.size hli
   obtain ⟨ad',hAd',tq'⟩:=(HT.out.below KWu.out.b).triQ KWu.out.b.size hlk
   subst hAd
   injection hAd' with hAd'
   subst hAd'
   have KWwE:=KWu
   have HQwE:Hid (Below w.heap.size w wE):=jJ KWu.out.b
   have QIwE:=jJ tq
   have QKwE:=jJ tq'
   have KIwE:=jJ (blk_intA KWu.out.r (j:=i) (by rw [HJ.out.1]; exact hli))
   have KKwE:=jJ (blk_intA KWu.out.r (j:=k) (by rw [HJ.out.1]; exact hlk))
   have HUP:Hid (NbE (tri T i) (tri T k) → O.getD k 0 < O.getD i 0 → OfJ T (O.set i (O.getD k 0))):=jJ fun h1 h2=>HJ.out.upd HS.out hli hlk h1 h2
   clear tq tq' KWu
   generalize O.getD i 0=oi at *
   generalize O.getD k 0=ok at *
   generalize tri T i=ti at *
   generalize tri T k=tk at *
   by_cases hlt:ok < oi
   · go_upto_region 14 with (fail)
     refine wp_region_held_drew (S:=fun w'=>w'.cell? ⟨ga,0,none⟩=some (.int .i64 N) ∧ w'.cell? ⟨ga,1,none⟩=some (.slice (some ad) T.length c) ∧ w'.cell? ⟨go,i,none⟩=some (.int .i64 oi) ∧ w'.cell? ⟨go,k,none⟩=some (.int .i64 ok) ∧ w'.cell? (ad.add (i * 3))=some (.int .i64 ti.a) ∧ w'.cell? ⟨(ad.add (i * 3)).block,(ad.add (i * 3)).off + 1,none⟩=some (.int .i64 ti.b) ∧ w'.cell? ⟨(ad.add (i * 3)).block,(ad.add (i * 3)).off + 2,none⟩=some (.int .i64 ti.c) ∧ w'.cell? (ad.add (k * 3))=some (.int .i64 tk.a) ∧ w'.cell? ⟨(ad.add (k * 3)).block,(ad.add (k * 3)).off + 1,none⟩=some (.int .i64 tk.b) ∧ w'.cell? ⟨(ad.add (k * 3)).block,(ad.add (k * 3)).off + 2,none⟩=some (.int .i64 tk.c)) (by kernel_rfl) ⟨(soup_facts KWwE.out.drew.s).1,(soup_facts KWwE.out.drew.s).2.1,(KIwE.out.drew.c),(KKwE.out.drew.c),(QIwE.out.drew.c.c0),(QIwE.out.drew.c.f1),(QIwE.out.drew.c.f2),(QKwE.out.drew.c.c0),(QKwE.out.drew.c.f1),(QKwE.out.drew.c.f2)⟩ (fun hHeld=>?_)
     refine hKk 0 ?_; (try simp only [zQ])
     refine hKk 1 ?_; (try simp only [zQ])
     refine hKk 2 ?_; (try simp only [zQ])
     refine hKk 3 ?_; (try simp only [zQ])
     refine hKk 4 ?_; (try simp only [zQ])
     refine hKk 5 ?_; (try simp only [zQ])
     refine hKk 6 ?_; (try simp only [zQ])
     refine hKk 7 ?_; (try simp only [zQ])
     refine hKk 8 ?_; (try simp only [zQ])
     refine hKk 9 ?_; (try simp only [zQ])
     refine hKk 10 ?_; (try simp only [zQ])
     refine hKk 11 ?_; (try simp only [zQ])
     refine hKk 12 ?_; (try simp only [zQ])
     refine hKk 13 ?_; (try simp only [zQ])
     refine hKk 14 ?_; (try simp only [zQ])
     refine hKk 15 ?_; (try simp only [zQ])
     refine hKk 16 ?_; (try simp only [zQ])
     refine hKk 17 ?_; (try simp only [zQ])
     refine hKk 18 ?_; (try simp only [zQ])
     refine hKk 19 ?_; (try simp only [zQ])
     refine wpAnyH_ready (rs:=[20]) (by kernel_rfl) (by simp) ?_
     refine held_cons rfl (fun K hK=>?_) ?_
     · go_simp
       go_wp2_with (go_at_call 30; refine (nb13_any ti tk wE.drew).mono ?_; rintro e v3 ⟨b,rfl,hnb,hb⟩)
       have KWv3:=jJ (KWwE.out.drew.below hb)
       have KIv3:=jJ (KIwE.out.drew.below hb)
       have KKv3:=jJ (KKwE.out.drew.below hb)
       have QIv3:=jJ (QIwE.out.drew.below hb)
       have QKv3:=jJ (QKwE.out.drew.below hb)
       have HQv3:=jJ (bw_call (bw_drew HQwE.out) hb)
       clear hb
       refine hK.out _ _ ?_ (fun hHeld=>?_)
       · exact ⟨(soup_facts KWv3.out.s).1,(soup_facts KWv3.out.s).2.1,(KIv3.out.c),(KKv3.out.c),(QIv3.out.c.c0),(QIv3.out.c.f1),(QIv3.out.c.f2),(QKv3.out.c.c0),(QKv3.out.c.f1),(QKv3.out.c.f2)⟩
       clear hK K
       (try simp only [zQ])
       refine hKk 21 ?_; (try simp only [zQ])
       refine wpAnyH_done (by kernel_rfl) ?_ _
       have HNB:=jJ hnb
       clear hnb
       cases b with
       | false =>
        go_wp2_with fail
        exact ⟨⟨k + 1,O,by omega,by go_num,HJ,KWv3⟩,by simp [intOf]; omega⟩
       | true =>
        have k0:=KKv3.out.c
        have i0':=KIv3.out.c
        have i1:=KWv3.out.r.frozen i
        go_wp2_with fail
        exact ⟨⟨k + 1,O.set i ok,by omega,by go_num,jJ (HUP.out (HNB.out rfl) hlt),jJ (KWv3.out.set HGO.out i ok)⟩,by simp [intOf]; omega⟩
     exact AllReadyH.nil
   go_upto_region 14 with (fail)
   refine wp_region_held_drew (S:=fun w'=>w'.cell? ⟨ga,0,none⟩=some (.int .i64 N) ∧ w'.cell? ⟨ga,1,none⟩=some (.slice (some ad) T.length c) ∧ w'.cell? ⟨go,i,none⟩=some (.int .i64 oi) ∧ w'.cell? ⟨go,k,none⟩=some (.int .i64 ok)) (by kernel_rfl) ⟨(soup_facts KWwE.out.drew.s).1,(soup_facts KWwE.out.drew.s).2.1,(KIwE.out.drew.c),(KKwE.out.drew.c)⟩ (fun hHeld=>?_)
   refine hKk 0 ?_; (try simp only [zQ])
   refine hKk 1 ?_; (try simp only [zQ])
   refine hKk 2 ?_; (try simp only [zQ])
   refine hKk 3 ?_; (try simp only [zQ])
   refine hKk 4 ?_; (try simp only [zQ])
   refine hKk 5 ?_; (try simp only [zQ])
   refine hKk 6 ?_; (try simp only [zQ])
   refine hKk 7 ?_; (try simp only [zQ])
   refine hKk 8 ?_; (try simp only [zQ])
   refine hKk 9 ?_; (try simp only [zQ])
   refine hRk 10 ?_; (try simp only [zQ])
   refine hRk 11 ?_; (try simp only [zQ])
   refine hRk 12 ?_; (try simp only [zQ])
   refine hRk 13 ?_; (try simp only [zQ])
   refine hRk 14 ?_; (try simp only [zQ])
   refine hRk 15 ?_; (try simp only [zQ])
   refine hRk 16 ?_; (try simp only [zQ])
   refine hRk 17 ?_; (try simp only [zQ])
   refine hRk 18 ?_; (try simp only [zQ])
   refine hRk 19 ?_; (try simp only [zQ])
   refine hRk 20 ?_; (try simp only [zQ])
   refine hKk 21 ?_; (try simp only [zQ])
   refine wpAnyH_done (by kernel_rfl) ?_ _
   go_wp2_with fail
   exact ⟨⟨k + 1,O,by omega,by go_num,HJ,jJ KWwE.out.drew⟩,by simp [intOf]; omega⟩
 obtain rfl:r=T.length:=by omega
 go_upto_region 18 with (fail)
 obtain ⟨wF,hwF⟩:=jX (wC.alloc (.cells (intA (List.replicate T.length 0)) 3))
 obtain ⟨gn,hgn⟩:=jX wC.heap.size
 have KWF:Hid (OfW w ga go N A T.length c O wF):=jJ (by rw [hwF]; exact KWs.out.below (bw_alloc (Below.refl _ _) _))
 have KNF:Hid (Blk wF gn 3 (intA (List.replicate T.length 0))):=jJ (by rw [hwF,hgn]; exact Blk.new _ _ _)
 have HNE:Hid (w.heap.size ≤ gn ∧ go ≠ gn):=jJ (by
  rw [hgn]
  exact ⟨KWs.out.b.size,Nat.ne_of_lt KWs.out.r.lt⟩)
 rw [← hwF]
 simp only [← hgn]
 clear hwF hgn KWs
 go_wp2_with fail
 go_loopw [8,9] (fun mv iv wr=>∃ (i many:Nat) (L:List Int),i ≤ T.length ∧ mv=.int .i64 many ∧ iv=.int .i64 i ∧ Hid (NumJ T i many L) ∧ Hid (OfW w ga go N A T.length c O wr) ∧ Hid (Blk wr gn 3 (intA L))) (fun _ iv _=>T.length - (intOf iv).toNat)
 case atStart=>exact ⟨0,0,_,by omega,rfl,rfl,jJ ⟨by simp,fun h=>absurd h (by omega),Nat.le_refl _,fun x hx=>absurd hx (by omega)⟩,KWF,KNF⟩
 obtain ⟨i,many,L,hi,rfl,rfl,HNJ,KWt,KNt⟩:=hrel
 obtain ⟨wG,hwG⟩:=jX (wr:World)
 rw [← hwG] at KWt KNt ⊢
 clear hwG KWF KNF
 by_cases hli:i < T.length
 rotate_left
 · obtain rfl:i=T.length:=by omega
   go_wp2_with fail
   go_ret
   exact ⟨gn,L,rfl,KNt.out,HNJ.out.1,HNJ.out.2.2.2,KWt.out.b⟩
 have hii:(i:Int) < (T.length:Int):=by omega
 obtain ⟨j,hj,hji,hre⟩:=HJ.out.2 i hli
 have HOJ:=jJ hj
 clear hre
 have k0:=(blk_intA KWt.out.r (j:=i) (by rw [HJ.out.1]; exact hli)).c
 rw [hj] at k0
 clear hj
 have hlm:many ≤ i:=HNJ.out.2.2.1
 have k1:=(blk_intA KNt.out (j:=i) (by rw [HNJ.out.1]; exact hli)).c
 have k1f:=KNt.out.frozen i
 have k2:=(blk_intA KNt.out (j:=j) (by rw [HNJ.out.1]; omega)).c
 have hjl:(j:Int) < (T.length:Int):=by omega
 by_cases hje:j=i
 · subst hje
   go_wp2_with fail
   exact ⟨⟨j + 1,many + 1,L.set j (many:Int),by omega,by go_num,by go_num,jJ (HNJ.out.root (O:=O) hli),jJ ⟨KWt.out.s.far (p:=⟨gn,j,none⟩) (KWt.out.s.ne_ KNt.out (by decide)) _,KWt.out.r.far (p:=⟨gn,j,none⟩) HNE.out.2 _,bw_set KWt.out.b (p:=⟨gn,j,none⟩) HNE.out.1 _⟩,jJ (blk_intS KNt.out j (many:Int))⟩,by simp [intOf]; omega⟩
 have hjb:((j:Int) == (i:Int))=false:=by rw [beq_eq_false_iff_ne]; omega
 have HNX:=jJ (HNJ.out.next HJ.out hli HOJ.out hje)
 generalize hX:L.getD j 0=X at *
 go_wp2_with fail
 exact ⟨⟨i + 1,many,L.set i X,by omega,rfl,by go_num,jJ (HNX.out.2),jJ ⟨KWt.out.s.far (p:=⟨gn,i,none⟩) (KWt.out.s.ne_ KNt.out (by decide)) _,KWt.out.r.far (p:=⟨gn,i,none⟩) HNE.out.2 _,bw_set KWt.out.b (p:=⟨gn,i,none⟩) HNE.out.1 _⟩,jJ (blk_intS KNt.out i X)⟩,by simp [intOf]; omega⟩
end
section
theorem inv_even (σ:Nat → Nat):∀ (n:Nat) (l:List Nat),l.length=n → l.Nodup → (∀ x ∈ l,σ x ∈ l ∧ σ (σ x)=x ∧ σ x ≠ x) → n % 2=0
 | 0,_,_,_,_=>rfl
 | 1,[x],_,_,h=>by
  obtain ⟨h1,_,h3⟩:=h x (.head _)
  exact absurd (List.mem_singleton.1 h1) h3
 | n + 2,x :: l,hl,hn,h=>by
  obtain ⟨h1,h2,h3⟩:=h x (.head _)
  obtain ⟨n1,n2⟩:=List.nodup_cons.1 hn
  have hm:σ x ∈ l:=by
   rcases List.mem_cons.1 h1 with e | e
   · exact absurd e h3
   exact e
  have hlen:(l.erase (σ x)).length=n:=by
   rw [List.length_erase_of_mem hm]
   simp at hl
   omega
  have:=inv_even σ n (l.erase (σ x)) hlen (n2.erase _) fun y hy=>by
   obtain ⟨hy1,hy2⟩:=(n2.mem_erase_iff).1 hy
   obtain ⟨g1,g2,g3⟩:=h y (.tail _ hy2)
   refine ⟨(n2.mem_erase_iff).2 ⟨fun e=>?_,?_⟩,g2,g3⟩
   · have:y=x:=by rw [← g2,e,h2]
     exact n1 (this ▸ hy2)
   rcases List.mem_cons.1 g1 with e | e
   · exact absurd (by rw [← g2,e]) hy1
   exact e
  omega
theorem clo_even {m:Nat} {T:List Tri} (hs:SurfE m T) (hcl:ClosedC T):T.length % 2=0:=by
 have:=inv_even (oppC T) (3 * T.length) (List.range (3 * T.length)) (by simp) List.nodup_range fun x hx=>by
  have hx:=List.mem_range.1 hx
  have ho:=opp_clo hcl hx
  obtain ⟨q1,q2,q3,q4,q5⟩:=opp_back hs hx ho
  have:=opp_clo hcl q1
  rw [q3] at this
  injection this with this
  exact ⟨List.mem_range.2 q1,this.symm,fun e=>q4 (by rw [e])⟩
 omega
def SmpPost (w:World) (m:Nat) (T:List Tri) (e:Ending) (w':World):Prop:=∃ b:Bool,e=.returned (.bool b) ∧ (b=true → SphT m T) ∧ Below w.heap.size w w'
attribute [local irreducible] Blk LRow World.alloc World.setCell World.cell? World.frozen? MapV MapI
theorem simple_any (m:Nat) (A:Option Addr) (c:Nat) (T:List Tri) (w:World) (hs:SurfE m T) (hm:m ≤ 10000) (hT:T.length ≤ 1000) (ht:TrisAt w w.heap.size A T.length T) :
  Calls Tryz.prog 6 #[.agg #[.int .i64 (m:Int),.slice A T.length c]] w (SmpPost w m T):=by
 have HT:=jJ ht
 have HS:=jJ hs
 clear ht hs
 obtain ⟨V,hV⟩:=jX (w.alloc (.cells #[.int .i64 (m:Int),.slice A T.length c] 24))
 have GAV:Hid (Blk V w.heap.size 24 #[.int .i64 (m:Int),.slice A T.length c]):=by subst hV; exact jJ (Blk.new _ _ _)
 have HBV:Hid (Below w.heap.size w V):=by subst hV; exact jJ (bw_alloc (Below.refl _ _) _)
 go_enter Tryz.func6,Tryz.ntmps6
 go_upto_region 1 with (fail)
 rw [← hV]
 clear hV
 obtain ⟨ga,hga⟩:=jX w.heap.size
 rw [← hga] at GAV
 simp only [← hga]
 clear hga
 obtain ⟨s0,s1,_,_,_⟩:=soup_facts GAV.out
 go_wp2_with fail
 refine (edges21_any (m:Int) A c T V hT (tris_on HBV.out HT.out)).mono ?_
 rintro e w1 ⟨cl,rfl,hcl,hb⟩
 have GA1:=jJ (blk_call GAV.out hb)
 have HB1:=jJ (bw_call HBV.out hb)
 have HCL:=jJ hcl
 clear hb hcl GAV HBV s0 s1
 obtain ⟨s0,s1,_,_,_⟩:=soup_facts GA1.out
 obtain ⟨e2,he2⟩:=jX (T.length * 3 / 2)
 have HE2:Hid (e2=T.length * 3 / 2):=jJ he2
 have he2l:e2 ≤ 1500:=by omega
 rw [← he2]
 clear he2
 have hw1:IntKind.i64.wrap ((m:Int) - (e2:Int))=(m:Int) - (e2:Int):=IntWalk.i64_in _ (by omega)
 have hw2:IntKind.i64.wrap ((m:Int) - (e2:Int) + (T.length:Int))=(m:Int) - (e2:Int) + (T.length:Int):=IntWalk.i64_in _ (by omega)
 by_cases h0:T.length=0
 · have h0b:((T.length:Int) == 0)=true:=by rw [beq_iff_eq]; omega
   clear h0
   go_wp2_with fail
   go_ret
   exact ⟨false,rfl,(fun h=>by cases h),HB1.out⟩
 have h0b:((T.length:Int) == 0)=false:=by rw [beq_eq_false_iff_ne]; omega
 cases cl with
 | false =>
  go_wp2_with fail
  go_ret
  exact ⟨false,rfl,(fun h=>by cases h),HB1.out⟩
 | true =>
  by_cases hn:(m:Int) - (e2:Int) + (T.length:Int)=2
  rotate_left
  · have hnb:((m:Int) - (e2:Int) + (T.length:Int) != 2)=true:=by simpa using hn
    clear hn
    go_wp2_with fail
    go_ret
    exact ⟨false,rfl,(fun h=>by cases h),HB1.out⟩
  have hnb:((m:Int) - (e2:Int) + (T.length:Int) != 2)=false:=by simpa using hn
  have HSP:Hid (kN T=1 → SphT m T):=jJ fun h1=>by
   have hc:=met_clo HS.out (HCL.out rfl)
   have:=clo_even HS.out hc
   have:=HE2.out
   exact ⟨hc,h1,by omega,by omega⟩
  clear hn
  go_wp2_with fail
  refine (ofr_any m (m:Int) A c T w1 HS.out hT (tris_on HB1.out HT.out)).mono ?_
  rintro e w2 ⟨go,L,rfl,hL,hlen,hz,hb⟩
  have HL2:=jJ hL
  have HZ:=jJ hz
  have HB2:=jJ (bw_call HB1.out hb)
  clear hL hz hb GA1 HB1 s0 s1 h0b hnb hw1 hw2
  go_wp2_with fail
  go_loopw [6] (fun iv wr=>∃ i:Nat,i ≤ T.length ∧ iv=.int .i64 i ∧ Hid (∀ x,x < i → L.getD x 0=0) ∧ wr=w2) (fun iv _=>T.length - (intOf iv).toNat)
  case atStart=>exact ⟨0,by omega,rfl,jJ (fun x hx=>absurd hx (by omega)),rfl⟩
  obtain ⟨i,hi,rfl,HX,hwr⟩:=hrel
  obtain ⟨wB,hwB⟩:=jX (wr:World)
  rw [← hwB] at hwr ⊢
  clear hwB
  subst hwr
  by_cases hlt:i < T.length
  rotate_left
  · obtain rfl:i=T.length:=by omega
    go_wp2_with fail
    go_ret
    exact ⟨true,rfl,(fun _=>HSP.out (kN_one HS.out (by omega) fun x hx=>HZ.out x hx (HX.out x hx))),HB2.out⟩
  have hii:(i:Int) < (T.length:Int):=by omega
  have k0:=(blk_intA HL2.out (j:=i) (by omega)).c
  have HXI:Hid (L.getD i 0=0 → ∀ x,x < i + 1 → L.getD x 0=0):=jJ fun h x hx=>by
   by_cases e:x=i
   · rw [e]; exact h
   exact HX.out x (by omega)
  generalize L.getD i 0=X at *
  by_cases hX:X=0
  · subst hX
    go_wp2_with fail
    exact ⟨⟨i + 1,by omega,by go_num,jJ (HXI.out (by first | trivial | rfl)),by first | rfl | trivial⟩,by simp [intOf]; omega⟩
  have hXb:(X != 0)=true:=by simpa using hX
  clear hX
  go_wp2_with fail
  go_ret
  exact ⟨false,rfl,(fun h=>by cases h),HB2.out⟩
end
end Go.Proofs.YtffmfhkiienmaaaGreat
