/- The document's answer for layer 9: Edge, Has, twice, walked. No condition. -/
import Derived.Test.YtffmfhkiienmaaaGreatIs
import Derived.BigRegion
import Derived.Test.YtffmfhkiienmaaaGreatCornerB
import Derived.Test.YtffmfhkiienmaaaGreatPlB
set_option maxRecDepth 100000
set_option maxHeartbeats 16000000
set_option linter.all false
namespace Go.Proofs.YtffmfhkiienmaaaGreat
open Go.RowKit
section
def r9BoolPost (w:World) (b:Bool) (e:Ending) (w':World):Prop:=e=.returned (.bool b) ∧ Below w.heap.size w w'
theorem beqI (a b:Int):(a == b)=decide (a=b):=by rw [Bool.eq_iff_iff]; simp
theorem ret_bool9 {a b:Bool} (h:a=b):Ending.returned (.bool a)=.returned (.bool b):=by rw [h]
theorem r9has_any (t:Tri) (v:Int) (w:World):Calls Tryz.prog 45 #[.agg #[.int .i64 t.a,.int .i64 t.b,.int .i64 t.c],.int .i64 v] w (r9BoolPost w (hasB t v)):=by
 obtain ⟨a,b,c⟩:=t
 go_enter Tryz.func45,Tryz.ntmps45
 go_wp2_with fail
 all_goals
  go_ret
  refine ⟨ret_bool9 ?_,(Below.refl _ _).alloc (Nat.le_refl _) _⟩
  simp [hasB, *]
theorem r9edge_any (t:Tri) (x y:Int) (w:World):Calls Tryz.prog 96 #[.agg #[.int .i64 t.a,.int .i64 t.b,.int .i64 t.c],.int .i64 x,.int .i64 y] w (r9BoolPost w (edgeB t x y)):=by
 obtain ⟨a,b,c⟩:=t
 go_enter Tryz.func96,Tryz.ntmps96
 go_wp2_with fail
 all_goals
  go_ret
  refine ⟨ret_bool9 ?_,(Below.refl _ _).alloc (Nat.le_refl _) _⟩
  first
  | (simp [edgeB, *]; done)
  | (simp only [edgeB,beqI]; simp [*])
theorem twiceR_any (t u:Tri) (w:World):Calls Tryz.prog 73 #[.agg #[.int .i64 t.a,.int .i64 t.b,.int .i64 t.c],.agg #[.int .i64 u.a,.int .i64 u.b,.int .i64 u.c]] w (r9BoolPost w (twiceB t u)):=by
 have hb0:Below w.heap.size w ((w.alloc (.cells #[.int .i64 t.a,.int .i64 t.b,.int .i64 t.c] 65)).alloc (.cells #[.int .i64 u.a,.int .i64 u.b,.int .i64 u.c] 65)):=((Below.refl _ _).alloc (Nat.le_refl _) _).alloc (by simp) _
 have hx:Blk ((w.alloc (.cells #[.int .i64 t.a,.int .i64 t.b,.int .i64 t.c] 65)).alloc (.cells #[.int .i64 u.a,.int .i64 u.b,.int .i64 u.c] 65)) w.heap.size 65 #[.int .i64 t.a,.int .i64 t.b,.int .i64 t.c]:=(Blk.new _ _ _).alloc _
 have hy:Blk ((w.alloc (.cells #[.int .i64 t.a,.int .i64 t.b,.int .i64 t.c] 65)).alloc (.cells #[.int .i64 u.a,.int .i64 u.b,.int .i64 u.c] 65)) (w.heap.size + 1) 65 #[.int .i64 u.a,.int .i64 u.b,.int .i64 u.c]:=Blk.new_ (by simp) _ _
 have HB0:=jJ hb0
 have HX:=jJ hx
 have HY:=jJ hy
 have HT:Hid (twiceB t u=(edgeB u t.a t.b || edgeB u t.b t.c || edgeB u t.c t.a)):=jJ rfl
 rw [HT.out]
 have h1:=fun w=>r9edge_any u t.a t.b w
 have h2:=fun w=>r9edge_any u t.b t.c w
 have h3:=fun w=>r9edge_any u t.c t.a w
 clear hb0 hx hy HT
 obtain ⟨ta,tb,tc⟩:=t
 obtain ⟨ua,ub,uc⟩:=u
 simp only at h1 h2 h3 HX HY HB0 ⊢
 generalize edgeB ⟨ua,ub,uc⟩ ta tb=q1 at h1 ⊢
 generalize edgeB ⟨ua,ub,uc⟩ tb tc=q2 at h2 ⊢
 generalize edgeB ⟨ua,ub,uc⟩ tc ta=q3 at h3 ⊢
 have H1:=jJ h1
 have H2:=jJ h2
 have H3:=jJ h3
 clear h1 h2 h3
 go_enter Tryz.func73,Tryz.ntmps73
 go_wp2_with fail
 refine (H1.out _).mono ?_
 rintro e w1 ⟨rfl,hb⟩
 have HX1:=jJ (HX.out.below hb HX.out.lt)
 have HY1:=jJ (HY.out.below hb HY.out.lt)
 have HB1:=jJ (HB0.out.trans (hb.mono HB0.out.size))
 clear hb HX HY HB0
 have c0:=HX1.out.cell 0
 have c1:=HX1.out.cell 1
 have c2:=HX1.out.cell 2
 have d0:=HY1.out.cell 0
 have d1:=HY1.out.cell 1
 have d2:=HY1.out.cell 2
 simp at c0 c1 c2 d0 d1 d2
 cases q1 with
 | true =>
  go_wp2_with fail
  go_ret
  exact ⟨rfl,HB1.out⟩
 | false =>
  go_wp2_with fail
  refine (H2.out _).mono ?_
  rintro e w2 ⟨rfl,hb⟩
  have HX2:=jJ (HX1.out.below hb HX1.out.lt)
  have HY2:=jJ (HY1.out.below hb HY1.out.lt)
  have HB2:=jJ (HB1.out.trans (hb.mono HB1.out.size))
  clear hb HX1 HY1 HB1 c0 c1 c2 d0 d1 d2
  have c0:=HX2.out.cell 0
  have c1:=HX2.out.cell 1
  have c2:=HX2.out.cell 2
  have d0:=HY2.out.cell 0
  have d1:=HY2.out.cell 1
  have d2:=HY2.out.cell 2
  simp at c0 c1 c2 d0 d1 d2
  cases q2 with
  | true =>
   go_wp2_with fail
   go_ret
   exact ⟨rfl,HB2.out⟩
  | false =>
   go_wp2_with fail
   refine (H3.out _).mono ?_
   rintro e w3 ⟨rfl,hb⟩
   have HB3:=jJ (HB2.out.trans (hb.mono HB2.out.size))
   clear hb
   go_wp2_with fail
   go_ret
   exact ⟨by simp,HB3.out⟩
end
section
theorem rwit_info:(Tryz.prog.info? 103).map (fun i=>(i.zero,i.size,i.bytes))=some (some (.agg #[.int .i64 0,.int .i64 0,.int .i64 0]),3,24):=by kernel_rfl
def RRow (w:World) (B:Nat) (A:Option Addr) (c:Nat) (L:List (Int × Int × Int)):Prop:=w.ownsRow B 103 3 (.slice A L.length c) L.length (L.flatMap w3)
def RPost (w:World) (L:List (Int × Int × Int)) (e:Ending) (w':World):Prop:=∃ A c,e=.returned (.slice A L.length c) ∧ RRow w' w.heap.size A c L ∧ Below w.heap.size w w'
def RRel (w wr:World) (L:List (Int × Int × Int)) (v:Value):Prop:=∃ A c,v=.slice A L.length c ∧ Hid (RRow wr w.heap.size A c L) ∧ Hid (Below w.heap.size w wr)
theorem RRel.start0 (w:World):RRel w w [] (.slice none 0 0):=⟨none,0,rfl,jJ (World.ownsRow_nil _ _ _ _),jJ (Below.refl _ _)⟩
theorem RRel.keep {w wr w':World} {L:List (Int × Int × Int)} {v:Value} (h:RRel w wr L v) (hb:Below wr.heap.size wr w'):RRel w w' L v:=by
 obtain ⟨A,c,e,h1,h2⟩:=h
 exact ⟨A,c,e,jJ (own_same h1.out fun k hk=>hb.block k (h1.out.lt k hk).2),jJ (h2.out.trans (hb.mono h2.out.size))⟩
theorem RRel.grow {w wr wx w1:World} {L:List (Int × Int × Int)} {x:Int × Int × Int} {A A1:Option Addr} {c c1:Nat} (hO:Hid (RRow wr w.heap.size A c L)) (hB:Hid (Below w.heap.size w wr)) (hx:Below wr.heap.size wr wx)
  (h1:w1.ownsRow w.heap.size 103 3 (.slice A1 (L.length + 1) c1) (L.length + 1) (L.flatMap w3 ++ w3 x)) (hg:wx.grownBy w1 (Value.slice A L.length c).ownBlock):RRel w w1 (L ++ [x]) (.slice A1 (L.length + 1) c1):=by
 refine ⟨A1,c1,by simp,jJ ?_,jJ ?_⟩
 · unfold RRow
   rw [w3_snoc]
   simpa using h1
 exact (hB.out.trans (hx.mono hB.out.size)).grown hg (Nat.le_trans hB.out.size hx.size) fun k hk=>(hO.out.lt k hk).1
theorem rwit_new (w W:World) (hb:Below w.heap.size w W) (x:Int × Int × Int) {g:Nat} (hg:W.heap.size=g) :
  RRow (W.alloc (.cells #[.int .i64 x.1,.int .i64 x.2.1,.int .i64 x.2.2] 103)) w.heap.size (some ⟨g,0,none⟩) 1 [x]:=by
 subst hg
 exact ⟨rfl,.inr ⟨W.heap.size,1,_,rfl,hb.size,heap_alloc_new _ _,Nat.le_refl _,by decide,rfl,rfl⟩⟩
theorem r9below_drewN {B:Nat} {a w:World} (h:Below B a w) (n:Nat):Below B a (w.drewN n):=⟨h.os,h.tape,h.output,h.size,h.block⟩
theorem cells3_at {w:World} {q:Addr} {t:Tri} (h:Cells3 w q (.int .i64 t.a) (.int .i64 t.b) (.int .i64 t.c)) {k:Nat} (hk:k < 3):∃ x,(verts t)[k]?=some x ∧ w.cell? (q.add k)=some (.int .i64 x):=by
 rcases (by omega:k=0 ∨ k=1 ∨ k=2) with rfl | rfl | rfl
 · exact ⟨t.a,rfl,by rw [add_zero_]; exact h.c0⟩
 · exact ⟨t.b,rfl,h.c1⟩
 exact ⟨t.c,rfl,h.c2⟩
theorem rindex_any (N:Int) (A:Option Addr) (n c:Nat) (T:List Tri) (w:World) (hn:n ≤ 10000) (ht:TrisAt w w.heap.size A n T) :
  Calls Tryz.prog 43 #[.agg #[.int .i64 N,.slice A n c]] w (RPost w (indexL N n T)):=by
 obtain ⟨i0,hi0,hz0,hz1,hz2⟩:=info_parts rwit_info
 have HT:=jJ ht
 clear ht
 by_cases hs:N < 0 ∨ 4096 < N ∨ 8192 < n
 · have HL:Hid (indexL N n T=[(1,-1,0)]):=by
    refine jJ ?_
    unfold indexL
    rw [if_pos]
    unfold sizeB
    simp only [Bool.or_eq_true,decide_eq_true_eq]
    omega
   rw [HL.out]
   have hs':N < 0 ∨ 4096 < N ∨ (8192:Int) < n:=by omega
   clear hs
   go_enter Tryz.func43,Tryz.ntmps43
   go_wp2_with fail
   all_goals first
    | (exfalso; omega)
    | (go_ret
       refine ⟨_,_,rfl,?_,((Below.refl _ _).alloc (Nat.le_refl _) _).alloc (by simp) _⟩
       exact rwit_new w _ ((Below.refl _ _).alloc (Nat.le_refl _) _) (1,-1,0) (by simp))
 · have h1:0 ≤ N:=by omega
   have h2:N ≤ 4096:=by omega
   have h3:(n:Int) ≤ 8192:=by omega
   have HL:Hid (indexL N n T=picks 1 (indexB N T) n):=by
    refine jJ ?_
    unfold indexL
    rw [if_neg]
    unfold sizeB
    simp only [Bool.or_eq_true,decide_eq_true_eq]
    omega
   rw [HL.out]
   clear hs HL
   go_enter Tryz.func43,Tryz.ntmps43
   go_wp2_with fail
   obtain ⟨W,hW⟩:=jX (w.alloc (.cells #[.int .i64 N,.slice A n c] 24))
   have HX:Hid (Blk W w.heap.size 24 #[.int .i64 N,.slice A n c]):=by subst hW; exact jJ (Blk.new _ _ _)
   have HW:Hid (Below w.heap.size w W):=by subst hW; exact jJ ((Below.refl _ _).alloc (Nat.le_refl _) _)
   have hws:w.heap.size < W.heap.size:=HX.out.lt
   rw [← hW]
   clear hW
   go_loopw [3,4] (fun lv iv wr=>∃ k:Nat,k ≤ n ∧ iv=.int .i64 k ∧ RRel W wr (picks 1 (indexB N T) k) lv) (fun _ iv _=>n - (intOf iv).toNat)
   case atStart=>exact ⟨0,by omega,rfl,RRel.start0 _⟩
   obtain ⟨k,hk,rfl,A',c',rfl,HO,HB⟩:=hrel
   have b0:=(HX.out.below HB.out hws).cell 0
   have b1:=(HX.out.below HB.out hws).cell 1
   simp at b0 b1
   by_cases hlt:k < n
   · obtain ⟨ad,t,rfl,htk,_,hadb,hc3⟩:=((HT.out.below HW.out).below (HB.out.mono (Nat.le_of_lt hws))).at_ hlt
     have HC3:=jJ hc3
     have HP:=jJ (picks_succ 1 (indexB N T) k)
     have HLB:Hid (indexB N T k=(verts t).any (badV N)):=jJ (by unfold indexB; rw [htk]; simp [verts,Bool.or_assoc])
     have hsz:=HB.out.size
     have hpl:=picks_len 1 (indexB N T) k
     clear htk hc3
     go_wp2_with fail
     obtain ⟨wB,rfl⟩:=jX (wr:World)
     go_loopw [5,6] (fun bv jv wq=>∃ j q:Nat,j ≤ 3 ∧ jv=.int .i64 j ∧ bv=.bool (((verts t).take j).any (badV N)) ∧ wq=wB.drewN q) (fun _ jv _=>3 - (intOf jv).toNat)
     case atStart=>exact ⟨0,0,by omega,rfl,rfl,rfl⟩
     obtain ⟨j,q,hj,rfl,rfl,rfl⟩:=hrel
     by_cases hjt:j < 3
     · obtain ⟨x,hx,hcx⟩:=cells3_at HC3.out hjt
       have HS:Hid (((verts t).take (j + 1)).any (badV N)=(((verts t).take j).any (badV N) || badV N x)):=jJ (by rw [take_snoc_ _ _ hx,List.any_append]; simp)
       generalize ((verts t).take j).any (badV N)=bj at *
       have hjd:decide ((j:Int) < 3)=true:=decide_eq_true (by omega)
       have hj1:(0:Int) ≤ (j:Int):=by omega
       have hj2:(j:Int) < 3:=by omega
       clear hx
       cases bj with
       | true =>
        go_wp2_with fail
        go_quiet (fail)
        go_wp2_with fail
        exact ⟨⟨j + 1,_,by omega,by go_num,by rw [HS.out]; rfl,rfl⟩,by simp [intOf]; omega⟩
       | false =>
        by_cases hx0:x < 0
        · have HX0:Hid (badV N x=true):=jJ (by unfold badV; simp [hx0])
          have hd:decide (x < 0)=true:=decide_eq_true hx0
          go_wp2_with fail
          go_quiet (fail)
          go_wp2_with fail
          exact ⟨⟨j + 1,_,by omega,by go_num,by rw [HS.out,HX0.out]; first | rfl | simp [hx0],rfl⟩,by simp [intOf]; omega⟩
        have hd:decide (x < 0)=false:=decide_eq_false hx0
        by_cases hxN:N ≤ x
        · have HX0:Hid (badV N x=true):=jJ (by unfold badV; simp [hxN])
          have hd2:decide (N ≤ x)=true:=decide_eq_true hxN
          go_wp2_with fail
          go_quiet (fail)
          go_wp2_with fail
          exact ⟨⟨j + 1,_,by omega,by go_num,by rw [HS.out,HX0.out]; first | rfl | simp [hxN],rfl⟩,by simp [intOf]; omega⟩
        have HX0:Hid (badV N x=false):=jJ (by unfold badV; simp; omega)
        have hd2:decide (N ≤ x)=false:=decide_eq_false hxN
        go_wp2_with fail
        go_quiet (fail)
        go_wp2_with fail
        exact ⟨⟨j + 1,_,by omega,by go_num,by rw [HS.out,HX0.out]; first | rfl | simp [hxN],rfl⟩,by simp [intOf]; omega⟩
     obtain rfl:j=3:=by omega
     have e3:(verts t).take 3=verts t:=rfl
     rw [e3]
     have HP2:=HP
     rw [HLB.out] at HP2
     generalize (verts t).any (badV N)=bb at *
     have HO2:Hid ((wB.drewN q).ownsRow W.heap.size 103 3 (.slice A' (picks 1 (indexB N T) k).length c') (picks 1 (indexB N T) k).length ((picks 1 (indexB N T) k).flatMap w3)):=jJ HO.out
     have HBD:=jJ (r9below_drewN (Below.refl wB.heap.size wB) q)
     cases bb with
     | true =>
      go_wp2_with (at_builtin; go_must (refine wpList_append_sl _ rfl (.tmp 58) (.tmp 61) _ rfl W.heap.size 103 i0 _ 3 24 Tryz.underlying60 hi0 hz0 hz1 hz2 rfl (by omega) (.slice A' (picks 1 (indexB N T) k).length c') _ _ rfl ((HO2.out).alloc _) (wB.heap.size + 1) (some ⟨wB.heap.size,0,none⟩) 1 1 (w3 (1,(k:Int),0)) rfl (reads_newN _ _ _ 1 3 rfl rfl) (by simp [w3,Value.oneCell']) (by simp only [maxLen]; omega) (by omega) (by simp; omega) ?_); intro A1 c1 w1 hown1 hg1 hat1)
      refine ⟨⟨k + 1,by omega,by go_num,?_⟩,by simp [intOf]; omega⟩
      rw [HP2.out,if_pos rfl]
      exact RRel.grow HO HB (HBD.out.alloc HBD.out.size _) hown1 hg1
     | false =>
      go_wp2_with fail
      refine ⟨⟨k + 1,by omega,by go_num,?_⟩,by simp [intOf]; omega⟩
      rw [HP2.out,if_neg (by decide)]
      exact RRel.keep ⟨A',c',rfl,HO,HB⟩ HBD.out
   obtain rfl:k=n:=by omega
   go_wp2_with fail
   go_ret
   exact ⟨A',c',rfl,own_mono HO.out (Nat.le_of_lt hws),HW.out.trans (HB.out.mono (Nat.le_of_lt hws))⟩
end
section
def rowD (test:Tri → Tri → Bool) (T:List Tri) (b a:Nat):List (Int × Int):=((List.range a).filter fun i=>test (tri T i) (tri T b)).map fun i:Nat=>((i:Int),(b:Int))
theorem rowD_succ (test:Tri → Tri → Bool) (T:List Tri) (b a:Nat):rowD test T b (a + 1)=if test (tri T a) (tri T b) then rowD test T b a ++ [((a:Int),(b:Int))] else rowD test T b a:=by
 unfold rowD
 rw [List.range_succ,List.filter_append,List.map_append]
 by_cases h:test (tri T a) (tri T b) <;> simp [h]
theorem rowD_len (test:Tri → Tri → Bool) (T:List Tri) (b a:Nat):(rowD test T b a).length ≤ a:=by
 unfold rowD
 rw [List.length_map]
 exact Nat.le_trans (List.length_filter_le _ _) (by simp)
theorem refD_succ (test:Tri → Tri → Bool) (T:List Tri) (b:Nat):refD test T (b + 1)=refD test T b ++ rowD test T b b:=by
 unfold refD
 rw [List.range_succ,List.flatMap_append]
 simp [rowD]
theorem refD_len (test:Tri → Tri → Bool) (T:List Tri):∀ b,b ≤ 1000 → (refD test T b).length ≤ b * 1000
 | 0,_=>by simp [refD]
 | b + 1,h=>by
  rw [refD_succ,List.length_append]
  have:=refD_len test T b (by omega)
  have:=rowD_len test T b b
  omega
def rowW (kind:Int) (test:Tri → Tri → Bool) (T:List Tri) (b a:Nat):List (Int × Int × Int):=(refD test T b ++ rowD test T b a).map (wit kind)
theorem rowW_zero (kind:Int) (test:Tri → Tri → Bool) (T:List Tri) (b:Nat):rowW kind test T b 0=refW kind test T b:=by simp [rowW,rowD,refW]
theorem rowW_end (kind:Int) (test:Tri → Tri → Bool) (T:List Tri) (b:Nat):rowW kind test T b b=refW kind test T (b + 1):=by rw [rowW,refW,refD_succ]
theorem rowW_succ (kind:Int) (test:Tri → Tri → Bool) (T:List Tri) (b a:Nat):rowW kind test T b (a + 1)=if test (tri T a) (tri T b) then rowW kind test T b a ++ [(kind,(a:Int),(b:Int))] else rowW kind test T b a:=by
 unfold rowW
 rw [rowD_succ]
 split
 · simp [wit]
 rfl
theorem rowW_len (kind:Int) (test:Tri → Tri → Bool) (T:List Tri) {b a:Nat} (hb:b ≤ 1000) (ha:a ≤ 1000):(rowW kind test T b a).length ≤ 2000000:=by
 unfold rowW
 rw [List.length_map,List.length_append]
 have:=refD_len test T b hb
 have:=rowD_len test T b a
 omega
theorem blk_drew {w:World} {i t:Nat} {cs:Array Value} (h:Blk w i t cs):Blk w.drew i t cs:=h
theorem r9below_drew {B:Nat} {a w:World} (h:Below B a w):Below B a w.drew:=r9below_drewN h 1
theorem rpairs_any (kind:Int) (test:Tri → Tri → Bool) (hkt:(kind=3 ∧ test=twiceB) ∨ (kind=4 ∧ test=mirrB)) (N:Int) (A:Option Addr) (n c:Nat) (T:List Tri) (w:World) (hn:n ≤ 1000) (ht:TrisAt w w.heap.size A n T) :
  Calls Tryz.prog 44 #[.agg #[.int .i64 N,.slice A n c],.int .i64 kind] w (RPost w (refW kind test T n)):=by
 obtain ⟨i0,hi0,hz0,hz1,hz2⟩:=info_parts rwit_info
 have HT:=jJ ht
 clear ht
 go_enter Tryz.func44,Tryz.ntmps44
 go_wp2_with fail
 obtain ⟨W,hW⟩:=jX (w.alloc (.cells #[.int .i64 N,.slice A n c] 24))
 have HX:Hid (Blk W w.heap.size 24 #[.int .i64 N,.slice A n c]):=by subst hW; exact jJ (Blk.new _ _ _)
 have HW:Hid (Below w.heap.size w W):=by subst hW; exact jJ ((Below.refl _ _).alloc (Nat.le_refl _) _)
 have hws:w.heap.size < W.heap.size:=HX.out.lt
 rw [← hW]
 clear hW
 go_loopw [5,6] (fun lv iv wr=>∃ k:Nat,k ≤ n ∧ iv=.int .i64 k ∧ RRel W wr (refW kind test T k) lv) (fun _ iv _=>n - (intOf iv).toNat)
 case atStart=>exact ⟨0,by omega,rfl,RRel.start0 _⟩
 obtain ⟨k,hk,rfl,A',c',rfl,HO,HB⟩:=hrel
 have b1:=(HX.out.below HB.out hws).cell 1
 simp at b1
 by_cases hlt:k < n
 · obtain ⟨ad,u,rfl,htk,_,hadb,hu3⟩:=((HT.out.below HW.out).below (HB.out.mono (Nat.le_of_lt hws))).at_ hlt
   have HU:Hid (tri T k=u):=jJ (by unfold tri; simp [List.getD,htk])
   have HTK:=jJ htk
   clear htk
   go_wp2_with fail
   obtain ⟨wB,hwB⟩:=jX (wr:World)
   rw [← hwB] at HO HB b1 hu3 ⊢
   clear hwB
   go_loopw [5,7] (fun lv jv wq=>∃ j:Nat,j ≤ k ∧ jv=.int .i64 j ∧ RRel W wq (rowW kind test T k j) lv) (fun _ jv _=>k - (intOf jv).toNat)
   case atStart=>exact ⟨0,by omega,rfl,⟨A',c',by rw [rowW_zero],by rw [rowW_zero]; exact HO,HB⟩⟩
   obtain ⟨j,hj,rfl,⟨A2,c2,rfl,HO2,HB2⟩⟩:=hrel
   by_cases hlt2:j < k
   · obtain ⟨ad',t,e',htj,_,_,ht3⟩:=((HT.out.below HW.out).below (HB2.out.mono (Nat.le_of_lt hws))).at_ (show j < n by omega)
     cases e'
     have HTT:Hid (tri T j=t):=jJ (by unfold tri; simp [List.getD,htj])
     have HT3:=jJ ht3
     obtain ⟨ad2,u2,e',htk,_,_,hu4⟩:=((HT.out.below HW.out).below (HB2.out.mono (Nat.le_of_lt hws))).at_ (show k < n by omega)
     cases e'
     rw [HTK.out] at htk
     cases htk
     have HU4:=jJ hu4
     clear hu4
     have d1:=(HX.out.below HB2.out hws).cell 1
     simp at d1
     have c0:=HT3.out.c0
     have c1:=HT3.out.c1
     have c2:=HT3.out.c2
     have g0:=HT3.out.f0
     have g1:=HT3.out.f1
     have g2:=HT3.out.f2
     have u0:=HU4.out.c0
     have u1:=HU4.out.c1
     have u2:=HU4.out.c2
     have v0:=HU4.out.f0
     have v1:=HU4.out.f1
     have v2:=HU4.out.f2
     clear htj ht3
     have hj0:(0:Int) ≤ (j:Int):=by omega
     have hjn:(j:Int) < (n:Int):=by omega
     have hk0:(0:Int) ≤ (k:Int):=by omega
     have hkn:(k:Int) < (n:Int):=by omega
     have hs1:w.heap.size < wr.heap.size:=Nat.lt_of_lt_of_le hws HB2.out.size
     have hs2:w.heap.size < wr.heap.size + 1:=by omega
     have hk1:(ad.add (k * 3)).block < wr.heap.size:=by rw [block_of_add]; omega
     have hk2:(ad.add (k * 3)).block < wr.heap.size + 1:=by omega
     have hj1:(ad.add (j * 3)).block < wr.heap.size:=by rw [block_of_add]; omega
     have hj2:(ad.add (j * 3)).block < wr.heap.size + 1:=by omega
     go_wp2_with fail
     go_cut [8,9] (fun pv qv wx=>∃ p q:Nat,pv=.pointer (some ⟨p,0,none⟩) ∧ qv=.pointer (some ⟨q,0,none⟩) ∧ Hid (Blk wx p 65 #[.int .i64 t.a,.int .i64 t.b,.int .i64 t.c]) ∧ Hid (Blk wx q 65 #[.int .i64 u.a,.int .i64 u.b,.int .i64 u.c]) ∧ Hid (Below wr.heap.size wr wx))
     case first =>
      go_region
      all_goals go_wp2_with fail
      all_goals go_meet
      all_goals first
       | exact ⟨_,_,rfl,rfl,jJ (blk_drew ((Blk.new _ _ _).alloc _)),jJ (blk_drew (Blk.new_ (by simp) _ _)),jJ (r9below_drew (((Below.refl _ _).alloc (Nat.le_refl _) _).alloc (by simp) _))⟩
       | exact ⟨_,_,rfl,rfl,jJ (blk_drew (Blk.new_ (by simp) _ _)),jJ (blk_drew ((Blk.new _ _ _).alloc _)),jJ (r9below_drew (((Below.refl _ _).alloc (Nat.le_refl _) _).alloc (by simp) _))⟩
     case rest =>
      obtain ⟨p,q,rfl,rfl,HP,HQ,HBX⟩:=hcut
      obtain ⟨wx,hwx⟩:=jX (wc:World)
      rw [← hwx] at HP HQ HBX ⊢
      clear hwx
      clear c0 c1 c2 g0 g1 g2 u0 u1 u2 v0 v1 v2 d1
      have HBW:Hid (Below W.heap.size W wx):=jJ (HB2.out.trans (HBX.out.mono HB2.out.size))
      go_upto_region 9 with (fail)
      go_cut [60] (fun bv wy=>bv=.bool (test t u) ∧ Hid (Below wx.heap.size wx wy))
      case first =>
       have x0:=HP.out.cell 0
       have x1:=HP.out.cell 1
       have x2:=HP.out.cell 2
       have y0:=HQ.out.cell 0
       have y1:=HQ.out.cell 1
       have y2:=HQ.out.cell 2
       simp at x0 x1 x2 y0 y1 y2
       rcases hkt with ⟨rfl,rfl⟩ | ⟨rfl,rfl⟩
       · have H1:=jJ fun w=>twiceR_any t u w
         generalize twiceB t u=b1 at *
         go_wp2_with fail
         refine (H1.out _).mono ?_
         rintro e w1 ⟨rfl,hb⟩
         have HB1:=jJ hb
         clear hb
         cases b1 with
         | true =>
          go_wp2_with fail
          go_meet
          exact ⟨rfl,HB1⟩
         | false =>
          go_wp2_with fail
          go_meet
          exact ⟨rfl,HB1⟩
       have HM:Hid (mirrB t u=(hasB u t.a && hasB u t.b && hasB u t.c)):=jJ rfl
       have H1:=jJ fun w=>r9has_any u t.a w
       have H2:=jJ fun w=>r9has_any u t.b w
       have H3:=jJ fun w=>r9has_any u t.c w
       generalize hasB u t.a=b1 at H1 HM
       generalize hasB u t.b=b2 at H2 HM
       generalize hasB u t.c=b3 at H3 HM
       go_wp2_with fail
       refine (H1.out _).mono ?_
       rintro e w1 ⟨rfl,hb⟩
       have HB1:=jJ hb
       have HP1:=jJ (HP.out.below hb HP.out.lt)
       have HQ1:=jJ (HQ.out.below hb HQ.out.lt)
       clear hb x0 x1 x2 y0 y1 y2
       cases b1 with
       | false =>
        go_wp2_with fail
        go_meet
        exact ⟨by rw [HM.out]; rfl,HB1⟩
       | true =>
        have x0:=HP1.out.cell 0
        have x1:=HP1.out.cell 1
        have x2:=HP1.out.cell 2
        have y0:=HQ1.out.cell 0
        have y1:=HQ1.out.cell 1
        have y2:=HQ1.out.cell 2
        simp at x0 x1 x2 y0 y1 y2
        go_wp2_with fail
        refine (H2.out _).mono ?_
        rintro e w2 ⟨rfl,hb⟩
        have HB2':=jJ (HB1.out.trans (hb.mono HB1.out.size))
        have HP2:=jJ (HP1.out.below hb HP1.out.lt)
        have HQ2:=jJ (HQ1.out.below hb HQ1.out.lt)
        clear hb x0 x1 x2 y0 y1 y2
        cases b2 with
        | false =>
         go_wp2_with fail
         go_meet
         exact ⟨by rw [HM.out]; rfl,HB2'⟩
        | true =>
         have x0:=HP2.out.cell 0
         have x1:=HP2.out.cell 1
         have x2:=HP2.out.cell 2
         have y0:=HQ2.out.cell 0
         have y1:=HQ2.out.cell 1
         have y2:=HQ2.out.cell 2
         simp at x0 x1 x2 y0 y1 y2
         go_wp2_with fail
         refine (H3.out _).mono ?_
         rintro e w3 ⟨rfl,hb⟩
         have HB3:=jJ (HB2'.out.trans (hb.mono HB2'.out.size))
         clear hb
         go_wp2_with fail
         go_meet
         exact ⟨by rw [HM.out]; simp,HB3⟩
      case rest =>
       obtain ⟨rfl,HBY⟩:=hcut
       have HS:=jJ (rowW_succ kind test T k j)
       rw [HTT.out,HU.out] at HS
       have hlen:=rowW_len kind test T (b:=k) (a:=j) (by omega) (by omega)
       have HB3:Hid (Below wr.heap.size wr wc):=jJ (HBX.out.trans (HBY.out.mono HBX.out.size))
       have HO3:Hid (RRow wc W.heap.size A2 c2 (rowW kind test T k j)):=jJ (own_same HO2.out fun i hi=>HB3.out.block i (HO2.out.lt i hi).2)
       obtain ⟨wy,hwy⟩:=jX (wc:World)
       rw [← hwy] at HB3 HO3 HBY ⊢
       clear hwy
       have hsz:W.heap.size ≤ wy.heap.size:=Nat.le_trans HB2.out.size HB3.out.size
       generalize test t u=bt at *
       cases bt with
       | true =>
        go_wp2_with (at_builtin; go_must (refine wpList_append_sl _ rfl (.tmp 61) (.tmp 66) _ rfl W.heap.size 103 i0 _ 3 24 Tryz.underlying60 hi0 hz0 hz1 hz2 rfl (by omega) (.slice A2 (rowW kind test T k j).length c2) _ _ rfl ((show wy.ownsRow W.heap.size 103 3 (.slice A2 (rowW kind test T k j).length c2) (rowW kind test T k j).length ((rowW kind test T k j).flatMap w3) from HO3.out).alloc _) (wy.heap.size + 1) (some ⟨wy.heap.size,0,none⟩) 1 1 (w3 (kind,(j:Int),(k:Int))) rfl (reads_newN _ _ _ 1 3 rfl rfl) (by simp [w3,Value.oneCell']) (by simp only [maxLen]; omega) (by omega) (by simp; omega) ?_); intro A1 c1 w1 hown1 hg1 hat1)
        refine ⟨⟨j + 1,by omega,by go_num,?_⟩,by simp [intOf]; omega⟩
        rw [HS.out,if_pos rfl]
        exact RRel.grow HO2 HB2 (HB3.out.alloc HB3.out.size _) hown1 hg1
       | false =>
        go_wp2_with fail
        refine ⟨⟨j + 1,by omega,by go_num,?_⟩,by simp [intOf]; omega⟩
        rw [HS.out,if_neg (by decide)]
        exact RRel.keep ⟨A2,c2,rfl,HO2,HB2⟩ HB3.out
   obtain rfl:j=k:=by omega
   go_wp2_with fail
   refine ⟨⟨j + 1,by omega,by go_num,?_⟩,by simp [intOf]; omega⟩
   rw [← rowW_end]
   exact ⟨A2,c2,rfl,HO2,HB2⟩
 obtain rfl:k=n:=by omega
 go_wp2_with fail
 go_ret
 exact ⟨A',c',rfl,own_mono HO.out (Nat.le_of_lt hws),HW.out.trans (HB.out.mono (Nat.le_of_lt hws))⟩
end
section
theorem r9ltri_info:(Tryz.prog.info? 65).map (fun i=>(i.zero,i.size,i.bytes))=some (some (.agg #[.int .i64 0,.int .i64 0,.int .i64 0]),3,24):=by kernel_rfl
def r9LRow (w:World) (B:Nat) (A:Option Addr) (c:Nat) (L:List Tri):Prop:=w.ownsRow B 65 3 (.slice A L.length c) L.length (L.flatMap Tri.cells)
def r9LRel (w wr:World) (L:List Tri) (v:Value):Prop:=∃ A c,v=.slice A L.length c ∧ Hid (r9LRow wr w.heap.size A c L) ∧ Hid (Below w.heap.size w wr)
theorem r9LRel.start0 (w:World):r9LRel w w [] (.slice none 0 0):=⟨none,0,rfl,jJ (World.ownsRow_nil _ _ _ _),jJ (Below.refl _ _)⟩
theorem r9LRel.keep {w wr w':World} {L:List Tri} {v:Value} (h:r9LRel w wr L v) (hb:Below wr.heap.size wr w'):r9LRel w w' L v:=by
 obtain ⟨A,c,e,h1,h2⟩:=h
 exact ⟨A,c,e,jJ (own_same h1.out fun k hk=>hb.block k (h1.out.lt k hk).2),jJ (h2.out.trans (hb.mono h2.out.size))⟩
theorem r9LRel.grow {w wr wx w1:World} {L:List Tri} {x:Tri} {A A1:Option Addr} {c c1:Nat} (hO:Hid (r9LRow wr w.heap.size A c L)) (hB:Hid (Below w.heap.size w wr)) (hx:Below wr.heap.size wr wx)
  (h1:w1.ownsRow w.heap.size 65 3 (.slice A1 (L.length + 1) c1) (L.length + 1) (L.flatMap Tri.cells ++ Tri.cells x)) (hg:wx.grownBy w1 (Value.slice A L.length c).ownBlock):r9LRel w w1 (L ++ [x]) (.slice A1 (L.length + 1) c1):=by
 refine ⟨A1,c1,by simp,jJ ?_,jJ ?_⟩
 · unfold r9LRow
   rw [List.flatMap_append]
   simpa using h1
 exact (hB.out.trans (hx.mono hB.out.size)).grown hg (Nat.le_trans hB.out.size hx.size) fun k hk=>(hO.out.lt k hk).1
def atT (T:List Tri) (k:Nat) (v:Int):List Tri:=(atL T k v).map (tri T)
theorem atT_succ (T:List Tri) (k:Nat) (v:Int):atT T (k + 1) v=if hasB (tri T k) v then atT T k v ++ [tri T k] else atT T k v:=by
 unfold atT atL
 rw [List.range_succ,List.filter_append,List.map_append]
 have e:decide (v ∈ verts (tri T k))=hasB (tri T k) v:=by rw [Bool.eq_iff_iff,hasB_iff,decide_eq_true_eq]
 by_cases h:hasB (tri T k) v <;> simp [List.filter,e,h]
theorem atT_len (T:List Tri) (k:Nat) (v:Int):(atT T k v).length ≤ k:=by
 unfold atT atL
 rw [List.length_map]
 exact Nat.le_trans (List.length_filter_le _ _) (by simp)
def sh9T (L:List Tri) (v:Int) (i k:Nat):Bool:=(verts (tri L i)).any fun w=>w != v && hasB (tri L k) w
theorem r9foldB_congr {sh sh':Nat → Nat → Bool} {m:Nat} (h:∀ i k,i < m → k < m → sh i k=sh' i k):∀ (l:List (Nat × Nat)) (p:Nat → Bool),(∀ x ∈ l,x.1 < m ∧ x.2 < m) → l.foldl (stepB sh) p=l.foldl (stepB sh') p
 | [],p,_=>rfl
 | x :: l,p,hl=>by
  have hx:=hl x (List.mem_cons_self ..)
  rw [List.foldl_cons,List.foldl_cons,r9foldB_congr h l _ fun y hy=>hl y (List.mem_cons_of_mem _ hy)]
  congr 1
  unfold stepB
  rw [h x.1 x.2 hx.1 hx.2]
theorem r9passesB_congr {sh sh':Nat → Nat → Bool} {m:Nat} (h:∀ i k,i < m → k < m → sh i k=sh' i k):∀ c,passesB sh m c=passesB sh' m c
 | 0=>rfl
 | c + 1=>by
  unfold passesB passB
  rw [r9passesB_congr h c]
  exact r9foldB_congr h _ _ fun x hx=>pairsB_mem.1 hx
theorem pinchedB_T (T:List Tri) (n v:Nat):pinchedB T n v=(!(atT T n v).isEmpty && !(List.range (atT T n v).length).all (passesB (sh9T (atT T n v) v) (atT T n v).length (atT T n v).length)):=by
 have hl:(atT T n (v:Int)).length=(atL T n (v:Int)).length:=by simp [atT]
 have he:(atT T n (v:Int)).isEmpty=(atL T n (v:Int)).isEmpty:=by simp [atT]
 unfold pinchedB pinchB
 rw [hl,he]
 have hc:passesB (fun i k=>shareB T v ((atL T n (v:Int)).getD i 0) ((atL T n (v:Int)).getD k 0)) (atL T n (v:Int)).length=passesB (sh9T (atT T n v) v) (atL T n (v:Int)).length:=by
  funext c
  refine r9passesB_congr (fun i k hi hk=>?_) c
  have g:∀ i,i < (atL T n (v:Int)).length → tri (atT T n (v:Int)) i=tri T ((atL T n (v:Int)).getD i 0):=fun i hi=>by
   unfold atT
   conv=>lhs; unfold tri
   rw [List.getD_eq_getElem?_getD,List.getElem?_map,List.getElem?_eq_getElem hi,List.getD_eq_getElem?_getD,List.getElem?_eq_getElem hi]
   rfl
  unfold shareB sh9T
  rw [g i hi,g k hk]
 rw [hc]
def stateB (sh:Nat → Nat → Bool) (m:Nat) (p:Nat → Bool) (i k:Nat):Nat → Bool:=(((List.range i).flatMap fun i=>(List.range m).map fun k=>(i,k)) ++ (List.range k).map fun k=>(i,k)).foldl (stepB sh) p
theorem stateB_zero (sh:Nat → Nat → Bool) (m:Nat) (p:Nat → Bool):stateB sh m p 0 0=p:=rfl
theorem stateB_succ (sh:Nat → Nat → Bool) (m:Nat) (p:Nat → Bool) (i k:Nat):stateB sh m p i (k + 1)=stepB sh (stateB sh m p i k) (i,k):=by
 unfold stateB
 rw [List.range_succ (n:=k),List.map_append,← List.append_assoc,List.foldl_append]
 rfl
theorem stateB_row (sh:Nat → Nat → Bool) (m:Nat) (p:Nat → Bool) (i:Nat):stateB sh m p i m=stateB sh m p (i + 1) 0:=by
 unfold stateB
 rw [List.range_succ,List.flatMap_append]
 simp
theorem stateB_end (sh:Nat → Nat → Bool) (m:Nat) (p:Nat → Bool):stateB sh m p m 0=passB sh m p:=by
 unfold stateB passB pairsB
 simp
theorem any_false_of {m:Nat} {p:Nat → Bool} {i:Nat} (hi:i < m) (h:p i=false):(List.range m).all p=false:=by
 rw [List.all_eq_false]
 exact ⟨i,List.mem_range.2 hi,by rw [h]; decide⟩
theorem rpinched_any (v:Nat) (N:Int) (A:Option Addr) (n c:Nat) (T:List Tri) (w:World) (hn:n ≤ 1000) (ht:TrisAt w w.heap.size A n T) :
  Calls Tryz.prog 46 #[.agg #[.int .i64 N,.slice A n c],.int .i64 v] w (r9BoolPost w (pinchedB T n v)):=by
 obtain ⟨i0,hi0,hz0,hz1,hz2⟩:=info_parts r9ltri_info
 obtain ⟨i1,hi1,hy0,hy1,hy2⟩:=info_parts bool_info
 have HT:=jJ ht
 clear ht
 go_enter Tryz.func46,Tryz.ntmps46
 go_wp2_with fail
 obtain ⟨W,hW⟩:=jX (w.alloc (.cells #[.int .i64 N,.slice A n c] 24))
 have HX:Hid (Blk W w.heap.size 24 #[.int .i64 N,.slice A n c]):=by subst hW; exact jJ (Blk.new _ _ _)
 have HW:Hid (Below w.heap.size w W):=by subst hW; exact jJ ((Below.refl _ _).alloc (Nat.le_refl _) _)
 have hws:w.heap.size < W.heap.size:=HX.out.lt
 rw [← hW]
 clear hW
 go_loopw [5,6] (fun lv iv wr=>∃ k:Nat,k ≤ n ∧ iv=.int .i64 k ∧ r9LRel W wr (atT T k v) lv) (fun _ iv _=>n - (intOf iv).toNat)
 case atStart=>exact ⟨0,by omega,rfl,r9LRel.start0 _⟩
 obtain ⟨k,hk,rfl,A',c',rfl,HO,HB⟩:=hrel
 have b1:=(HX.out.below HB.out hws).cell 1
 simp at b1
 by_cases hlt:k < n
 · obtain ⟨ad,t,rfl,htk,_,hadb,hc3⟩:=((HT.out.below HW.out).below (HB.out.mono (Nat.le_of_lt hws))).at_ hlt
   have HTT:Hid (tri T k=t):=jJ (by unfold tri; simp [List.getD,htk])
   have HTK:=jJ htk
   have c0:=hc3.c0
   have c1:=hc3.c1
   have c2:=hc3.c2
   have g0:=hc3.f0
   have g1:=hc3.f1
   have g2:=hc3.f2
   have hk0:(0:Int) ≤ (k:Int):=by omega
   have hkn:(k:Int) < (n:Int):=by omega
   have hlen:=atT_len T k v
   have HS:=jJ (atT_succ T k v)
   rw [HTT.out] at HS
   clear htk hc3
   have H1:=jJ fun w=>r9has_any t v w
   generalize hasB t v=bt at *
   go_wp2_with fail
   refine (H1.out _).mono ?_
   rintro e w1 ⟨rfl,hb⟩
   have HB1:=jJ hb
   have b1':=(HX.out.below (HB.out.trans (hb.mono HB.out.size)) hws).cell 1
   obtain ⟨ad2,t2,e',htk,_,_,hc4⟩:=((HT.out.below HW.out).below ((HB.out.trans (hb.mono HB.out.size)).mono (Nat.le_of_lt hws))).at_ hlt
   cases e'
   rw [HTK.out] at htk
   cases htk
   simp at b1'
   clear c0 c1 c2 g0 g1 g2 b1 hb
   cases bt with
   | true =>
    have c0:=hc4.c0
    have c1:=hc4.c1
    have c2:=hc4.c2
    have g0:=hc4.f0
    have g1:=hc4.f1
    have g2:=hc4.f2
    clear hc4
    have hsz:W.heap.size ≤ w1.heap.size:=Nat.le_trans HB.out.size HB1.out.size
    have HO1:Hid (r9LRow w1 W.heap.size A' c' (atT T k v)):=jJ (own_same HO.out fun i hi=>HB1.out.block i (HO.out.lt i hi).2)
    go_wp2_with (at_builtin; go_must (refine wpList_append_sl _ rfl (.tmp 27) (.tmp 33) _ rfl W.heap.size 65 i0 _ 3 24 Tryz.underlying22 hi0 hz0 hz1 hz2 rfl (by omega) (.slice A' (atT T k v).length c') _ _ rfl ((show w1.ownsRow W.heap.size 65 3 (.slice A' (atT T k v).length c') (atT T k v).length ((atT T k v).flatMap Tri.cells) from HO1.out).alloc _) (w1.heap.size + 1) (some ⟨w1.heap.size,0,none⟩) 1 1 (Tri.cells t) rfl (reads_newN _ _ _ 1 3 rfl rfl) (by simp [Tri.cells,Value.oneCell']) (by simp only [maxLen]; omega) (by omega) (by simp; omega) ?_); intro A1 c1 w2 hown1 hg1 hat1)
    refine ⟨⟨k + 1,by omega,by go_num,?_⟩,by simp [intOf]; omega⟩
    rw [HS.out,if_pos trivial]
    exact r9LRel.grow HO HB (HB1.out.alloc HB1.out.size _) hown1 hg1
   | false =>
    go_wp2_with fail
    refine ⟨⟨k + 1,by omega,by go_num,?_⟩,by simp [intOf]; omega⟩
    rw [HS.out,if_neg (by simp)]
    exact r9LRel.keep ⟨A',c',rfl,HO,HB⟩ HB1.out
 obtain rfl:k=n:=by omega
 have HPN:=jJ (pinchedB_T T k v)
 have hm:=atT_len T k v
 have HBW:Hid (Below w.heap.size w wr):=jJ (HW.out.trans (HB.out.mono (Nat.le_of_lt hws)))
 have HTL:Hid (TrisAt wr wr.heap.size A' (atT T k v).length (atT T k v)):=jJ (TrisAt.mk_ (Reads.of_own HO.out))
 clear HO HB HT
 obtain ⟨wL,rfl⟩:=jX (wr:World)
 generalize atT T k v=L at *
 generalize hLm:L.length=m at *
 have hm2:m ≤ 1000:=by omega
 have hmk:=fun W=>run_make_rowN (P:=Tryz.prog) 123 4 i1 (.bool false) Tryz.underlying123 hi1 hy0 .i64 .i64 m m (Nat.le_refl _) (by rw [hy2]; omega) (by omega) W
 rw [hy1,Nat.mul_one,madeBools] at hmk
 by_cases hm0:m=0
 · subst hm0
   have he:L.isEmpty=true:=by rw [List.isEmpty_iff]; exact List.eq_nil_of_length_eq_zero hLm
   go_wp2_with fail
   go_ret
   refine ⟨?_,HBW.out⟩
   rw [HPN.out,he]
   rfl
 have he:L.isEmpty=false:=by rw [List.isEmpty_eq_false_iff]; intro e; rw [e] at hLm; exact hm0 hLm.symm
 rw [he] at HPN
 have hmz:((m:Int) == 0)=false:=by simp; omega
 have HB1:=jJ (Blk.new wL 4 (bools m fun _=>false))
 have HB2:Hid (Blk (wL.alloc (.cells ((bools m fun _=>false).setIfInBounds 0 (.bool true)) 4)) wL.heap.size 4 (bools m (passesB (sh9T L v) m 0))):=by
  refine jJ ?_
  have:=Blk.new wL 4 ((bools m fun _=>false).setIfInBounds 0 (.bool true))
  rw [bools_set] at this ⊢
  exact this
 have f1:=HB1.out.frozen 0
 have f2:=(HB1.out.cell 0).trans (bools_at _ (show 0 < m by omega))
 have hmi:(0:Int) < (m:Int):=by omega
 go_wp2_with fail
 have HBz:Hid (Below wL.heap.size wL (wL.alloc (.cells ((bools m fun _=>false).setIfInBounds 0 (.bool true)) 4))):=jJ ((Below.refl _ _).alloc (Nat.le_refl _) _)
 have HLM:=jJ hLm
 clear hmk f1 f2 HB1 hLm he
 generalize wL.alloc (.cells ((bools m fun _=>false).setIfInBounds 0 (.bool true)) 4)=wz at *
 obtain ⟨g,hg⟩:=jX wL.heap.size
 rw [← hg] at HB2 ⊢
 have hgb:wL.heap.size ≤ g:=by omega
 clear hg
 go_loopw [45] (fun iv wr=>∃ cc:Nat,cc ≤ m ∧ iv=.int .i64 cc ∧ Hid (Blk wr g 4 (bools m (passesB (sh9T L v) m cc))) ∧ Hid (Below wL.heap.size wL wr)) (fun iv _=>m - (intOf iv).toNat)
 case atStart=>exact ⟨0,by omega,rfl,HB2,HBz⟩
 obtain ⟨cc,hcc,rfl,HK,HB⟩:=hrel
 by_cases hct:cc < m
 · have HPS:Hid (passesB (sh9T L v) m (cc + 1)=passB (sh9T L v) m (passesB (sh9T L v) m cc)):=jJ rfl
   generalize passesB (sh9T L v) m cc=p at *
   go_wp2_with fail
   go_loopw [8] (fun iv wq=>∃ i:Nat,i ≤ m ∧ iv=.int .i64 i ∧ Hid (Blk wq g 4 (bools m (stateB (sh9T L v) m p i 0))) ∧ Hid (Below wL.heap.size wL wq)) (fun iv _=>m - (intOf iv).toNat)
   case atStart=>exact ⟨0,by omega,rfl,by rw [stateB_zero]; exact HK,HB⟩
   obtain ⟨i,hi,rfl,HK2,HBi⟩:=hrel
   by_cases hit:i < m
   · go_wp2_with fail
     go_loopw [9] (fun iv wq=>∃ k:Nat,k ≤ m ∧ iv=.int .i64 k ∧ Hid (Blk wq g 4 (bools m (stateB (sh9T L v) m p i k))) ∧ Hid (Below wL.heap.size wL wq)) (fun iv _=>m - (intOf iv).toNat)
     case atStart=>exact ⟨0,by omega,rfl,HK2,HBi⟩
     obtain ⟨k2,hk2,rfl,HK3,HB3⟩:=hrel
     by_cases hkt:k2 < m
     · have HST:=jJ (stateB_succ (sh9T L v) m p i k2)
       generalize stateB (sh9T L v) m p i k2=q at *
       have f1:=(HK3.out.cell i).trans (bools_at _ hit)
       have f2:=(HK3.out.cell k2).trans (bools_at _ hkt)
       have hi0:(0:Int) ≤ (i:Int):=by omega
       have hi1:(i:Int) < (m:Int):=by omega
       have hk0:(0:Int) ≤ (k2:Int):=by omega
       have hk1:(k2:Int) < (m:Int):=by omega
       generalize hqi:q i=bi at f1
       generalize hqk:q k2=bk at f2
       have HQI:=jJ hqi
       have HQK:=jJ hqk
       clear hqi hqk
       cases bi with
       | false =>
        go_wp2_with fail
        refine ⟨⟨k2 + 1,by omega,by go_num,?_,HB3⟩,by simp [intOf]; omega⟩
        rw [HST.out,show stepB (sh9T L v) q (i,k2)=q by unfold stepB; simp [HQI.out]]
        exact HK3
       | true =>
        cases bk with
        | true =>
         go_wp2_with fail
         refine ⟨⟨k2 + 1,by omega,by go_num,?_,HB3⟩,by simp [intOf]; omega⟩
         rw [HST.out,show stepB (sh9T L v) q (i,k2)=q by unfold stepB; simp [HQK.out]]
         exact HK3
        | false =>
         obtain ⟨ad,t,hA,hti,_,_,_⟩:=HTL.out.at_ hit
         obtain ⟨ad2,u,hA2,htk,_,_,_⟩:=HTL.out.at_ hkt
         have HSH:Hid (sh9T L v i k2=(verts t).any fun x=>x != (v:Int) && hasB u x):=jJ (by unfold sh9T; rw [tri_of hti,tri_of htk])
         have HTI:=jJ hti
         have HTK:=jJ htk
         clear hti htk hA2
         subst hA
         have HST2:Hid (stateB (sh9T L v) m p i (k2 + 1)=fun z=>q z || (((verts t).any fun x=>x != (v:Int) && hasB u x) && z == k2)):=by
          refine jJ ?_
          rw [HST.out,← HSH.out]
          unfold stepB
          simp only [HQI.out,HQK.out]
          cases sh9T L v i k2 <;> simp
         clear HST HSH
         have H1:=jJ fun (x:Int) w=>r9has_any u x w
         obtain ⟨f,hf⟩:∃ f:Int → Bool,f=fun x=>x != (v:Int) && hasB u x:=⟨_,rfl⟩
         rw [← hf] at HST2
         have HF:Hid (∀ x,f x=(x != (v:Int) && hasB u x)):=jJ fun x=>by rw [hf]
         clear hf
         go_wp2_with fail
         go_loopw [10] (fun iv wq=>∃ j:Nat,j ≤ 3 ∧ iv=.int .i64 j ∧ Hid (Blk wq g 4 (bools m fun z=>q z || (((verts t).take j).any f && z == k2))) ∧ Hid (Below wL.heap.size wL wq)) (fun iv _=>3 - (intOf iv).toNat)
         case atStart=>exact ⟨0,by omega,rfl,by rw [show (fun z=>q z || (((verts t).take 0).any f && z == k2))=q by funext z; simp]; exact HK3,HB3⟩
         obtain ⟨j,hj,rfl,HK4,HB4⟩:=hrel
         by_cases hjt:j < 3
         · have hct:=(HTL.out.below HB4.out).cells rfl HTI.out
           have hcu:=(HTL.out.below HB4.out).cells rfl HTK.out
           obtain ⟨x,hx,hcx⟩:=cells3_at hct hjt
           have HS:Hid (((verts t).take (j + 1)).any f=(((verts t).take j).any f || f x)):=jJ (by rw [take_snoc_ _ _ hx,List.any_append]; simp)
           have hj1:(0:Int) ≤ (j:Int):=by omega
           have hj2:(j:Int) < 3:=by omega
           have hjd:decide ((j:Int) < 3)=true:=decide_eq_true (by omega)
           have c0:=hcu.c0
           have c1:=hcu.c1
           have c2:=hcu.c2
           have g0:=hcu.f0
           have g1:=hcu.f1
           have g2:=hcu.f2
           clear hx hct hcu
           generalize ((verts t).take j).any f=bj at *
           by_cases hxv:x=(v:Int)
           · have HX0:Hid (f x=false):=jJ (by rw [HF.out]; simp [hxv])
             have hd:(x != (v:Int))=false:=by simp [hxv]
             go_wp2_with fail
             refine ⟨⟨j + 1,by omega,by go_num,?_,HB4⟩,by simp [intOf]; omega⟩
             rw [HS.out,HX0.out,Bool.or_false]
             exact HK4
           have HX0:Hid (f x=hasB u x):=jJ (by rw [HF.out]; simp [hxv])
           have hd:(x != (v:Int))=true:=by simp [hxv]
           have H2:=jJ (H1.out x)
           generalize hasB u x=b at H2 HX0
           go_wp2_with fail
           refine (H2.out _).mono ?_
           rintro e w1 ⟨rfl,hb⟩
           have HB5:=jJ (HB4.out.trans (hb.mono HB4.out.size))
           have HK5:=jJ (HK4.out.below hb HK4.out.lt)
           clear hb c0 c1 c2 g0 g1 g2
           cases b with
           | true =>
            have f3:=HK5.out.frozen k2
            have f4:=(HK5.out.cell k2).trans (bools_at _ hkt)
            go_wp2_with fail
            refine ⟨⟨j + 1,by omega,by go_num,?_,?_⟩,by simp [intOf]; omega⟩
            · refine jJ ?_
              have:=HK5.out.set_ k2 (.bool true)
              rw [bools_set] at this
              rw [HS.out,HX0.out,show (fun z=>q z || ((bj || true) && z == k2))=fun z=>(q z || (bj && z == k2)) || z == k2 by funext z; cases bj <;> cases q z <;> simp]
              exact this
            exact jJ (HB5.out.setCell hgb _)
           | false =>
            go_wp2_with fail
            refine ⟨⟨j + 1,by omega,by go_num,?_,HB5⟩,by simp [intOf]; omega⟩
            rw [HS.out,HX0.out,Bool.or_false]
            exact HK5
         obtain rfl:j=3:=by omega
         go_wp2_with fail
         refine ⟨⟨k2 + 1,by omega,by go_num,?_,HB4⟩,by simp [intOf]; omega⟩
         rw [HST2.out]
         exact HK4
     obtain rfl:k2=m:=by omega
     go_wp2_with fail
     refine ⟨⟨i + 1,by omega,by go_num,?_,HB3⟩,by simp [intOf]; omega⟩
     rw [← stateB_row]
     exact HK3
   obtain rfl:i=m:=by omega
   go_wp2_with fail
   refine ⟨⟨cc + 1,by omega,by go_num,?_,HBi⟩,by simp [intOf]; omega⟩
   rw [HPS.out,← stateB_end]
   exact HK2
 obtain rfl:cc=m:=by omega
 clear hct hcc
 generalize passesB (sh9T L v) cc cc=p at *
 go_wp2_with fail
 obtain ⟨wE,rfl⟩:=jX (wr:World)
 go_loopw [12] (fun iv wq=>∃ i:Nat,i ≤ cc ∧ iv=.int .i64 i ∧ wq=wE ∧ ∀ j,j < i → p j=true) (fun iv _=>cc - (intOf iv).toNat)
 case atStart=>exact ⟨0,by omega,rfl,rfl,fun j hj=>absurd hj (by omega)⟩
 obtain ⟨i,hi,rfl,rfl,hall⟩:=hrel
 have HA:=jJ hall
 clear hall
 by_cases hit:i < cc
 · have f1:=(HK.out.cell i).trans (bools_at _ hit)
   have hi0:(0:Int) ≤ (i:Int):=by omega
   have hi1:(i:Int) < (cc:Int):=by omega
   have HP:=jJ (show p i=p i from rfl)
   generalize hpi:p i=b at f1
   have HPI:=jJ hpi
   clear hpi HP
   cases b with
   | true =>
    go_wp2_with fail
    refine ⟨⟨i + 1,by omega,by go_num,trivial,fun j hj=>?_⟩,by simp [intOf]; omega⟩
    by_cases hji:j < i
    · exact HA.out j hji
    rw [show j=i by omega]; exact HPI.out
   | false =>
    go_wp2_with fail
    go_ret
    refine ⟨?_,HBW.out.trans (HB.out.mono HBW.out.size)⟩
    rw [HPN.out,any_false_of hit HPI.out]
    rfl
 go_wp2_with fail
 go_ret
 refine ⟨?_,HBW.out.trans (HB.out.mono HBW.out.size)⟩
 have e:(List.range cc).all p=true:=by rw [List.all_eq_true]; exact fun j hj=>HA.out j (by have:=List.mem_range.1 hj; omega)
 rw [HPN.out,e]
 rfl
end
section
theorem pinched_refW (N:Int) (T:List Tri):refAll N T=firstL [indexL N T.length T,picks 2 (loopB T) T.length,refW 3 twiceB T T.length,refW 4 mirrB T T.length,picks 5 (fun v=>!usedTo T T.length v) N.toNat,picks 6 (fun v=>pinchedB T T.length v) N.toNat]:=rfl
theorem RRel.post {w w1:World} {L:List (Int × Int × Int)} {v:Value} (h:RRel w w1 L v):RPost w L (.returned v) w1:=by
 obtain ⟨A,c,rfl,h1,h2⟩:=h
 exact ⟨A,c,rfl,h1.out,h2.out⟩
theorem rall_any (N:Int) (A:Option Addr) (n c:Nat) (T:List Tri) (w:World) (hn:n ≤ 1000) (ht:TrisAt w w.heap.size A n T) :
  Calls Tryz.prog 23 #[.agg #[.int .i64 N,.slice A n c]] w (RPost w (refAll N T)):=by
 obtain ⟨i0,hi0,hz0,hz1,hz2⟩:=info_parts rwit_info
 have HR:Hid (refAll N T=firstL [indexL N n T,picks 2 (loopB T) n,refW 3 twiceB T n,refW 4 mirrB T n,picks 5 (fun v=>!usedTo T n v) N.toNat,picks 6 (fun v=>pinchedB T n v) N.toNat]):=by
  have:=pinched_refW N T
  rw [ht.len] at this
  exact jJ this
 have HIX:=jJ fun w h=>rindex_any N A n c T w (by omega) h
 have HP3:=jJ fun w h=>rpairs_any 3 twiceB (.inl ⟨rfl,rfl⟩) N A n c T w hn h
 have HP4:=jJ fun w h=>rpairs_any 4 mirrB (.inr ⟨rfl,rfl⟩) N A n c T w hn h
 have HI0:Hid (indexL N n T=[] → N ≤ 4096):=jJ fun h=>by
  unfold indexL sizeB at h
  split at h
  · cases h
  rename_i h2
  simp only [Bool.or_eq_true,decide_eq_true_eq] at h2
  omega
 generalize indexL N n T=L0 at HR HIX HI0
 generalize refW 3 twiceB T n=L2 at HR HP3
 generalize refW 4 mirrB T n=L3 at HR HP4
 have HT:=jJ ht
 clear ht
 go_enter Tryz.func23,Tryz.ntmps23
 go_wp2_with fail
 obtain ⟨W,hW⟩:=jX (w.alloc (.cells #[.int .i64 N,.slice A n c] 24))
 have HX:Hid (Blk W w.heap.size 24 #[.int .i64 N,.slice A n c]):=by subst hW; exact jJ (Blk.new _ _ _)
 have HW:Hid (Below w.heap.size w W):=by subst hW; exact jJ ((Below.refl _ _).alloc (Nat.le_refl _) _)
 have hws:w.heap.size < W.heap.size:=HX.out.lt
 rw [← hW]
 clear hW
 refine (HIX.out W ((HT.out.below HW.out).more HW.out.size)).mono ?_
 rintro e w1 ⟨A1,c1,rfl,ho1,hb1⟩
 have HO1:Hid (RRow w1 W.heap.size A1 c1 L0):=jJ ho1
 have HB1:Hid (Below W.heap.size W w1):=jJ hb1
 clear ho1 hb1
 by_cases hL0:L0=[]
 case neg =>
  have hp:0 < L0.length:=List.length_pos_iff.2 hL0
  have hpi:(0:Int) < (L0.length:Int):=by omega
  go_wp2_with fail
  go_ret
  rw [HR.out,firstL_yes hL0]
  exact ⟨A1,c1,rfl,own_mono HO1.out HW.out.size,HW.out.trans (HB1.out.mono HW.out.size)⟩
 subst hL0
 have hN:N ≤ 4096:=HI0.out rfl
 rw [firstL_no rfl] at HR
 clear HIX HI0
 go_wp2_with fail
 go_loopw [3,4] (fun lv iv wr=>∃ k:Nat,k ≤ n ∧ iv=.int .i64 k ∧ RRel W wr (picks 2 (loopB T) k) lv) (fun _ iv _=>n - (intOf iv).toNat)
 case atStart=>exact ⟨0,by omega,rfl,A1,c1,rfl,HO1,HB1⟩
 obtain ⟨k,hk,rfl,A',c',rfl,HO,HB⟩:=hrel
 have b1:=(HX.out.below HB.out hws).cell 1
 have b0:=(HX.out.below HB.out hws).cell 0
 simp at b1 b0
 by_cases hlt:k < n
 · obtain ⟨ad,t,rfl,htk,_,hadb,hc3⟩:=((HT.out.below HW.out).below (HB.out.mono (Nat.le_of_lt hws))).at_ hlt
   obtain ⟨d0,d1,d2,d3,d4,d5⟩:=hc3
   have HP:=jJ (picks_succ 2 (loopB T) k)
   have HL:Hid (loopB T k=(t.a == t.b || t.b == t.c || t.c == t.a)):=jJ (by unfold loopB; rw [htk])
   have hsz:=HB.out.size
   have hpl:=picks_len 2 (loopB T) k
   have hk0:(0:Int) ≤ (k:Int):=by omega
   have hkn:(k:Int) < (n:Int):=by omega
   have hs1:w.heap.size < wr.heap.size:=Nat.lt_of_lt_of_le hws HB.out.size
   have hk1:(ad.add (k * 3)).block < wr.heap.size:=by rw [block_of_add]; omega
   clear htk
   go_wp2_with (at_builtin; go_must (refine wpList_append_sl _ rfl (.tmp 47) (.tmp 50) _ rfl W.heap.size 103 i0 _ 3 24 Tryz.underlying60 hi0 hz0 hz1 hz2 rfl (by omega) (.slice A' (picks 2 (loopB T) k).length c') _ _ rfl (((show wr.ownsRow W.heap.size 103 3 (.slice A' (picks 2 (loopB T) k).length c') (picks 2 (loopB T) k).length ((picks 2 (loopB T) k).flatMap w3) from HO.out).alloc _).alloc _) (wr.heap.size + 1 + 1) (some ⟨wr.heap.size + 1,0,none⟩) 1 1 (w3 (2,(k:Int),0)) rfl (reads_newN _ _ _ 1 3 rfl (by simp)) (by simp [w3,Value.oneCell']) (by simp only [maxLen]; omega) (by omega) (by simp; omega) ?_); intro A2 c2 w2 hown1 hg1 hat1)
   all_goals
    refine ⟨⟨k + 1,by omega,by go_num,?_⟩,by simp [intOf]; omega⟩
    rw [HP.out,HL.out]
   all_goals first
    | (have hb:(t.a == t.b || t.b == t.c || t.c == t.a)=true:=by first | (simp only [Bool.or_eq_true]; assumption) | (simp [*]; done)
       rw [if_pos hb]
       exact RRel.grow HO HB (((Below.refl _ _).alloc (Nat.le_refl _) _).alloc (by simp) _) hown1 hg1)
    | (rw [if_neg (by simp [*])]
       exact RRel.keep ⟨A',c',rfl,HO,HB⟩ ((Below.refl _ _).alloc (Nat.le_refl _) _))
 obtain rfl:k=n:=by omega
 clear hlt hk
 have hkz:¬ ((k:Int) < (k:Int)):=by omega
 generalize picks 2 (loopB T) k=L1 at *
 by_cases hL1:L1=[]
 case neg =>
  have hp:0 < L1.length:=List.length_pos_iff.2 hL1
  have hpi:(0:Int) < (L1.length:Int):=by omega
  go_wp2_with fail
  go_ret
  rw [HR.out,firstL_yes hL1]
  exact ⟨A',c',rfl,own_mono HO.out HW.out.size,HW.out.trans (HB.out.mono HW.out.size)⟩
 subst hL1
 rw [firstL_no rfl] at HR
 go_wp2_with fail
 refine (HP3.out wr (((HT.out.below HW.out).below (HB.out.mono (Nat.le_of_lt hws))).more (Nat.le_trans (Nat.le_of_lt hws) HB.out.size))).mono ?_
 rintro e wp3 ⟨A3,c3,rfl,ho3,hb3⟩
 have HO3:Hid (RRow wp3 W.heap.size A3 c3 L2):=jJ (own_mono ho3 HB.out.size)
 have HB3:Hid (Below W.heap.size W wp3):=jJ (HB.out.trans (hb3.mono HB.out.size))
 clear ho3 hb3 HP3 HO HB b0 b1
 have b1:=(HX.out.below HB3.out hws).cell 1
 have b0:=(HX.out.below HB3.out hws).cell 0
 simp at b1 b0
 by_cases hL2:L2=[]
 case neg =>
  have hp:0 < L2.length:=List.length_pos_iff.2 hL2
  have hpi:(0:Int) < (L2.length:Int):=by omega
  go_wp2_with fail
  go_ret
  rw [HR.out,firstL_yes hL2]
  exact ⟨A3,c3,rfl,own_mono HO3.out HW.out.size,HW.out.trans (HB3.out.mono HW.out.size)⟩
 subst hL2
 rw [firstL_no rfl] at HR
 go_wp2_with fail
 refine (HP4.out wp3 (((HT.out.below HW.out).below (HB3.out.mono (Nat.le_of_lt hws))).more (Nat.le_trans (Nat.le_of_lt hws) HB3.out.size))).mono ?_
 rintro e w4 ⟨A4,c4,rfl,ho4,hb4⟩
 have HO4:Hid (RRow w4 W.heap.size A4 c4 L3):=jJ (own_mono ho4 HB3.out.size)
 have HB4:Hid (Below W.heap.size W w4):=jJ (HB3.out.trans (hb4.mono HB3.out.size))
 clear ho4 hb4 HP4 HO3 HB3 b0 b1
 by_cases hL3:L3=[]
 case neg =>
  have hp:0 < L3.length:=List.length_pos_iff.2 hL3
  have hpi:(0:Int) < (L3.length:Int):=by omega
  go_wp2_with fail
  go_ret
  rw [HR.out,firstL_yes hL3]
  exact ⟨A4,c4,rfl,own_mono HO4.out HW.out.size,HW.out.trans (HB4.out.mono HW.out.size)⟩
 subst hL3
 rw [firstL_no rfl] at HR
 go_wp2_with fail
 obtain ⟨m,hm⟩:=jX N.toNat
 rw [← hm] at HR
 have hm1:m ≤ 4096:=by omega
 go_loopw [3,6] (fun lv iv wr=>∃ v:Nat,v ≤ m ∧ iv=.int .i64 v ∧ RRel W wr (picks 5 (fun v=>!usedTo T k v) v) lv) (fun _ iv _=>m - (intOf iv).toNat)
 case atStart=>exact ⟨0,by omega,rfl,A4,c4,rfl,HO4,HB4⟩
 obtain ⟨v,hv,rfl,A5,c5,rfl,HO5,HB5⟩:=hrel
 have b1:=(HX.out.below HB5.out hws).cell 1
 have b0:=(HX.out.below HB5.out hws).cell 0
 simp at b1 b0
 by_cases hvt:v < m
 · have hvN:(v:Int) < N:=by omega
   have HP:=jJ (picks_succ 5 (fun v=>!usedTo T k v) v)
   have hpl:=picks_len 5 (fun v=>!usedTo T k v) v
   go_wp2_with fail
   obtain ⟨wB,hwB⟩:=jX (wr:World)
   rw [← hwB] at HO5 HB5 b0 b1 ⊢
   clear hwB
   go_loopw [7,8] (fun bv iv wq=>∃ i:Nat,i ≤ k ∧ iv=.int .i64 i ∧ bv=.bool (usedTo T i v) ∧ Hid (Below wB.heap.size wB wq)) (fun _ iv _=>k - (intOf iv).toNat)
   case atStart=>exact ⟨0,by omega,rfl,rfl,jJ (Below.refl _ _)⟩
   obtain ⟨i,hi,rfl,rfl,HBq⟩:=hrel
   have HB6:Hid (Below W.heap.size W wr):=jJ (HB5.out.trans (HBq.out.mono HB5.out.size))
   have e1:=(HX.out.below HB6.out hws).cell 1
   simp at e1
   by_cases hit:i < k
   · obtain ⟨ad,t,rfl,htk,_,hadb,hc3⟩:=((HT.out.below HW.out).below (HB6.out.mono (Nat.le_of_lt hws))).at_ hit
     obtain ⟨d0,d1,d2,d3,d4,d5⟩:=hc3
     have HU:Hid (usedTo T (i + 1) v=(usedTo T i v || hasB t v)):=jJ (by unfold usedTo; rw [take_snoc_ T i htk,List.any_append]; simp [hasV,hasB])
     have H1:=jJ fun w=>r9has_any t v w
     have hi0:(0:Int) ≤ (i:Int):=by omega
     have hi1:(i:Int) < (k:Int):=by omega
     clear htk
     generalize usedTo T i v=bu at HU ⊢
     generalize hasB t v=bh at HU H1
     cases bu with
     | true =>
      go_wp2_with fail
      exact ⟨⟨i + 1,by omega,by go_num,by rw [HU.out]; rfl,HBq⟩,by simp [intOf]; omega⟩
     | false =>
      go_wp2_with fail
      refine (H1.out _).mono ?_
      rintro e w6 ⟨rfl,hb6⟩
      have HB7:=jJ (HBq.out.trans (hb6.mono HBq.out.size))
      clear hb6
      go_wp2_with fail
      exact ⟨⟨i + 1,by omega,by go_num,by rw [HU.out]; simp,HB7⟩,by simp [intOf]; omega⟩
   obtain rfl:i=k:=by omega
   have hsz:W.heap.size ≤ wr.heap.size:=HB6.out.size
   have HO6:Hid (RRow wr W.heap.size A5 c5 (picks 5 (fun v=>!usedTo T i v) v)):=jJ (own_same HO5.out fun x hx=>HBq.out.block x (HO5.out.lt x hx).2)
   generalize picks 5 (fun v=>!usedTo T i v) v=Lp at *
   generalize usedTo T i v=bu at HP ⊢
   cases bu with
   | true =>
    go_wp2_with fail
    refine ⟨⟨v + 1,by omega,by go_num,?_⟩,by simp [intOf]; omega⟩
    rw [HP.out,if_neg (by decide)]
    exact RRel.keep ⟨A5,c5,rfl,HO5,HB5⟩ HBq.out
   | false =>
    go_wp2_with (at_builtin; go_must (refine wpList_append_sl _ rfl (.tmp 93) (.tmp 96) _ rfl W.heap.size 103 i0 _ 3 24 Tryz.underlying60 hi0 hz0 hz1 hz2 rfl (by omega) (.slice A5 Lp.length c5) _ _ rfl ((show wr.ownsRow W.heap.size 103 3 (.slice A5 Lp.length c5) Lp.length (Lp.flatMap w3) from HO6.out).alloc _) (wr.heap.size + 1) (some ⟨wr.heap.size,0,none⟩) 1 1 (w3 (5,(v:Int),0)) rfl (reads_newN _ _ _ 1 3 rfl rfl) (by simp [w3,Value.oneCell']) (by simp only [maxLen]; omega) (by omega) (by simp; omega) ?_); intro A7 c7 w7 hown1 hg1 hat1)
    refine ⟨⟨v + 1,by omega,by go_num,?_⟩,by simp [intOf]; omega⟩
    rw [HP.out,if_pos (by rfl)]
    exact RRel.grow HO5 HB5 (HBq.out.alloc HBq.out.size _) hown1 hg1
 obtain rfl:v=m:=by omega
 have hvN:¬ ((v:Int) < N):=by omega
 generalize picks 5 (fun v=>!usedTo T k v) v=L4 at *
 by_cases hL4:L4=[]
 case neg =>
  have hp:0 < L4.length:=List.length_pos_iff.2 hL4
  have hpi:(0:Int) < (L4.length:Int):=by omega
  go_wp2_with fail
  go_ret
  rw [HR.out,firstL_yes hL4]
  exact ⟨A5,c5,rfl,own_mono HO5.out HW.out.size,HW.out.trans (HB5.out.mono HW.out.size)⟩
 subst hL4
 rw [firstL_no rfl] at HR
 go_wp2_with fail
 go_loopw [3,9] (fun lv iv wr=>∃ x:Nat,x ≤ v ∧ iv=.int .i64 x ∧ RRel W wr (picks 6 (fun v=>pinchedB T k v) x) lv) (fun _ iv _=>v - (intOf iv).toNat)
 case atStart=>exact ⟨0,by omega,rfl,A5,c5,rfl,HO5,HB5⟩
 obtain ⟨x,hx,rfl,A6,c6,rfl,HO6,HB6⟩:=hrel
 have e1:=(HX.out.below HB6.out hws).cell 1
 have e0:=(HX.out.below HB6.out hws).cell 0
 simp at e1 e0
 have HP:=jJ (picks_succ 6 (fun v=>pinchedB T k v) x)
 have hpl:=picks_len 6 (fun v=>pinchedB T k v) x
 by_cases hxt:x < v
 · have hxN:(x:Int) < N:=by omega
   have H1:=jJ fun w h=>rpinched_any x N A k c T w hn h
   generalize picks 6 (fun v=>pinchedB T k v) x=Lp at *
   generalize pinchedB T k x=bx at *
   go_wp2_with fail
   refine (H1.out wr (((HT.out.below HW.out).below (HB6.out.mono (Nat.le_of_lt hws))).more (Nat.le_trans (Nat.le_of_lt hws) HB6.out.size))).mono ?_
   rintro e w7 ⟨rfl,hb7⟩
   have HB7:=jJ hb7
   have HO7:Hid (RRow w7 W.heap.size A6 c6 Lp):=jJ (own_same HO6.out fun i hi=>hb7.block i (HO6.out.lt i hi).2)
   have hsz:W.heap.size ≤ w7.heap.size:=Nat.le_trans HB6.out.size hb7.size
   clear hb7
   cases bx with
   | true =>
    go_wp2_with (at_builtin; go_must (refine wpList_append_sl _ rfl (.tmp 111) (.tmp 114) _ rfl W.heap.size 103 i0 _ 3 24 Tryz.underlying60 hi0 hz0 hz1 hz2 rfl (by omega) (.slice A6 Lp.length c6) _ _ rfl ((show w7.ownsRow W.heap.size 103 3 (.slice A6 Lp.length c6) Lp.length (Lp.flatMap w3) from HO7.out).alloc _) (w7.heap.size + 1) (some ⟨w7.heap.size,0,none⟩) 1 1 (w3 (6,(x:Int),0)) rfl (reads_newN _ _ _ 1 3 rfl rfl) (by simp [w3,Value.oneCell']) (by simp only [maxLen]; omega) (by omega) (by simp; omega) ?_); intro A8 c8 w8 hown1 hg1 hat1)
    refine ⟨⟨x + 1,by omega,by go_num,?_⟩,by simp [intOf]; omega⟩
    rw [HP.out]
    simp only [if_true]
    exact RRel.grow HO6 HB6 (HB7.out.alloc HB7.out.size _) hown1 hg1
   | false =>
    go_wp2_with fail
    refine ⟨⟨x + 1,by omega,by go_num,?_⟩,by simp [intOf]; omega⟩
    rw [HP.out,if_neg (by simp)]
    exact RRel.keep ⟨A6,c6,rfl,HO6,HB6⟩ HB7.out
 obtain rfl:x=v:=by omega
 generalize picks 6 (fun v=>pinchedB T k v) x=Lp at *
 go_wp2_with fail
 go_ret
 have hL:firstL [Lp]=Lp:=by cases Lp <;> rfl
 rw [HR.out,hL]
 exact ⟨A6,c6,rfl,own_mono HO6.out HW.out.size,HW.out.trans (HB6.out.mono HW.out.size)⟩
end
section
theorem surf_chk16 {m:Nat} {T:List Tri} (h:checkR (m:Int) T=(0,0,0)):SurfE m T:=by
 obtain ⟨k,hk⟩:=surf_of (checkR_zero (by rw [h])).1
 obtain ⟨h1,h2⟩:=surf_e.1 hk
 obtain rfl:m=k:=by omega
 exact h2
attribute [local irreducible] Blk LRow World.alloc World.setCell World.cell? World.frozen? MapV
theorem surface_any (N:Int) (A:Option Addr) (c:Nat) (T:List Tri) (w:World) (hT:T.length ≤ 1000) (ht:TrisAt w w.heap.size A T.length T) :
  Calls Tryz.prog 10 #[.agg #[.int .i64 N,.slice A T.length c]] w (BoolPost w (decide (checkR N T=(0,0,0)))):=by
 have HT:=jJ ht
 clear ht
 obtain ⟨V,hV⟩:=jX (w.alloc (.cells #[.int .i64 N,.slice A T.length c] 24))
 have GA0:Hid (Blk V w.heap.size 24 #[.int .i64 N,.slice A T.length c]):=by subst hV; exact jJ (Blk.new _ _ _)
 have HB0:Hid (Below w.heap.size w V):=by subst hV; exact jJ (bw_alloc (Below.refl _ _) _)
 have HALL:=jJ (rall_any N A T.length c T V hT ((HT.out.below HB0.out).more HB0.out.size))
 have HE:Hid (checkR N T=(0,0,0) ↔ (refAll N T).length=0):=jJ ((check_is N T).trans List.length_eq_zero_iff.symm)
 unfold RPost at HALL
 generalize refAll N T=X at *
 obtain ⟨b,hb⟩:=jY (decide (checkR N T=(0,0,0)))
 have HBE:=jJ hb
 rw [hb]
 clear hb
 go_enter Tryz.func10,Tryz.ntmps10
 go_upto_region 1 with (fail)
 rw [← hV]
 clear hV
 obtain ⟨ga,hga⟩:=jX w.heap.size
 rw [← hga] at GA0
 simp only [← hga]
 clear hga
 obtain ⟨s0,s1,_,_,_⟩:=soup_facts GA0.out
 go_wp2_with fail
 refine HALL.out.mono ?_
 rintro e w1 ⟨A',c',rfl,_,hb⟩
 have HB1:=jJ (bw_call HB0.out hb)
 clear hb HALL s0 s1
 cases b with
 | true =>
  have h0:X.length=0:=HE.out.1 (of_decide_eq_true HBE.out)
  have h1:(X.length:Int)=0:=by omega
  clear h0
  go_wp2_with fail
  go_ret
  exact ⟨rfl,HB1.out⟩
 | false =>
  have h0:X.length ≠ 0:=fun h=>of_decide_eq_false HBE.out (HE.out.2 h)
  have h1:((X.length:Int) == 0)=false:=by rw [beq_eq_false_iff_ne]; omega
  clear h0
  go_wp2_with fail
  go_ret
  exact ⟨rfl,HB1.out⟩
end
end Go.Proofs.YtffmfhkiienmaaaGreat
