/- certify.loop, walked: the triangles that have a vertex twice. No condition. -/
import Derived.Test.YtffmfhkiienmaaaGreatProg
import Derived.Test.YtffmfhkiienmaaaGreatB1
import Derived.WalkSpells
import Derived.WalkLawsBesides
import Derived.Deep.QuietTactic
import Derived.BigQuiet
import Derived.Deep.DeepCutAuto
import Derived.Test.YtffmfhkiienmaaaGreatSortK
import Derived.Test.YtffmfhkiienmaaaGreatShelf9
import Derived.Deep.RegionHeld3
import Derived.Laws.MakeOwn
import Derived.Shelf.Sort.Plain
import Derived.WideKeyEntry
import Derived.DeepKeys4
set_option maxRecDepth 100000
set_option maxHeartbeats 16000000
set_option linter.all false
namespace Go.Proofs.YtffmfhkiienmaaaGreat
open Go.RowKit
section
theorem wit_info:(Tryz.prog.info? 39).map (fun i=>(i.zero,i.size,i.bytes))=some (some (.agg #[.int .i64 0,.int .i64 0,.int .i64 0]),3,24):=by kernel_rfl
def WitRow (w:World) (B:Nat) (A:Option Addr) (c:Nat) (L:List (Int × Int × Int)):Prop:=w.ownsRow B 39 3 (.slice A L.length c) L.length (L.flatMap w3)
def WitPost (w:World) (L:List (Int × Int × Int)) (e:Ending) (w':World):Prop:=∃ A c,e=.returned (.slice A L.length c) ∧ WitRow w' w.heap.size A c L ∧ Below w.heap.size w w'
def WitRel (w wr:World) (L:List (Int × Int × Int)) (v:Value):Prop:=∃ A c,v=.slice A L.length c ∧ Hid (WitRow wr w.heap.size A c L) ∧ Hid (Below w.heap.size w wr)
theorem WitRel.start (w:World) (o:Obj):WitRel w (w.alloc o) [] (.slice none 0 0) :=
 ⟨none,0,rfl,jJ (World.ownsRow_nil _ _ _ _),jJ ((Below.refl _ _).alloc (Nat.le_refl _) _)⟩
theorem WitRel.start0 (w:World):WitRel w w [] (.slice none 0 0):=⟨none,0,rfl,jJ (World.ownsRow_nil _ _ _ _),jJ (Below.refl _ _)⟩
theorem WitRel.keep {w wr w':World} {L:List (Int × Int × Int)} {v:Value} (h:WitRel w wr L v) (hb:Below wr.heap.size wr w'):WitRel w w' L v:=by
 obtain ⟨A,c,e,h1,h2⟩:=h
 exact ⟨A,c,e,jJ (own_same h1.out fun k hk=>hb.block k (h1.out.lt k hk).2),jJ (h2.out.trans (hb.mono h2.out.size))⟩
theorem WitRel.grow {w wr wx w1:World} {L:List (Int × Int × Int)} {x:Int × Int × Int} {A A1:Option Addr} {c c1:Nat} (hO:Hid (WitRow wr w.heap.size A c L)) (hB:Hid (Below w.heap.size w wr)) (hx:Below wr.heap.size wr wx)
  (h1:w1.ownsRow w.heap.size 39 3 (.slice A1 (L.length + 1) c1) (L.length + 1) (L.flatMap w3 ++ w3 x)) (hg:wx.grownBy w1 (Value.slice A L.length c).ownBlock):WitRel w w1 (L ++ [x]) (.slice A1 (L.length + 1) c1):=by
 refine ⟨A1,c1,by simp,jJ ?_,jJ ?_⟩
 · unfold WitRow
   rw [w3_snoc]
   simpa using h1
 exact ((hB.out.trans (hx.mono hB.out.size)).grown hg (Nat.le_trans hB.out.size hx.size) fun k hk=>(hO.out.lt k hk).1)
def loopB (T:List Tri) (i:Nat):Bool:=match T[i]? with
 | none=>false
 | some t=>t.a == t.b || t.b == t.c || t.c == t.a
theorem loop_any (N:Int) (A:Option Addr) (n c:Nat) (T:List Tri) (w:World) (hn:n ≤ 10000) (ht:TrisAt w w.heap.size A n T) :
  Calls Tryz.prog 75 #[.agg #[.int .i64 N,.slice A n c]] w (WitPost w (picks 2 (loopB T) n)):=by
 obtain ⟨i0,hi0,hz0,hz1,hz2⟩:=info_parts wit_info
 have HT:=jJ ht
 clear ht
 go_enter Tryz.func75,Tryz.ntmps75
 go_wp2_with fail
 go_loopw [3,9] (fun lv iv wr=>∃ k:Nat,k ≤ n ∧ iv=.int .i64 k ∧ WitRel w wr (picks 2 (loopB T) k) lv) (fun _ iv _=>n - (intOf iv).toNat)
 case atStart=>exact ⟨0,by omega,rfl,WitRel.start _ _⟩
 obtain ⟨k,hk,rfl,A',c',rfl,HO,HB⟩:=hrel
 by_cases hlt:k < n
 · obtain ⟨ad,t,rfl,htk,_,hadb,hc3⟩:=(HT.out.below HB.out).at_ hlt
   obtain ⟨d0,d1,d2,d3,d4,d5⟩:=hc3
   have HP:=jJ (picks_succ 2 (loopB T) k)
   have HL:Hid (loopB T k=(t.a == t.b || t.b == t.c || t.c == t.a)):=jJ (by unfold loopB; rw [htk])
   have hsz:=HB.out.size
   have hpl:=picks_len 2 (loopB T) k
   clear htk
   go_wp2_with (at_builtin; go_must (refine wpList_append_sl _ rfl (.tmp 33) (.tmp 36) _ rfl w.heap.size 39 i0 _ 3 24 Tryz.underlying107 hi0 hz0 hz1 hz2 rfl (by omega) (.slice A' (picks 2 (loopB T) k).length c') _ _ rfl ((HO.out.alloc _).alloc _) (wr.heap.size + 1 + 1) (some ⟨wr.heap.size + 1,0,none⟩) 1 1 (w3 (2,(k:Int),0)) rfl (reads_newN _ _ _ 1 3 rfl (by simp)) (by simp [w3,Value.oneCell']) (by simp only [maxLen]; omega) (by omega) (by simp; omega) ?_); intro A1 c1 w1 hown1 hg1 hat1)
   all_goals
    refine ⟨⟨k + 1,by omega,by go_num,?_⟩,by simp [intOf]; omega⟩
    rw [HP.out,HL.out]
   all_goals first
    | (have hb:(t.a == t.b || t.b == t.c || t.c == t.a)=true:=by first | (simp only [Bool.or_eq_true]; assumption) | (simp [*]; done)
       rw [if_pos hb]
       exact WitRel.grow HO HB (((Below.refl _ _).alloc (Nat.le_refl _) _).alloc (by simp) _) hown1 hg1)
    | (rw [if_neg (by simp [*])]
       exact WitRel.keep ⟨A',c',rfl,HO,HB⟩ ((Below.refl _ _).alloc (Nat.le_refl _) _))
 obtain rfl:k=n:=by omega
 go_wp2_with fail
 go_ret
 exact ⟨A',c',rfl,HO.out,HB.out⟩
end
section
def badV (N x:Int):Bool:=decide (x < 0) || decide (N ≤ x)
def indexB (N:Int) (T:List Tri) (i:Nat):Bool:=match T[i]? with
 | none=>false
 | some t=>badV N t.a || badV N t.b || badV N t.c
def sizeB (N:Int) (n:Nat):Bool:=decide (N < 0) || decide (4096 < N) || decide (8192 < n)
def indexL (N:Int) (n:Nat) (T:List Tri):List (Int × Int × Int):=if sizeB N n then [(1,-1,0)] else picks 1 (indexB N T) n
theorem wit_new (w W:World) (hb:Below w.heap.size w W) (x:Int × Int × Int) {g:Nat} (hg:W.heap.size=g) :
  WitRow (W.alloc (.cells #[.int .i64 x.1,.int .i64 x.2.1,.int .i64 x.2.2] 39)) w.heap.size (some ⟨g,0,none⟩) 1 [x]:=by
 subst hg
 exact ⟨rfl,.inr ⟨W.heap.size,1,_,rfl,hb.size,heap_alloc_new _ _,Nat.le_refl _,by decide,rfl,rfl⟩⟩
theorem badV_no {N x:Int} (h:¬ badV N x=true):0 ≤ x ∧ x < N:=by
 unfold badV at h
 simp at h
 omega
theorem index_any (N:Int) (A:Option Addr) (n c:Nat) (T:List Tri) (w:World) (hn:n ≤ 10000) (ht:TrisAt w w.heap.size A n T) :
  Calls Tryz.prog 74 #[.agg #[.int .i64 N,.slice A n c]] w (WitPost w (indexL N n T)):=by
 obtain ⟨i0,hi0,hz0,hz1,hz2⟩:=info_parts wit_info
 have HT:=jJ ht
 clear ht
 by_cases hs:N < 0 ∨ 4096 < N ∨ 8192 < n
 · have HL:Hid (indexL N n T=[(1,-1,0)]):=by
    refine jJ ?_
    unfold indexL
    rw [if_pos]
    unfold sizeB
    simp only [Bool.or_eq_true,decide_eq_true_eq]
    omega
   rw [HL.out]
   have hs':N < 0 ∨ 4096 < N ∨ (8192:Int) < n:=by omega
   clear hs
   go_enter Tryz.func74,Tryz.ntmps74
   go_wp2_with fail
   all_goals first
    | (exfalso; omega)
    | (go_ret
       refine ⟨_,_,rfl,?_,((Below.refl _ _).alloc (Nat.le_refl _) _).alloc (by simp) _⟩
       exact wit_new w _ ((Below.refl _ _).alloc (Nat.le_refl _) _) (1,-1,0) (by simp))
 · have h1:0 ≤ N:=by omega
   have h2:N ≤ 4096:=by omega
   have h3:(n:Int) ≤ 8192:=by omega
   have HL:Hid (indexL N n T=picks 1 (indexB N T) n):=by
    refine jJ ?_
    unfold indexL
    rw [if_neg]
    unfold sizeB
    simp only [Bool.or_eq_true,decide_eq_true_eq]
    omega
   rw [HL.out]
   clear hs HL
   go_enter Tryz.func74,Tryz.ntmps74
   go_wp2_with fail
   obtain ⟨W,hW⟩:=jX (w.alloc (.cells #[.int .i64 N,.slice A n c] 24))
   have HX:Hid (Blk W w.heap.size 24 #[.int .i64 N,.slice A n c]):=by subst hW; exact jJ (Blk.new _ _ _)
   have HW:Hid (Below w.heap.size w W):=by subst hW; exact jJ ((Below.refl _ _).alloc (Nat.le_refl _) _)
   have hws:w.heap.size < W.heap.size:=HX.out.lt
   rw [← hW]
   clear hW
   go_loopw [3,27] (fun lv iv wr=>∃ k:Nat,k ≤ n ∧ iv=.int .i64 k ∧ WitRel W wr (picks 1 (indexB N T) k) lv) (fun _ iv _=>n - (intOf iv).toNat)
   case atStart=>exact ⟨0,by omega,rfl,WitRel.start0 _⟩
   obtain ⟨k,hk,rfl,A',c',rfl,HO,HB⟩:=hrel
   by_cases hlt:k < n
   · obtain ⟨ad,t,rfl,htk,_,hadb,hc3⟩:=((HT.out.below HW.out).below (HB.out.mono (Nat.le_of_lt hws))).at_ hlt
     obtain ⟨d0,d1,d2,d3,d4,d5⟩:=hc3
     have HP:=jJ (picks_succ 1 (indexB N T) k)
     have HL:Hid (indexB N T k=(badV N t.a || badV N t.b || badV N t.c)):=jJ (by unfold indexB; rw [htk])
     have hsz:=HB.out.size
     have hpl:=picks_len 1 (indexB N T) k
     have b0:=(HX.out.below HB.out hws).cell 0
     have b1:=(HX.out.below HB.out hws).cell 1
     simp at b0 b1
     have hws2:w.heap.size < wr.heap.size:=by omega
     have e0:∀ w,(Instr.index 65 (.agg #[.int .i64 t.a,.int .i64 t.b,.int .i64 t.c]) (.int .i64 0)).run Tryz.prog w=.ok (.int .i64 t.a) w:=fun _=>by kernel_rfl
     have e1:∀ w,(Instr.index 65 (.agg #[.int .i64 t.a,.int .i64 t.b,.int .i64 t.c]) (.int .i64 1)).run Tryz.prog w=.ok (.int .i64 t.b) w:=fun _=>by kernel_rfl
     have e2:∀ w,(Instr.index 65 (.agg #[.int .i64 t.a,.int .i64 t.b,.int .i64 t.c]) (.int .i64 2)).run Tryz.prog w=.ok (.int .i64 t.c) w:=fun _=>by kernel_rfl
     clear htk
     go_wp2_with fail
     refine wp_loop_rounds 4 ?_
     rw [rounds_succ]
     go_wp2_with (at_builtin; go_must (refine wpList_append_sl _ rfl (.tmp 44) (.tmp 47) _ rfl W.heap.size 39 i0 _ 3 24 Tryz.underlying107 hi0 hz0 hz1 hz2 rfl (by omega) (.slice A' (picks 1 (indexB N T) k).length c') _ _ rfl ((HO.out.alloc _).alloc _) (wr.heap.size + 1 + 1) (some ⟨wr.heap.size + 1,0,none⟩) 1 1 (w3 (1,(k:Int),0)) rfl (reads_newN _ _ _ 1 3 rfl (by simp)) (by simp [w3,Value.oneCell']) (by simp only [maxLen]; omega) (by omega) (by simp; omega) ?_); intro A1 c1 w1 hown1 hg1 hat1)
     all_goals try
      (refine ⟨⟨k + 1,by omega,by go_num,?_⟩,by simp [intOf]; omega⟩
       rw [HP.out,HL.out]
       have hb:(badV N t.a || badV N t.b || badV N t.c)=true:=by unfold badV; simp only [Bool.or_eq_true,decide_eq_true_eq]; omega
       rw [if_pos hb]
       exact WitRel.grow HO HB (((Below.refl _ _).alloc (Nat.le_refl _) _).alloc (by simp) _) hown1 hg1)
     rw [rounds_succ]
     go_wp2_with (at_builtin; go_must (refine wpList_append_sl _ rfl (.tmp 44) (.tmp 47) _ rfl W.heap.size 39 i0 _ 3 24 Tryz.underlying107 hi0 hz0 hz1 hz2 rfl (by omega) (.slice A' (picks 1 (indexB N T) k).length c') _ _ rfl ((HO.out.alloc _).alloc _) (wr.heap.size + 1 + 1) (some ⟨wr.heap.size + 1,0,none⟩) 1 1 (w3 (1,(k:Int),0)) rfl (reads_newN _ _ _ 1 3 rfl (by simp)) (by simp [w3,Value.oneCell']) (by simp only [maxLen]; omega) (by omega) (by simp; omega) ?_); intro A1 c1 w1 hown1 hg1 hat1)
     all_goals try
      (refine ⟨⟨k + 1,by omega,by go_num,?_⟩,by simp [intOf]; omega⟩
       rw [HP.out,HL.out]
       have hb:(badV N t.a || badV N t.b || badV N t.c)=true:=by unfold badV; simp only [Bool.or_eq_true,decide_eq_true_eq]; omega
       rw [if_pos hb]
       exact WitRel.grow HO HB (((Below.refl _ _).alloc (Nat.le_refl _) _).alloc (by simp) _) hown1 hg1)
     rw [rounds_succ]
     go_wp2_with (at_builtin; go_must (refine wpList_append_sl _ rfl (.tmp 44) (.tmp 47) _ rfl W.heap.size 39 i0 _ 3 24 Tryz.underlying107 hi0 hz0 hz1 hz2 rfl (by omega) (.slice A' (picks 1 (indexB N T) k).length c') _ _ rfl ((HO.out.alloc _).alloc _) (wr.heap.size + 1 + 1) (some ⟨wr.heap.size + 1,0,none⟩) 1 1 (w3 (1,(k:Int),0)) rfl (reads_newN _ _ _ 1 3 rfl (by simp)) (by simp [w3,Value.oneCell']) (by simp only [maxLen]; omega) (by omega) (by simp; omega) ?_); intro A1 c1 w1 hown1 hg1 hat1)
     all_goals try
      (refine ⟨⟨k + 1,by omega,by go_num,?_⟩,by simp [intOf]; omega⟩
       rw [HP.out,HL.out]
       have hb:(badV N t.a || badV N t.b || badV N t.c)=true:=by unfold badV; simp only [Bool.or_eq_true,decide_eq_true_eq]; omega
       rw [if_pos hb]
       exact WitRel.grow HO HB (((Below.refl _ _).alloc (Nat.le_refl _) _).alloc (by simp) _) hown1 hg1)
     rw [rounds_succ]
     go_wp2_with fail
     refine ⟨⟨k + 1,by omega,by go_num,?_⟩,by simp [intOf]; omega⟩
     rw [HP.out,HL.out]
     have hb:¬ (badV N t.a || badV N t.b || badV N t.c)=true:=by unfold badV; simp only [Bool.or_eq_true,decide_eq_true_eq]; omega
     rw [if_neg hb]
     exact WitRel.keep ⟨A',c',rfl,HO,HB⟩ ((Below.refl _ _).alloc (Nat.le_refl _) _)
   obtain rfl:k=n:=by omega
   go_wp2_with fail
   go_ret
   exact ⟨A',c',rfl,own_mono HO.out (Nat.le_of_lt hws),HW.out.trans (HB.out.mono (Nat.le_of_lt hws))⟩
end
section
open Go.RowKit Go.Sort Go.Shelf
def cmpI (a b:Int):Int:=if a < b then -1 else if b < a then 1 else 0
theorem isNaN_any (a:Int) (w:World):Calls Tryz.prog 102 #[.int .i64 a] w fun e w'=>e=.returned (.bool false) ∧ w'=w:=by
 go_enter Tryz.func102,Tryz.ntmps102
 go_wp2_with fail
 go_ret
 exact ⟨by simp,rfl⟩
theorem compare_any (a b:Int) (w:World):Calls Tryz.prog 83 #[.int .i64 a,.int .i64 b] w fun e w'=>e=.returned (.int .i64 (cmpI a b)) ∧ w'=w:=by
 by_cases h1:a < b
 · have H:cmpI a b=-1:=by unfold cmpI; rw [if_pos h1]
   rw [H]
   clear H
   go_enter Tryz.func83,Tryz.ntmps83
   go_wp2_with (go_at_call 102; refine (isNaN_any _ _).mono ?_; rintro e w' ⟨rfl,rfl⟩)
   go_ret
   exact ⟨rfl,rfl⟩
 by_cases h2:b < a
 · have H:cmpI a b=1:=by unfold cmpI; rw [if_neg h1,if_pos h2]
   rw [H]
   clear H
   go_enter Tryz.func83,Tryz.ntmps83
   go_wp2_with (go_at_call 102; refine (isNaN_any _ _).mono ?_; rintro e w' ⟨rfl,rfl⟩)
   go_ret
   exact ⟨rfl,rfl⟩
 have H:cmpI a b=0:=by unfold cmpI; rw [if_neg h1,if_neg h2]
 rw [H]
 clear H
 go_enter Tryz.func83,Tryz.ntmps83
 go_wp2_with (go_at_call 102; refine (isNaN_any _ _).mono ?_; rintro e w' ⟨rfl,rfl⟩)
 go_ret
 exact ⟨rfl,rfl⟩
def orI (a b:Int):Int:=if a=0 then b else a
theorem or_any (g:Nat) (a b:Int) (w:World) (h0:w.cell? ⟨g,0,none⟩=some (.int .i64 a)) (h1:w.cell? ⟨g,1,none⟩=some (.int .i64 b)) :
  Calls Tryz.prog 82 #[.slice (some ⟨g,0,none⟩) 2 2] w fun e w'=>e=.returned (.int .i64 (orI a b)) ∧ w'=w:=by
 by_cases ha:a=0
 · obtain rfl:=ha
   have H:Hid (orI 0 b=b):=jJ (by unfold orI; rw [if_pos rfl])
   rw [H.out]
   by_cases hb:b=0
   · obtain rfl:=hb
     go_enter Tryz.func82,Tryz.ntmps82
     go_wp2_with fail
     refine wp_loop_rounds 3 ?_
     rw [rounds_succ]
     go_wp2_with fail
     rw [rounds_succ]
     go_wp2_with fail
     rw [rounds_succ]
     go_wp2_with fail
     go_ret
     exact ⟨rfl,rfl⟩
   have hb':(b == 0)=false:=by rw [beq_eq_false_iff_ne]; exact hb
   go_enter Tryz.func82,Tryz.ntmps82
   go_wp2_with fail
   refine wp_loop_rounds 3 ?_
   rw [rounds_succ]
   go_wp2_with fail
   rw [rounds_succ]
   go_wp2_with fail
   go_ret
   exact ⟨rfl,rfl⟩
 have ha':(a == 0)=false:=by rw [beq_eq_false_iff_ne]; exact ha
 have H:Hid (orI a b=a):=jJ (by unfold orI; rw [if_neg ha])
 rw [H.out]
 go_enter Tryz.func82,Tryz.ntmps82
 go_wp2_with fail
 refine wp_loop_rounds 3 ?_
 rw [rounds_succ]
 go_wp2_with fail
 go_ret
 exact ⟨rfl,rfl⟩
theorem or_new {w:World} {g:Nat} (hg:w.heap.size=g) (a b:Int) (t:TypeId) :
  Calls Tryz.prog 82 #[.slice (some ⟨g,0,none⟩) 2 2] (w.alloc (.cells #[.int .i64 a,.int .i64 b] t)).drew fun e w'=>e=.returned (.int .i64 (orI a b)) ∧ w'=(w.alloc (.cells #[.int .i64 a,.int .i64 b] t)).drew:=by
 subst hg
 have hb:=(Blk.new w t #[.int .i64 a,.int .i64 b]).drew
 exact or_any _ a b _ (hb.cell 0) (hb.cell 1)
def cfW (x y:Int × Int):Int:=orI (cmpI x.2 y.2) (cmpI x.1 y.1)
def encW (kind:Int) (x:Int × Int):List Value:=[.int .i64 kind,.int .i64 x.1,.int .i64 x.2]
def GR (W w:World):Prop:=∃ q os,w=grow (W.drewN q) os
theorem GR.refl (W:World):GR W W:=⟨0,#[],by rw [grow_empty]; rfl⟩
theorem GR.alloc {W w:World} (h:GR W w) (o:Obj):GR W (w.alloc o):=by
 obtain ⟨q,os,rfl⟩:=h
 exact ⟨q,os ++ #[o],by rw [alloc_eq_grow,grow_grow]⟩
theorem GR.drew {W w:World} (h:GR W w):GR W w.drew:=by
 obtain ⟨q,os,rfl⟩:=h
 exact ⟨q + 1,os,rfl⟩
theorem GR.drewN {W w:World} (h:GR W w) (n:Nat):GR W (w.drewN n):=by
 obtain ⟨q,os,rfl⟩:=h
 exact ⟨q + n,os,by rw [← World.drewN_drewN]; rfl⟩
theorem GR.grow_ {W w:World} (h:GR W w) (os':Array Obj):GR W (grow w os'):=by
 obtain ⟨q,os,rfl⟩:=h
 exact ⟨q,os ++ os',by rw [grow_grow]⟩
theorem GR.cell {W w:World} (h:GR W w) {p:Addr} {v:Value} (hc:W.cell? p=some v):w.cell? p=some v:=by
 obtain ⟨q,os,rfl⟩:=h
 rw [cell?_grow _ _ _ (show p.block < (W.drewN q).heap.size from World.block_lt_of_cell? W p hc)]
 exact hc
structure GC (V:World) (g:Nat) (a b c d:Int):Prop where
 c0:V.cell? ⟨g,1,none⟩=some (.int .i64 a)
 c1:V.cell? ⟨g,2,none⟩=some (.int .i64 b)
 c2:V.cell? ⟨g + 1,1,none⟩=some (.int .i64 c)
 c3:V.cell? ⟨g + 1,2,none⟩=some (.int .i64 d)
theorem GC.on {V w:World} {g:Nat} {a b c d:Int} (h:GC V g a b c d) (hg:GR V w) :
  w.cell? ⟨g,1,none⟩=some (.int .i64 a) ∧ w.cell? ⟨g,2,none⟩=some (.int .i64 b) ∧ w.cell? ⟨g + 1,1,none⟩=some (.int .i64 c) ∧ w.cell? ⟨g + 1,2,none⟩=some (.int .i64 d) ∧ GR V w :=
 ⟨hg.cell h.c0,hg.cell h.c1,hg.cell h.c2,hg.cell h.c3,hg⟩
theorem GR.of {V w:World} {A B C D:Prop} (h:A ∧ B ∧ C ∧ D ∧ GR V w):GR V w:=h.2.2.2.2
theorem cmpW_any (kind:Int) (x y:Int × Int) (W:World) :
  Calls Tryz.prog 81 #[.agg (encW kind x).toArray,.agg (encW kind y).toArray] W fun e w'=>e=.returned (.int .i64 (cfW x y)) ∧ GR W w':=by
 obtain ⟨a,b⟩:=x
 obtain ⟨c,d⟩:=y
 have h1:=fun W'=>compare_any b d W'
 have h2:=fun W'=>compare_any a c W'
 have hr:Hid (cfW (a,b) (c,d)=orI (cmpI b d) (cmpI a c)):=jJ rfl
 rw [hr.out]
 generalize cmpI b d=r1 at h1 ⊢
 generalize cmpI a c=r2 at h2 ⊢
 have H1:=jJ h1
 have H2:=jJ h2
 clear h1 h2 hr
 unfold encW
 go_enter Tryz.func81,Tryz.ntmps81
 go_wp2_with fail
 obtain ⟨V,hV⟩:=jX ((W.alloc (.cells #[.int .i64 kind,.int .i64 a,.int .i64 b] 39)).alloc (.cells #[.int .i64 kind,.int .i64 c,.int .i64 d] 39))
 have hg:Hid (GR W V):=by subst hV; exact jJ (((GR.refl W).alloc _).alloc _)
 have hc:Hid (GC V W.heap.size a b c d):=by
  subst hV
  exact jJ ⟨((Blk.new W 39 #[.int .i64 kind,.int .i64 a,.int .i64 b]).alloc _).cell 1,((Blk.new W 39 #[.int .i64 kind,.int .i64 a,.int .i64 b]).alloc _).cell 2,by simp,by simp⟩
 rw [← hV]
 clear hV
 generalize W.heap.size=g at hc ⊢
 have GR0:=GR.refl V
 go_region_held3 (fun w'=>w'.cell? ⟨g,1,none⟩=some (.int .i64 a) ∧ w'.cell? ⟨g,2,none⟩=some (.int .i64 b) ∧ w'.cell? ⟨g + 1,1,none⟩=some (.int .i64 c) ∧ w'.cell? ⟨g + 1,2,none⟩=some (.int .i64 d) ∧ GR V w')
  (first | exact hc.out.on (GR.drew GR0) | exact hc.out.on (GR.alloc (GR.of (by assumption)) _) | exact hc.out.on (GR.of (by assumption)))
  (first | (go_at_call 82; refine (or_new rfl _ _ _).mono ?_; rintro e w' ⟨rfl,rfl⟩) | (go_at_call 83; (first | (with_reducible refine (H1.out _).mono ?_) | (with_reducible refine (H2.out _).mono ?_)); rintro e w' ⟨rfl,rfl⟩))
 go_wp2_with fail
 go_ret
 refine ⟨rfl,?_⟩
 obtain ⟨q,os,hq⟩:=hg.out
 subst hq
 exact (((GR.refl W).drewN q).grow_ os |>.alloc _).drew
def ltW (x y:Int × Int):Prop:=x.2 < y.2 ∨ (x.2=y.2 ∧ x.1 < y.1)
theorem ltOf_cfW (x y:Int × Int):ltOf cfW x y=true ↔ ltW x y:=by
 unfold ltOf cfW orI cmpI ltW
 rw [decide_eq_true_eq]
 by_cases h1:x.2 < y.2
 · simp [h1]
 by_cases h2:y.2 < x.2
 · simp [h1,h2]; omega
 by_cases h3:x.1 < y.1
 · simp [h1,h2,h3]; omega
 by_cases h4:y.1 < x.1
 · simp [h1,h2,h3,h4]
 simp [h1,h2,h3,h4]
theorem ltOf_cfW_no (x y:Int × Int):ltOf cfW x y=false ↔ ¬ ltW x y:=by
 rw [← ltOf_cfW]; simp
theorem swoW:SWO (ltOf cfW) where
 irrefl x:=by rw [ltOf_cfW_no]; unfold ltW; omega
 trans x y z h1 h2:=by rw [ltOf_cfW] at *; unfold ltW at *; omega
 ntrans x y z h1 h2:=by rw [ltOf_cfW_no] at *; unfold ltW at *; omega
theorem totalW (x y:Int × Int) (h1:ltOf cfW x y=false) (h2:ltOf cfW y x=false):x=y:=by
 rw [ltOf_cfW_no] at *
 unfold ltW at *
 exact Prod.ext (by omega) (by omega)
def wit (kind:Int) (x:Int × Int):Int × Int × Int:=(kind,x.1,x.2)
theorem wit_flat (kind:Int) (d:List (Int × Int)):(d.map (wit kind)).flatMap w3=d.flatMap (encW kind):=by
 induction d with
 | nil=>rfl
 | cons a d ih=>rw [List.map_cons,List.flatMap_cons,List.flatMap_cons,ih]; rfl
def sortP (d:List (Int × Int)):List (Int × Int):=d.mergeSort fun x y=>!(ltOf cfW) y x
theorem sortW_any (kind:Int) (d:List (Int × Int)) (A:Option Addr) (c B:Nat) (w:World) (h:WitRow w B A c (d.map (wit kind))) (hne:d ≠ []) (hd:d.length ≤ 100000000) (hB:B ≤ w.heap.size) :
  Calls Tryz.prog 80 #[.slice A d.length c,.func (.func 81) #[] #[]] w fun e w'=>e=.returned (.tuple #[]) ∧ WitRow w' B A c ((sortP d).map (wit kind)) ∧ Below B w w':=by
 unfold WitRow at h
 rw [List.length_map,wit_flat] at h
 have hpos:0 < d.length:=List.length_pos_iff.2 hne
 obtain ⟨g,cap,hv,hBg,hlt⟩:=h.form hpos
 injection hv with hA _ hc
 subst hA hc
 have eg:∀ args w,(callFunc 81 args).run Tryz.prog w=.ok (.enter 81 args) w:=enters_of Tryz.func81 (by kernel_rfl) rfl
 have hcmp:CmpLays Tryz.prog 81 #[] (encW kind) 3 cfW g 0 d.toArray.size w:=fun m os dk _ x y=>(cmpW_any kind x y _).mono fun e w' ⟨he,hg⟩=>⟨he,hg⟩
 have hH:HoldsK (encW kind) 3 w g 0 d.toArray:=own_holds (k:=3) (enc:=encW kind) (fun _=>rfl) (d:=d.toArray) h
 have hcon:=AnyQ.slices_SortFunc_total Tryz.sortW 3 Tryz.isAgg39 Tryz.sizeOf39 (encW kind) (fun _=>rfl) (fun x v hv=>by simp [encW] at hv; rcases hv with rfl | rfl | rfl <;> rfl) cfW swoW 81 #[] g 0 c d.toArray w eg hcmp hH hlt (by simp; omega) totalW
 rw [show d.toArray.size=d.length by simp] at hcon
 refine hcon.mono ?_
 rintro e w' ⟨he,n,os,hw⟩
 subst hw
 refine ⟨he,?_,(only_sortWorldK _ _ _ _ _ _ _).below hB (fun k hk e=>by omega)⟩
 unfold WitRow
 rw [List.length_map,wit_flat]
 have hs:(sortP d).length=d.length:=by unfold sortP; exact List.length_mergeSort _
 have:=own_sorted (k:=3) (enc:=encW kind) (fun _=>rfl) (d:=d.toArray) (d':=(sortP d).toArray) (by simp [hs]) n os h
 rw [hs]
 simpa [sortP] using this
end
section
theorem run_make_rowN {P:Program} (t e:TypeId) (i:TypeInfo) (z:Value) (ht:P.underlying t=some (.slice e)) (hi:P.info? e=some i) (hz:i.zero=some z)
  (kl kc:IntKind) (n c:Nat) (hnc:n ≤ c) (hbytes:i.bytes * c ≤ 281474976710656) (h63:c ≤ 9223372036854775807) (w:World) :
  (Instr.makeSlice t (.int kl (n:Int)) (.int kc (c:Int))).run P w=.ok (.slice (some ⟨w.heap.size,0,none⟩) n c) (w.alloc (.cells (madeCells z.cells (c * i.size)) e)):=by
 have hb:(i.bytes:Int) * (c:Int) ≤ 281474976710656:=by
  have h:((i.bytes * c:Nat):Int) ≤ 281474976710656:=by omega
  rwa [Int.natCast_mul] at h
 have hr:=run_make (P:=P) w t e i z ht hi hz kl kc n c (by omega) (by omega) hb (by omega)
 simp only [Int.toNat_natCast] at hr
 exact hr
def bools (m:Nat) (p:Nat → Bool):Array Value:=((List.range m).map fun v=>Value.bool (p v)).toArray
theorem bools_size (m:Nat) (p:Nat → Bool):(bools m p).size=m:=by simp [bools]
theorem bools_at {m:Nat} (p:Nat → Bool) {v:Nat} (h:v < m):(bools m p)[v]?=some (.bool (p v)):=by simp [bools,h]
theorem bools_set {m:Nat} (p:Nat → Bool) (v:Nat):(bools m p).setIfInBounds v (.bool true)=bools m (fun u=>p u || u == v):=by
 apply Array.ext'
 refine List.ext_getElem? fun i=>?_
 rw [Array.getElem?_toList,Array.getElem?_toList,Array.getElem?_setIfInBounds]
 by_cases hi:i < m
 · rw [bools_at _ hi,bools_at _ hi]
   by_cases hv:v=i
   · subst hv
     rw [if_pos rfl,if_pos (by rw [bools_size]; exact hi)]
     simp
   rw [if_neg hv]
   have:(i == v)=false:=by rw [beq_eq_false_iff_ne]; exact fun e=>hv e.symm
   rw [this,Bool.or_false]
 have h1:∀ q:Nat → Bool,(bools m q)[i]?=none:=fun q=>Array.getElem?_eq_none (by rw [bools_size]; omega)
 rw [h1,h1]
 by_cases hv:v=i
 · rw [if_pos hv,if_neg (by rw [bools_size]; omega)]
 rw [if_neg hv]
theorem madeBools (m:Nat):madeCells (Value.bool false).cells m=bools m fun _=>false:=by
 apply Array.ext'
 refine List.ext_getElem? fun i=>?_
 by_cases hi:i < m
 · simp [madeCells,bools,hi,Value.cells,Nat.mod_one]
 simp [madeCells,bools,hi,Value.cells]
def hasV (t:Tri) (v:Nat):Bool:=t.a == (v:Int) || t.b == (v:Int) || t.c == (v:Int)
def usedTo (T:List Tri) (k:Nat) (v:Nat):Bool:=(T.take k).any fun t=>hasV t v
structure TriOk (m:Nat) (t:Tri):Prop where
 a0:0 ≤ t.a
 a1:t.a < m
 b0:0 ≤ t.b
 b1:t.b < m
 c0:0 ≤ t.c
 c1:t.c < m
 ab:t.a ≠ t.b
 bc:t.b ≠ t.c
 ca:t.c ≠ t.a
theorem nat_beq (a v:Nat):(((a:Int)) == ((v:Int)))=(v == a):=by
 rw [Bool.eq_iff_iff,beq_iff_eq,beq_iff_eq]
 omega
theorem bool_info:(Tryz.prog.info? 4).map (fun i=>(i.zero,i.size,i.bytes))=some (some (.bool false),1,1):=by kernel_rfl
theorem lonely_any (m:Nat) (A:Option Addr) (n c:Nat) (T:List Tri) (w:World) (hm:m ≤ 4096) (hn:n ≤ 10000) (ht:TrisAt w w.heap.size A n T) (hok:∀ t ∈ T,TriOk m t) :
  Calls Tryz.prog 78 #[.agg #[.int .i64 m,.slice A n c]] w (WitPost w (picks 5 (fun v=>!usedTo T n v) m)):=by
 obtain ⟨i0,hi0,hz0,hz1,hz2⟩:=info_parts wit_info
 obtain ⟨i1,hi1,hy0,hy1,hy2⟩:=info_parts bool_info
 have hmk:=fun W=>run_make_rowN (P:=Tryz.prog) 123 4 i1 (.bool false) Tryz.underlying123 hi1 hy0 .i64 .i64 m m (Nat.le_refl _) (by rw [hy2]; omega) (by omega) W
 rw [hy1,Nat.mul_one,madeBools] at hmk
 have HT:=jJ ht
 have HOK:=jJ hok
 clear ht hok hy0 hy1 hy2
 go_enter Tryz.func78,Tryz.ntmps78
 go_wp2_with fail
 have hg0:w.heap.size + 1=(w.alloc (.cells #[.int .i64 m,.slice A n c] 24)).heap.size:=by simp
 have HBk0:Hid (Blk ((w.alloc (.cells #[.int .i64 m,.slice A n c] 24)).alloc (.cells (bools m fun _=>false) 4)) (w.heap.size + 1) 4 (bools m fun _=>false)):=jJ (Blk.new_ hg0.symm _ _)
 have HBe0:Hid (Below w.heap.size w ((w.alloc (.cells #[.int .i64 m,.slice A n c] 24)).alloc (.cells (bools m fun _=>false) 4))):=jJ (((Below.refl _ _).alloc (Nat.le_refl _) _).alloc (by simp) _)
 clear hg0 hmk
 obtain ⟨g,hg⟩:=jX (w.heap.size + 1)
 have hgw:w.heap.size < g:=by omega
 rw [← hg] at HBk0 ⊢
 clear hg
 go_loopw [17] (fun iv wr=>∃ k:Nat,k ≤ n ∧ iv=.int .i64 k ∧ Hid (Blk wr g 4 (bools m (usedTo T k))) ∧ Hid (Below w.heap.size w wr)) (fun iv _=>n - (intOf iv).toNat)
 case atStart=>exact ⟨0,by omega,rfl,by have:=HBk0.out; exact jJ this,HBe0⟩
 obtain ⟨k,hk,rfl,HBk,HBe⟩:=hrel
 by_cases hlt:k < n
 · obtain ⟨ad,t,rfl,htk,htm,hadb,hc3⟩:=(HT.out.below HBe.out).at_ hlt
   obtain ⟨d0,d1,d2,d3,d4,d5⟩:=hc3
   obtain ⟨ta,tb,tc⟩:=t
   have hto:=HOK.out _ htm
   obtain ⟨q0,q1,q2,q3,q4,q5,q6,q7,q8⟩:=hto
   simp only at q0 q1 q2 q3 q4 q5 q6 q7 q8 d0 d1 d2 d3 d4 d5
   obtain ⟨a,rfl⟩:=Int.eq_ofNat_of_zero_le q0
   obtain ⟨b,rfl⟩:=Int.eq_ofNat_of_zero_le q2
   obtain ⟨cc,rfl⟩:=Int.eq_ofNat_of_zero_le q4
   have p1:a < m:=by omega
   have p2:b < m:=by omega
   have p3:cc < m:=by omega
   have n1:¬ a=b:=by omega
   have n2:¬ b=cc:=by omega
   have n3:¬ cc=a:=by omega
   have HU:Hid (bools m (usedTo T (k + 1))=(((bools m (usedTo T k)).setIfInBounds a (.bool true)).setIfInBounds b (.bool true)).setIfInBounds cc (.bool true)):=by
    refine jJ ?_
    rw [bools_set,bools_set,bools_set]
    congr 1
    funext v
    unfold usedTo hasV
    rw [take_snoc_ T k htk,List.any_append]
    simp only [List.any_cons,List.any_nil,Bool.or_false]
    rw [nat_beq a v,nat_beq b v,nat_beq cc v]
    simp only [Bool.or_assoc]
   have e0:∀ w,(Instr.index 65 (.agg #[.int .i64 a,.int .i64 b,.int .i64 cc]) (.int .i64 0)).run Tryz.prog w=.ok (.int .i64 a) w:=fun _=>by kernel_rfl
   have e1:∀ w,(Instr.index 65 (.agg #[.int .i64 a,.int .i64 b,.int .i64 cc]) (.int .i64 1)).run Tryz.prog w=.ok (.int .i64 b) w:=fun _=>by kernel_rfl
   have e2:∀ w,(Instr.index 65 (.agg #[.int .i64 a,.int .i64 b,.int .i64 cc]) (.int .i64 2)).run Tryz.prog w=.ok (.int .i64 cc) w:=fun _=>by kernel_rfl
   have x0:=(HBk.out.cell a).trans (bools_at _ p1)
   have x1:=(HBk.out.cell b).trans (bools_at _ p2)
   have x2:=(HBk.out.cell cc).trans (bools_at _ p3)
   have y0:=HBk.out.frozen a
   have y1:=HBk.out.frozen b
   have y2:=HBk.out.frozen cc
   have hgl:=HBk.out.lt
   clear htk htm q0 q1 q2 q3 q4 q5 q6 q7 q8
   go_wp2_with fail
   refine wp_loop_rounds 4 ?_
   rw [rounds_succ]
   go_wp2_with fail
   rw [rounds_succ]
   go_wp2_with fail
   rw [rounds_succ]
   go_wp2_with fail
   rw [rounds_succ]
   go_wp2_with fail
   refine ⟨⟨k + 1,by omega,by go_num,?_,?_⟩,by simp [intOf]; omega⟩
   · refine jJ ?_
     rw [HU.out]
     exact (((HBk.out.set_ a _).set_ b _).set_ cc _).alloc _
   exact jJ ((((HBe.out.setCell (p:=⟨g,a,none⟩) (Nat.le_of_lt hgw) _).setCell (p:=⟨g,b,none⟩) (Nat.le_of_lt hgw) _).setCell (p:=⟨g,cc,none⟩) (Nat.le_of_lt hgw) _).alloc (by have:=HBe.out.size; simpa using this) _)
 obtain rfl:k=n:=by omega
 obtain ⟨W,hW⟩:=jX wr
 rw [← hW] at HBk HBe ⊢
 clear hW hlt hk
 have hgl:=HBk.out.lt
 go_wp2_with fail
 go_loopw [8,32] (fun lv iv wr=>∃ v:Nat,v ≤ m ∧ iv=.int .i64 v ∧ WitRel W wr (picks 5 (fun v=>!usedTo T k v) v) lv) (fun _ iv _=>m - (intOf iv).toNat)
 case atStart=>exact ⟨0,by omega,rfl,WitRel.start0 _⟩
 obtain ⟨v,hv,rfl,A',c',rfl,HO,HB⟩:=hrel
 by_cases hlt:v < m
 · have x0:=((HBk.out.below HB.out hgl).cell v).trans (bools_at _ hlt)
   have HP:=jJ (picks_succ 5 (fun v=>!usedTo T k v) v)
   have hsz:=HB.out.size
   have hpl:=picks_len 5 (fun v=>!usedTo T k v) v
   cases hu:usedTo T k v with
   | true =>
    rw [hu] at x0
    have HU:=jJ hu
    clear hu
    go_wp2_with fail
    refine ⟨⟨v + 1,by omega,by go_num,?_⟩,by simp [intOf]; omega⟩
    rw [HP.out,if_neg (by rw [HU.out]; decide)]
    exact ⟨A',c',rfl,HO,HB⟩
   | false =>
    rw [hu] at x0
    have HU:=jJ hu
    clear hu
    go_wp2_with (at_builtin; go_must (refine wpList_append_sl _ rfl (.tmp 39) (.tmp 42) _ rfl W.heap.size 39 i0 _ 3 24 Tryz.underlying107 hi0 hz0 hz1 hz2 rfl (by omega) (.slice A' (picks 5 (fun v=>!usedTo T k v) v).length c') _ _ rfl (HO.out.alloc _) (wr.heap.size + 1) (some ⟨wr.heap.size,0,none⟩) 1 1 (w3 (5,(v:Int),0)) rfl (reads_newN _ _ _ 1 3 rfl rfl) (by simp [w3,Value.oneCell']) (by simp only [maxLen]; omega) (by omega) (by simp; omega) ?_); intro A1 c1 w1 hown1 hg1 hat1)
    refine ⟨⟨v + 1,by omega,by go_num,?_⟩,by simp [intOf]; omega⟩
    rw [HP.out,if_pos (by rw [HU.out]; decide)]
    exact WitRel.grow HO HB ((Below.refl _ _).alloc (Nat.le_refl _) _) hown1 hg1
 obtain rfl:v=m:=by omega
 go_wp2_with fail
 go_ret
 exact ⟨A',c',rfl,own_mono HO.out HBe.out.size,HBe.out.trans (HB.out.mono HBe.out.size)⟩
end
section
open Go.RowKit Go.Sort Go.Shelf
def keys2 (t:Tri):List (Int × Int × Int):=[(t.a,t.b,0),(t.b,t.c,0),(t.c,t.a,0)]
def sort3L (t:Tri):List Int:=[t.a,t.b,t.c].mergeSort fun x y=>decide (x ≤ y)
def sort3 (t:Tri):Int × Int × Int:=((sort3L t).getD 0 0,(sort3L t).getD 1 0,(sort3L t).getD 2 0)
theorem sort3L_len (t:Tri):(sort3L t).length=3:=by unfold sort3L; rw [List.length_mergeSort]; rfl
theorem sort3_list (t:Tri):sort3L t=[(sort3 t).1,(sort3 t).2.1,(sort3 t).2.2]:=by
 have h:=sort3L_len t
 unfold sort3
 match hm:sort3L t,h with
 | [x,y,z],_=>rfl
def keys3 (t:Tri):List (Int × Int × Int):=[sort3 t]
def KeysPost (w:World) (ks:List (Int × Int × Int)) (e:Ending) (w':World):Prop :=
 ∃ g,e=.returned (.slice (some ⟨g,0,none⟩) ks.length ks.length) ∧ w.heap.size ≤ g ∧ Blk w' g 64 (ks.flatMap w3).toArray ∧ Below w.heap.size w w'
theorem keys2_any (t:Tri) (w:World):Calls Tryz.prog 98 #[.agg #[.int .i64 t.a,.int .i64 t.b,.int .i64 t.c]] w (KeysPost w (keys2 t)):=by
 obtain ⟨a,b,c⟩:=t
 go_enter Tryz.func98,Tryz.ntmps98
 go_wp2_with fail
 go_ret
 refine ⟨w.heap.size + 1,rfl,by omega,?_,((Below.refl _ _).alloc (Nat.le_refl _) _).alloc (by simp) _⟩
 exact Blk.new_ (by simp) _ _
theorem blk_sorted {w:World} {g:Nat} {e:TypeId} {x y z:Int} (h:Blk w g e #[.int .i64 x,.int .i64 y,.int .i64 z]) (n:Nat) (os:Array Obj) (x' y' z':Int) :
  Blk (grow (putRow (Value.int .i64) (Sort.ahead w n) g 0 #[x',y',z']) os) g e #[.int .i64 x',.int .i64 y',.int .i64 z'] ∧ Only (fun i=>i=g) w (grow (putRow (Value.int .i64) (Sort.ahead w n) g 0 #[x',y',z']) os):=by
 have hsz:(putRow (Value.int .i64) (Sort.ahead w n) g 0 #[x',y',z']).heap.size=w.heap.size:=by simp [putRow,mapBlock,Sort.ahead]
 have hne:∀ i,i < w.heap.size → i ≠ g → (grow (putRow (Value.int .i64) (Sort.ahead w n) g 0 #[x',y',z']) os).heap[i]?=w.heap[i]?:=by
  intro i hi hn
  rw [heap_grow_old _ _ (by rw [hsz]; exact hi)]
  unfold putRow mapBlock Sort.ahead
  simp only [Array.getElem?_modify,if_neg (Ne.symm hn)]
 refine ⟨?_,⟨rfl,rfl,rfl,?_,fun i hi hn=>hne i hi hn⟩⟩
 · unfold Blk
   rw [heap_grow_old _ _ (by rw [hsz]; exact h.lt)]
   unfold putRow mapBlock Sort.ahead
   unfold Blk at h
   simp only [Array.getElem?_modify,if_true,h,Option.map_some]
   rfl
 rw [size_grow,hsz]
 exact Nat.le_add_right _ _
theorem sort3_any (t:Tri) (g:Nat) (e:TypeId) (w:World) (h:Blk w g e #[.int .i64 t.a,.int .i64 t.b,.int .i64 t.c]) :
  Calls Tryz.prog 67 #[.slice (some ⟨g,0,none⟩) 3 3] w fun e' w'=>e'=.returned (.tuple #[]) ∧ Blk w' g e #[.int .i64 (sort3 t).1,.int .i64 (sort3 t).2.1,.int .i64 (sort3 t).2.2] ∧ Only (fun i=>i=g) w w':=by
 have hH:Holds (Value.int .i64) w g 0 [t.a,t.b,t.c].toArray:=by
  intro j hj
  have hj':j < 3:=by simpa using hj
  refine ⟨?_,h.frozen _⟩
  rw [Nat.zero_add,h.cell]
  rcases (by omega:j=0 ∨ j=1 ∨ j=2) with rfl | rfl | rfl <;> rfl
 refine (Any.slices_Sort_int Tryz.sortI g 0 3 [t.a,t.b,t.c] w hH h.lt (by simp)).mono ?_
 rintro e' w' ⟨he,n,os,rfl⟩
 refine ⟨he,?_⟩
 have hs:([t.a,t.b,t.c].mergeSort fun x y=>decide (x ≤ y))=[(sort3 t).1,(sort3 t).2.1,(sort3 t).2.2]:=sort3_list t
 rw [hs]
 exact blk_sorted h n os _ _ _
theorem keys3_any (t:Tri) (w:World):Calls Tryz.prog 99 #[.agg #[.int .i64 t.a,.int .i64 t.b,.int .i64 t.c]] w (KeysPost w (keys3 t)):=by
 have hs:=fun g e w=>sort3_any t g e w
 have hk:keys3 t=[((sort3 t).1,(sort3 t).2.1,(sort3 t).2.2)]:=rfl
 rw [hk]
 generalize (sort3 t).1=x at *
 generalize (sort3 t).2.1=y at *
 generalize (sort3 t).2.2=z at *
 clear hk
 obtain ⟨a,b,c⟩:=t
 have HS:=jJ hs
 clear hs
 go_enter Tryz.func99,Tryz.ntmps99
 go_wp2_with fail
 have hb:Blk ((w.alloc (.cells #[.int .i64 a,.int .i64 b,.int .i64 c] 65)).alloc (.cells #[.int .i64 a,.int .i64 b,.int .i64 c] 65)) (w.heap.size + 1) 65 #[.int .i64 a,.int .i64 b,.int .i64 c]:=Blk.new_ (by simp) _ _
 refine (HS.out _ _ _ hb).mono ?_
 rintro e w1 ⟨rfl,hb1,ho⟩
 have hbe:Below w.heap.size w w1:=(((Below.refl _ _).alloc (Nat.le_refl _) _).alloc (by simp) _).trans (ho.below (by simp; omega) fun k hk e=>by omega)
 have c0:=hb1.cell 0
 have c1:=hb1.cell 1
 have c2:=hb1.cell 2
 simp at c0 c1 c2
 have HBE:=jJ hbe
 clear hb hb1 ho hbe
 go_wp2_with fail
 go_ret
 refine ⟨w1.heap.size,rfl,HBE.out.size,?_,HBE.out.alloc HBE.out.size _⟩
 exact Blk.new _ _ _
end
section
theorem nodup_le {α:Type}:∀ (l l':List α),l.Nodup → (∀ x ∈ l,x ∈ l') → l.length ≤ l'.length
 | [],_,_,_=>Nat.zero_le _
 | a :: l,l',hn,hs=>by
  obtain ⟨h1,h2⟩:=List.nodup_cons.1 hn
  obtain ⟨s,t,rfl⟩:=List.append_of_mem (hs a (by simp))
  have:=nodup_le l (s ++ t) h2 fun x hx=>by
   have:=hs x (by simp [hx])
   simp only [List.mem_append,List.mem_cons] at this ⊢
   rcases this with h | rfl | h
   · exact .inl h
   · exact absurd hx h1
   exact .inr h
  simp at this ⊢
  omega
abbrev K3:=Int × Int × Int
structure PS where
 had:K3 → List Nat
 out:List (Nat × Nat)
def addP (i:Nat) (L:List (Nat × Nat)) (a:Nat):List (Nat × Nat):=if (a,i) ∈ L then L else L ++ [(a,i)]
def PS.key (i:Nat) (s:PS) (k:K3):PS:=⟨fun x=>if x=k then s.had k ++ [i] else s.had x,(s.had k).foldl (addP i) s.out⟩
def PS.tri (keys:Tri → List K3) (s:PS) (i:Nat) (t:Tri):PS:=(keys t).foldl (PS.key i) s
def PS.to (keys:Tri → List K3) (T:List Tri):Nat → PS
 | 0=>⟨fun _=>[],[]⟩
 | k + 1=>match T[k]? with
  | some t=>(PS.to keys T k).tri keys k t
  | none=>PS.to keys T k
structure PS.Ok (s:PS) (n c:Nat):Prop where
 lt:∀ x,∀ a ∈ s.had x,a < n
 len:∀ x,(s.had x).length ≤ c
 nodup:s.out.Nodup
 olt:∀ p ∈ s.out,p.1 < n ∧ p.2 < n
def OutOk (L:List (Nat × Nat)) (n:Nat):Prop:=L.Nodup ∧ ∀ p ∈ L,p.1 < n ∧ p.2 < n
theorem addP_ok {i n a:Nat} {L:List (Nat × Nat)} (h:OutOk L n) (hi:i < n) (ha:a < n):OutOk (addP i L a) n:=by
 unfold addP
 split
 · exact h
 rename_i hn
 refine ⟨?_,fun p hp=>?_⟩
 · rw [List.nodup_append]
   exact ⟨h.1,by simp,fun x hx y hy=>by simp at hy; subst hy; rintro rfl; exact hn hx⟩
 rcases List.mem_append.1 hp with h' | h'
 · exact h.2 p h'
 simp at h'; subst h'; exact ⟨ha,hi⟩
theorem foldP_ok {i n:Nat} (hi:i < n):∀ (l:List Nat) (L:List (Nat × Nat)),OutOk L n → (∀ a ∈ l,a < n) → OutOk (l.foldl (addP i) L) n
 | [],_,h,_=>h
 | a :: l,L,h,hl=>foldP_ok hi l _ (addP_ok h hi (hl a (by simp))) fun b hb=>hl b (by simp [hb])
theorem outOk_len {L:List (Nat × Nat)} {n:Nat} (h:OutOk L n):L.length ≤ n * n:=by
 have hl:((List.range n).flatMap fun a=>(List.range n).map fun b=>(a,b)).length=n * n:=by
  rw [List.length_flatMap]
  simp [List.map_const']
 rw [← hl]
 refine nodup_le _ _ h.1 fun p hp=>?_
 obtain ⟨a,b⟩:=p
 have:=h.2 _ hp
 simp only [List.mem_flatMap,List.mem_map,List.mem_range]
 exact ⟨a,this.1,b,this.2,rfl⟩
theorem PS.Ok.out {s:PS} {n c:Nat} (h:s.Ok n c):OutOk s.out n:=⟨h.nodup,h.olt⟩
theorem key_ok {s:PS} {n c i:Nat} (h:s.Ok n c) (hi:i < n) (k:K3):(PS.key i s k).Ok n (c + 1):=by
 have ho:=foldP_ok hi (s.had k) s.out h.out (h.lt k)
 refine ⟨fun x a ha=>?_,fun x=>?_,ho.1,ho.2⟩
 · simp only [PS.key] at ha
   split at ha
   · rcases List.mem_append.1 ha with h' | h'
     · exact h.lt _ a h'
     simp at h'; omega
   exact h.lt _ a ha
 simp only [PS.key]
 split
 · have:=h.len k; simp; omega
 have:=h.len x; omega
theorem keys_ok {n i:Nat} (hi:i < n):∀ (ks:List K3) (s:PS) (c:Nat),s.Ok n c → (ks.foldl (PS.key i) s).Ok n (c + ks.length)
 | [],_,_,h=>h
 | k :: ks,s,c,h=>by
  have:=keys_ok hi ks _ _ (key_ok h hi k)
  rw [List.length_cons,show c + (ks.length + 1)=c + 1 + ks.length by omega]
  exact this
theorem to_ok (keys:Tri → List K3) (hk:∀ t,(keys t).length ≤ 3) (T:List Tri) {n:Nat}:∀ k,k ≤ n → (PS.to keys T k).Ok n (3 * k)
 | 0,_=>⟨(fun x a ha=>by cases ha),(fun x=>Nat.le_refl _),List.nodup_nil,(fun p hp=>by cases hp)⟩
 | k + 1,hkn=>by
  have h:=to_ok keys hk T (n:=n) k (by omega)
  unfold PS.to
  cases hT:T[k]? with
  | none=>exact ⟨h.lt,fun x=>Nat.le_trans (h.len x) (by omega),h.nodup,h.olt⟩
  | some t =>
   have h2:=keys_ok (show k < n by omega) (keys t) _ _ h
   exact ⟨h2.lt,fun x=>Nat.le_trans (h2.len x) (by have:=hk t; omega),h2.nodup,h2.olt⟩
theorem to_succ (keys:Tri → List K3) {T:List Tri} {k:Nat} {t:Tri} (h:T[k]?=some t):PS.to keys T (k + 1)=(keys t).foldl (PS.key k) (PS.to keys T k):=by
 show (match T[k]? with
  | some t=>(PS.to keys T k).tri keys k t
  | none=>PS.to keys T k)=_
 rw [h]
 rfl
theorem foldl_snoc_take {α β:Type} (f:β → α → β) (b:β) (l:List α) (j:Nat) {x:α} (h:l[j]?=some x):(l.take (j + 1)).foldl f b=f ((l.take j).foldl f b) x:=by
 rw [take_snoc_ l j h,List.foldl_append]; rfl
end
section
open Go.RowKit Go.ChangeMaps Go.MapKept
open Go.WideElems (Fit rd rg pl rd_val rd_key)
open Go.Maps (Keyed)
open Go.WideMaps (KeyLaw)
open Classical in
noncomputable def putV (f:Value → Option Value) (x v:Value):Value → Option Value:=fun y=>if y=x then some v else f y
open Classical in
noncomputable def dropV (f:Value → Option Value) (x:Value):Value → Option Value:=fun y=>if y=x then none else f y
theorem putV_same (f:Value → Option Value) (x v:Value):putV f x v x=some v:=by unfold putV; simp
theorem putV_ne (f:Value → Option Value) {x y:Value} (v:Value) (h:y ≠ x):putV f x v y=f y:=by unfold putV; simp [h]
theorem dropV_same (f:Value → Option Value) (x:Value):dropV f x x=none:=by unfold dropV; simp
theorem dropV_ne (f:Value → Option Value) {x y:Value} (h:y ≠ x):dropV f x y=f y:=by unfold dropV; simp [h]
def MapV (P:Program) (k:TypeId) (w:World) (b n:Nat) (f:Value → Option Value):Prop :=
 ∃ es clock,w.heap[b]?=some (.map es clock) ∧ Fit P k anyElem es clock ∧ es.size=n ∧
  ∀ x,(∃ l,keyOf P k x=some l) → ∀ v,f x=some v ↔ ∃ e ∈ es.toList,e.key=x ∧ e.val=v
section
variable {P:Program} {k:TypeId} {w w':World} {b n:Nat} {f:Value → Option Value}
theorem MapV.made (P:Program) (k:TypeId) (w:World):MapV P k (w.alloc (.map #[] 0)) w.heap.size 0 (fun _=>none) :=
 ⟨#[],0,(MapKept.heap_alloc w _).1,⟨by simp,stamped_empty 0,by simp⟩,rfl,fun x _ v=>by simp⟩
theorem MapV.made_ (P:Program) (k:TypeId) {w:World} {b:Nat} (hb:w.heap.size=b):MapV P k (w.alloc (.map #[] 0)) b 0 (fun _=>none):=hb ▸ MapV.made P k w
theorem MapV.lt (h:MapV P k w b n f):b < w.heap.size:=by
 obtain ⟨es,clock,hb,_⟩:=h
 exact (Array.getElem?_eq_some_iff.1 hb).1
theorem MapV.same (h:MapV P k w b n f) (hs:w'.heap[b]?=w.heap[b]?):MapV P k w' b n f:=by
 obtain ⟨es,clock,hb,r⟩:=h
 exact ⟨es,clock,hs.trans hb,r⟩
theorem MapV.only {F:Nat → Prop} (h:MapV P k w b n f) (ho:Only F w w') (hn:¬ F b):MapV P k w' b n f:=h.same (ho.block b h.lt hn)
theorem MapV.below {B:Nat} (h:MapV P k w b n f) (hb:Below B w w') (hB:b < B):MapV P k w' b n f:=h.same (hb.block b hB)
theorem MapV.alloc (h:MapV P k w b n f) (o:Obj):MapV P k (w.alloc o) b n f:=h.same (Below.heap_alloc w o b h.lt)
theorem MapV.drew (h:MapV P k w b n f):MapV P k w.drew b n f:=h
theorem MapV.drewN (h:MapV P k w b n f) (m:Nat):MapV P k (w.drewN m) b n f:=h
theorem MapV.grown {row:Option Nat} (h:MapV P k w b n f) (hg:w.grownBy w' row) (hn:some b ≠ row):MapV P k w' b n f:=h.same (hg.block b h.lt hn)
theorem MapV.setCell (h:MapV P k w b n f) {p:Addr} {u0:Value} (hp:w.cell? p=some u0) (u:Value):MapV P k (w.setCell p u) b n f:=by
 refine h.same (Below.heap_setCell w p u b ?_)
 rintro rfl
 obtain ⟨es,clock,hb,_⟩:=h
 simp [World.cell?,hb] at hp
theorem MapV.setBlock (h:MapV P k w b n f) {b':Nat} (hne:b ≠ b') (o:Obj):MapV P k (ChangeMaps.setBlock w b' o) b n f:=h.same (heap_setBlock_ne w b' o hne)
theorem MapV.ne_blk {g:Nat} {t:TypeId} {cs:Array Value} (h:MapV P k w b n f) (hg:Blk w g t cs):b ≠ g:=by
 rintro rfl
 obtain ⟨es,clock,hb,_⟩:=h
 unfold Blk at hg
 rw [hb] at hg
 cases hg
theorem MapV.congr {f':Value → Option Value} (h:MapV P k w b n f) (hf:∀ x,f x=f' x):MapV P k w b n f':=by
 obtain rfl:f=f':=funext hf
 exact h
theorem MapV.look (h:MapV P k w b n f) (K:Keyed P k) {t e:TypeId} (ht:P.underlying t=some (.map k e)) {z:Value} (hz:(zeroValue e).run P w=.ok z w)
  {x:Value} {kl:Lit} (hkey:keyOf P k x=some kl) (c:Bool) :
  (Instr.lookup t (.map (some b)) x c).run P w=.ok (if c then .tuple #[(f x).getD z,.bool (f x).isSome] else (f x).getD z) w:=by
 obtain ⟨es,clock,hb,F,_,hf⟩:=h
 rcases Maps.fit_look c K ht hz hb F hkey with ⟨hrun,hno,_⟩ | ⟨e0,y,hm,hke,hrun,_⟩
 · have hn:f x=none:=by
    cases hfx:f x with
    | none=>rfl
    | some v =>
     obtain ⟨e',he',hk',_⟩:=(hf x ⟨_,hkey⟩ v).1 hfx
     exact absurd hk' (hno e' he')
   rw [hrun,hn]; rfl
 · have hs:f x=some e0.val:=(hf x ⟨_,hkey⟩ _).2 ⟨e0,hm,hke,rfl⟩
   rw [hrun,hs]; rfl
theorem MapV.store (h:MapV P k w b n f) (K:Keyed P k) {t e:TypeId} (ht:P.underlying t=some (.map k e)) (hn:n < maxLen) {x:Value} {kl:Lit} (hkey:keyOf P k x=some kl) (v:Value) :
  ∃ es' clock',(Instr.mapUpdate t (.map (some b)) x v).run P w=.ok () (ChangeMaps.setBlock w b (.map es' clock')) ∧
   MapV P k (ChangeMaps.setBlock w b (.map es' clock')) b (if (f x).isSome then n else n + 1) (putV f x v):=by
 obtain ⟨es,clock,hb,F,hs,hf⟩:=h
 have fin:∀ (es':Array MapEntry) (clock':Nat),Fit P k anyElem es' clock' → (∀ e,e ∈ es'.toList ↔ (e ∈ es.toList ∧ e.key ≠ x) ∨ (e ∈ es'.toList ∧ e.key=x ∧ e.val=v)) →
   (∃ e ∈ es'.toList,e.key=x) → es'.size=(if (f x).isSome then n else n + 1) → MapV P k (ChangeMaps.setBlock w b (.map es' clock')) b (if (f x).isSome then n else n + 1) (putV f x v):=by
  intro es' clock' F' hmem hex hsz
  refine ⟨es',clock',heap_setBlock_same hb _,F',hsz,fun y hy u=>?_⟩
  by_cases hyx:y=x
  · subst hyx
    rw [putV_same,Option.some.injEq]
    constructor
    · rintro rfl
      obtain ⟨e,he,hek⟩:=hex
      rcases (hmem e).1 he with ⟨_,h2⟩ | ⟨_,h2,h3⟩
      · exact absurd hek h2
      exact ⟨e,he,h2,h3⟩
    rintro ⟨e,he,hek,hev⟩
    rcases (hmem e).1 he with ⟨_,h2⟩ | ⟨_,_,h3⟩
    · exact absurd hek h2
    rw [← hev,h3]
  rw [putV_ne f v hyx]
  rw [hf y hy u]
  constructor
  · rintro ⟨e,he,hek,hev⟩
    exact ⟨e,(hmem e).2 (.inl ⟨he,by rw [hek]; exact hyx⟩),hek,hev⟩
  rintro ⟨e,he,hek,hev⟩
  rcases (hmem e).1 he with ⟨h1,_⟩ | ⟨_,h2,_⟩
  · exact ⟨e,h1,hek,hev⟩
  rw [hek] at h2; exact absurd h2 hyx
 rcases K.find w hkey es.toList F.keys with ⟨h1,h2⟩ | ⟨j,e0,h1,h2,h3⟩
 · have hno:f x=none:=by
    cases hfx:f x with
    | none=>rfl
    | some u =>
     obtain ⟨e',he',hk',_⟩:=(hf x ⟨_,hkey⟩ u).1 hfx
     exact absurd hk' (h2 e' he')
   refine ⟨es.push ⟨x,v,clock⟩,clock + 1,?_,fin _ _ ⟨by simp; omega,stamped_push F.stamped h2,?_⟩ ?_ ?_ ?_⟩
   · simp [Instr.mapUpdate,run_underlying ht,MapKept.run_getObj_map hb,K.check w false hkey,h1,MapKept.run_setObj_map _ hb,Result.andThen,ChangeMaps.setBlock]
   · intro e he
     simp only [Array.toList_push,List.mem_append,List.mem_singleton] at he
     rcases he with he | rfl
     · exact F.reads e he
     exact ⟨_,WideElems.rd_mk hkey rfl⟩
   · intro e
     simp only [Array.toList_push,List.mem_append,List.mem_singleton]
     constructor
     · rintro (he | rfl)
       · exact .inl ⟨he,h2 e he⟩
       exact .inr ⟨.inr rfl,rfl,rfl⟩
     rintro (⟨he,_⟩ | ⟨he,_⟩)
     · exact .inl he
     exact he
   · exact ⟨⟨x,v,clock⟩,by simp,rfl⟩
   simp [hno,hs]
 · have hj:es[j]?=some e0:=by simpa using h2
   have hjl:j < es.toList.length:=(List.getElem?_eq_some_iff.1 h2).1
   have hm0:e0 ∈ es.toList:=List.mem_of_getElem? h2
   have hso:f x=some e0.val:=(hf x ⟨_,hkey⟩ _).2 ⟨e0,hm0,h3,rfl⟩
   have hkeyf:∀ e',es[j]?=some e' → ({ e' with key:=x,val:=v }:MapEntry).key=e'.key:=fun e' he'=>by rw [hj] at he'; cases he'; exact h3.symm
   have hlist:(es.modify j (fun e'=>{ e' with key:=x,val:=v })).toList=es.toList.set j { e0 with key:=x,val:=v }:=by rw [Array.toList_modify,ChangeMaps.modify_eq_set _ _ _ _ h2]
   have who:∀ e ∈ es.toList.set j { e0 with key:=x,val:=v },e={ e0 with key:=x,val:=v } ∨ (e ∈ es.toList ∧ e.key ≠ x):=by
    intro e he
    obtain ⟨i,hi,ex⟩:=List.getElem_of_mem he
    rw [List.getElem_set] at ex
    split at ex
    · exact Or.inl ex.symm
    rename_i hne
    have hi':i < es.toList.length:=by simpa using hi
    refine Or.inr ⟨ex ▸ List.getElem_mem hi',?_⟩
    rw [← h3]
    exact WideElems.other_key F h2 (by rw [List.getElem?_eq_getElem hi',ex]) (fun e1=>hne e1.symm)
   refine ⟨es.modify j (fun e'=>{ e' with key:=x,val:=v }),clock,?_,fin _ _ ⟨by simpa using F.size,stamped_modify F.stamped _ _ (fun _ _=>rfl) (fun e' _ he'=>hkeyf e' he'),?_⟩ ?_ ?_ ?_⟩
   · simp [Instr.mapUpdate,run_underlying ht,MapKept.run_getObj_map hb,K.check w false hkey,h1,hj,h3,K.stays w hkey,MapKept.run_setObj_map _ hb,Result.andThen,ChangeMaps.setBlock]
   · intro e he
     rw [hlist] at he
     rcases who e he with rfl | ⟨he',_⟩
     · exact ⟨_,WideElems.rd_mk hkey rfl⟩
     exact F.reads e he'
   · intro e
     rw [hlist]
     constructor
     · intro he
       rcases who e he with rfl | h'
       · exact .inr ⟨he,rfl,rfl⟩
       exact .inl h'
     rintro (⟨he,hne⟩ | ⟨he,_⟩)
     · obtain ⟨i,hi,rfl⟩:=List.getElem_of_mem he
       have hij:i ≠ j:=by
        rintro rfl
        rw [List.getElem?_eq_getElem hi] at h2
        exact hne (by rw [Option.some.inj h2]; exact h3)
       refine List.mem_iff_getElem.2 ⟨i,by simpa using hi,?_⟩
       rw [List.getElem_set_ne (Ne.symm hij)]
     exact he
   · refine ⟨{ e0 with key:=x,val:=v },?_,rfl⟩
     rw [hlist]
     exact List.mem_iff_getElem.2 ⟨j,by simpa using hjl,by simp⟩
   simp [hso,hs]
theorem MapV.drop (h:MapV P k w b n f) (K:Keyed P k) {t e:TypeId} (ht:P.underlying t=some (.map k e)) {x:Value} {kl:Lit} (hkey:keyOf P k x=some kl) (ty:TypeId) :
  ∃ es' clock',(Builtin.delete_ #[t,k] ty #[.map (some b),x]).run P w=.ok (.tuple #[]) (ChangeMaps.setBlock w b (.map es' clock')) ∧
   MapV P k (ChangeMaps.setBlock w b (.map es' clock')) b (if (f x).isSome then n - 1 else n) (dropV f x):=by
 obtain ⟨es,clock,hb,F,hs,hf⟩:=h
 rcases K.find w hkey es.toList F.keys with ⟨h1,h2⟩ | ⟨j,e0,h1,h2,h3⟩
 · have hno:f x=none:=by
    cases hfx:f x with
    | none=>rfl
    | some u =>
     obtain ⟨e',he',hk',_⟩:=(hf x ⟨_,hkey⟩ u).1 hfx
     exact absurd hk' (h2 e' he')
   refine ⟨es,clock,?_,es,clock,heap_setBlock_same hb _,F,by simp [hno,hs],fun y hy u=>?_⟩
   · simp [Builtin.delete_,run_underlying ht,MapKept.run_getObj_map hb,K.check w _ hkey,h1,MapKept.run_setObj_map _ hb,Result.andThen,ChangeMaps.setBlock]
   by_cases hyx:y=x
   · subst hyx; rw [dropV_same]; rw [← hno]; exact hf y hy u
   rw [dropV_ne f hyx]; exact hf y hy u
 · have hjl:j < es.toList.length:=(List.getElem?_eq_some_iff.1 h2).1
   have hjs:j < es.size:=by simpa using hjl
   have hm0:e0 ∈ es.toList:=List.mem_of_getElem? h2
   have hso:f x=some e0.val:=(hf x ⟨_,hkey⟩ _).2 ⟨e0,hm0,h3,rfl⟩
   have hsub:(es.eraseIdxIfInBounds j).toList=es.toList.eraseIdx j:=by
    unfold Array.eraseIdxIfInBounds
    rw [dif_pos hjs]
    simp
   have hmem:∀ e,e ∈ es.toList.eraseIdx j ↔ e ∈ es.toList ∧ e.key ≠ x:=by
    intro e
    rw [List.mem_eraseIdx_iff_getElem?]
    constructor
    · rintro ⟨i,hne,hi⟩
      exact ⟨List.mem_of_getElem? hi,by rw [← h3]; exact WideElems.other_key F h2 hi hne⟩
    rintro ⟨he,hne⟩
    obtain ⟨i,hi⟩:=List.mem_iff_getElem?.1 he
    refine ⟨i,?_,hi⟩
    rintro rfl
    rw [h2] at hi
    exact hne (by rw [← Option.some.inj hi]; exact h3)
   refine ⟨es.eraseIdxIfInBounds j,clock,?_,es.eraseIdxIfInBounds j,clock,heap_setBlock_same hb _,⟨Nat.le_trans (MapFrom.size_erase es j) F.size,stamped_erase F.stamped j,?_⟩,?_,fun y hy u=>?_⟩
   · simp [Builtin.delete_,run_underlying ht,MapKept.run_getObj_map hb,K.check w _ hkey,h1,MapKept.run_setObj_map _ hb,Result.andThen,ChangeMaps.setBlock]
   · intro e he
     rw [hsub] at he
     exact F.reads e ((List.eraseIdx_sublist _ _).subset he)
   · simp only [hso,Option.isSome_some,if_true]
     rw [← Array.length_toList,hsub,List.length_eraseIdx_of_lt hjl,Array.length_toList,hs]
   rw [hsub]
   by_cases hyx:y=x
   · subst hyx
     rw [dropV_same]
     constructor
     · intro h'; cases h'
     rintro ⟨e,he,hek,_⟩
     exact absurd hek ((hmem e).1 he).2
   rw [dropV_ne f hyx]; rw [hf y hy u]
   constructor
   · rintro ⟨e,he,hek,hev⟩
     exact ⟨e,(hmem e).2 ⟨he,by rw [hek]; exact hyx⟩,hek,hev⟩
   rintro ⟨e,he,hek,hev⟩
   exact ⟨e,((hmem e).1 he).1,hek,hev⟩
theorem MapV.entry (h:MapV P k w b n f) (K:KeyLaw P k) {t e:TypeId} (ht:P.underlying t=some (.map k e)) (hn:n < maxLen) {z:Value} (hz:∀ u:World,(zeroValue e).run P u=.ok z u) {x:Value} {kl:Lit} (hkey:keyOf P k x=some kl) :
  ∃ (st:Nat) (es1:Array MapEntry) (clock1:Nat),(Instr.mapEntry t (.map (some b)) x).run P w=.ok (.tuple #[(f x).getD z,goInt st]) (ChangeMaps.setBlock w b (.map es1 clock1)) ∧
   ∀ (w2:World) (val:Value),w2.heap[b]?=some (.map es1 clock1) → ∃ es' clock',(Instr.entryStore t (.map (some b)) (goInt st) val).run P w2=.ok () (ChangeMaps.setBlock w2 b (.map es' clock')) ∧
    MapV P k (ChangeMaps.setBlock w2 b (.map es' clock')) b (if (f x).isSome then n else n + 1) (putV f x val):=by
 obtain ⟨es,clock,hb,F,hs,hf⟩:=h
 obtain ⟨v0,st,es1,clock1,h1,h2,h3⟩:=WideElems.entry_then_store K ht hz hb F hkey
 have hv:v0=(f x).getD z:=by
  rcases h2 with ⟨e0,he,hek,rfl⟩ | ⟨hno,rfl⟩
  · rw [(hf x ⟨_,hkey⟩ _).2 ⟨e0,he,hek,rfl⟩]; rfl
  cases hfx:f x with
  | none=>rfl
  | some u =>
   obtain ⟨e',he',hk',_⟩:=(hf x ⟨_,hkey⟩ u).1 hfx
   exact absurd hk' (hno e' he')
 refine ⟨st,es1,clock1,by rw [h1,hv],fun w2 val hw2=>?_⟩
 obtain ⟨es',clock',h4,h5⟩:=h3 w2 val hw2
 obtain ⟨es2,clock2,h6,hm⟩:=MapV.store ⟨es,clock,hb,F,hs,hf⟩ (Keyed.of_law K) ht hn hkey val
 refine ⟨es',clock',h4,?_⟩
 rw [h5] at h6
 injection h6 with _ h6
 obtain ⟨es3,clock3,h7,r⟩:=hm
 refine ⟨es3,clock3,?_,r⟩
 rw [heap_setBlock_same hw2]
 rw [← h6,heap_setBlock_same hb] at h7
 exact h7
theorem MapV.len (h:MapV P k w b n f) {t e:TypeId} (ht:P.underlying t=some (.map k e)) (ty:TypeId):(Builtin.len_ #[t] ty #[.map (some b)]).run P w=.ok (.int .i64 n) w:=by
 obtain ⟨es,clock,hb,F,rfl,_⟩:=h
 simp [Builtin.len_,run_underlying ht,MapKept.run_getObj_map hb,goInt,Result.andThen]
end
end
section
open Go.Maps (Keyed)
open Go.WideMaps (KeyLaw)
theorem prog_laid:laidOutB Tryz.prog=true:=by kernel_rfl
theorem law3:KeyLaw Tryz.prog 64 := deep_law_laid prog_laid (m:=2) (by omega) (of_decide_eq_true (by kernel_rfl)) (by kernel_rfl) (by rw [Tryz.underlying64])
theorem law2:KeyLaw Tryz.prog 69 := deep_law_laid prog_laid (m:=2) (by omega) (of_decide_eq_true (by kernel_rfl)) (by kernel_rfl) (by rw [Tryz.underlying69])
def kv (k:K3):Value:=.agg #[.int .i64 k.1,.int .i64 k.2.1,.int .i64 k.2.2]
def pv (p:Nat × Nat):Value:=.agg #[.int .i64 (p.1:Int),.int .i64 (p.2:Int)]
theorem kv_inj {k k':K3} (h:kv k=kv k'):k=k':=by
 obtain ⟨a,b,c⟩:=k
 obtain ⟨a',b',c'⟩:=k'
 simp [kv] at h
 obtain ⟨rfl,rfl,rfl⟩:=h
 rfl
theorem pv_inj {p p':Nat × Nat} (h:pv p=pv p'):p=p':=by
 obtain ⟨a,b⟩:=p
 obtain ⟨a',b'⟩:=p'
 simp [pv] at h
 obtain ⟨h1,h2⟩:=h
 exact Prod.ext (by simp only; omega) (by simp only; omega)
theorem kv_key {k:K3} (h1:(Lit.int .i64 k.1).wf=true) (h2:(Lit.int .i64 k.2.1).wf=true) (h3:(Lit.int .i64 k.2.2).wf=true):∃ l,keyOf Tryz.prog 64 (kv k)=some l:=by
 have hc:Tryz.prog.cellsOf 3 = 1:=by kernel_rfl
 have hc3:Tryz.prog.cellsOf 64 = 3:=by kernel_rfl
 have hkt:Tryz.prog.keyType 64 = true:=by kernel_rfl
 obtain ⟨m,hm⟩:∃ m,Tryz.prog.types.size + 1=m + 2:=⟨_,rfl⟩
 unfold keyOf
 rw [hm]
 simp [kv,Tryz.underlying64,Tryz.underlying3,hkt,Value.formed,hc3,hc,Program.keyLits,Value.cells,List.range,List.range.loop,h1,h2,h3]
theorem pv_key {p:Nat × Nat} (h1:p.1 ≤ 9223372036854775807) (h2:p.2 ≤ 9223372036854775807):∃ l,keyOf Tryz.prog 69 (pv p)=some l:=by
 have w1:(Lit.int .i64 (p.1:Int)).wf=true:=WalkArith.wf_i64 (by omega)
 have w2:(Lit.int .i64 (p.2:Int)).wf=true:=WalkArith.wf_i64 (by omega)
 have hc:Tryz.prog.cellsOf 3 = 1:=by kernel_rfl
 have hc3:Tryz.prog.cellsOf 69 = 2:=by kernel_rfl
 have hkt:Tryz.prog.keyType 69 = true:=by kernel_rfl
 obtain ⟨m,hm⟩:∃ m,Tryz.prog.types.size + 1=m + 2:=⟨_,rfl⟩
 unfold keyOf
 rw [hm]
 simp [pv,Tryz.underlying69,Tryz.underlying3,hkt,Value.formed,hc3,hc,Program.keyLits,Value.cells,List.range,List.range.loop,w1,w2]
def nats (l:List Nat):List Value:=l.map fun a:Nat=>Value.int .i64 (a:Int)
def NatRow (w:World) (base:Nat) (A:Option Addr) (c:Nat) (l:List Nat):Prop:=w.ownsRow base 3 1 (.slice A l.length c) l.length (nats l)
structure HadAt (w:World) (base:Nat) {κ:Type} (enc:κ → Value) (f:Value → Option Value) (H:κ → List Nat):Prop where
 none_:∀ k,H k=[] → f (enc k)=none
 some_:∀ k,H k ≠ [] → ∃ A c,f (enc k)=some (.slice A (H k).length c) ∧ NatRow w base A c (H k)
 apart:∀ k k' v v' b,k ≠ k' → f (enc k)=some v → f (enc k')=some v' → v.ownBlock=some b → v'.ownBlock ≠ some b
section
variable {w w':World} {base:Nat} {κ:Type} {enc:κ → Value} {f:Value → Option Value} {H:κ → List Nat}
theorem HadAt.start (w:World) (base:Nat) (enc:κ → Value):HadAt w base enc (fun _=>none) (fun _=>[]) :=
 ⟨fun _ _=>rfl,fun k h=>absurd rfl h,fun k k' v v' b _ h=>by cases h⟩
theorem HadAt.keep (h:HadAt w base enc f H) (hk:∀ i cs,Blk w i 3 cs → w'.heap[i]?=w.heap[i]?):HadAt w' base enc f H :=
 ⟨h.none_,fun k hne=>by
  obtain ⟨A,c,h1,h2⟩:=h.some_ k hne
  exact ⟨A,c,h1,own_same h2 fun i hi=>by
   obtain ⟨cs,hb⟩:=own_blk h2 hi
   exact hk i cs hb⟩,h.apart⟩
theorem HadAt.below (h:HadAt w base enc f H) (hb:Below w.heap.size w w'):HadAt w' base enc f H:=h.keep fun i _ hi=>hb.block i hi.lt
theorem HadAt.look (h:HadAt w base enc f H) (k:κ):∃ A c,(f (enc k)).getD (.slice none 0 0)=.slice A (H k).length c ∧ NatRow w base A c (H k) ∧ ∀ b,(Value.slice A (H k).length c).ownBlock=some b → f (enc k)=some (.slice A (H k).length c):=by
 by_cases hk:H k=[]
 · rw [hk,h.none_ k hk]
   exact ⟨none,0,rfl,World.ownsRow_nil _ _ _ _,fun b e=>by cases e⟩
 obtain ⟨A,c,h1,h2⟩:=h.some_ k hk
 rw [h1]
 exact ⟨A,c,rfl,h2,fun _ _=>rfl⟩
theorem HadAt.put (h:HadAt w base enc f H) (hinj:∀ k k',enc k=enc k' → k=k') {k:κ} {v:Value} (hv:∀ b,v.ownBlock=some b → f (enc k)=some v) {A':Option Addr} {c':Nat} {l:List Nat} (hne:l ≠ [])
  (hrow:NatRow w' base A' c' l) (hg:w.grownBy w' v.ownBlock) (hat:(Value.slice A' l.length c').ownBlock=v.ownBlock ∨ ∃ b,(Value.slice A' l.length c').ownBlock=some b ∧ w.heap.size ≤ b) {H':κ → List Nat} (h1:H' k=l) (h2:∀ x,x ≠ k → H' x=H x) :
  HadAt w' base enc (putV f (enc k) (.slice A' l.length c')) H':=by
 have ne_:∀ {x},x ≠ k → enc x ≠ enc k:=fun hx e=>hx (hinj _ _ e)
 have far:∀ x,x ≠ k → ∀ u b,f (enc x)=some u → u.ownBlock=some b → v.ownBlock ≠ some b:=fun x hx u b hu hb e=>h.apart k x v u b hx.symm (hv b e) hu e hb
 refine ⟨fun x hx=>?_,fun x hx=>?_,?_⟩
 · by_cases e:x=k
   · subst e; rw [h1] at hx; exact absurd hx hne
   rw [putV_ne _ _ (ne_ e)]; rw [h2 x e] at hx; exact h.none_ x hx
 · by_cases e:x=k
   · subst e
     rw [putV_same,h1]
     exact ⟨A',c',rfl,hrow⟩
   rw [putV_ne _ _ (ne_ e),h2 x e]
   rw [h2 x e] at hx
   obtain ⟨A,c,h3,h4⟩:=h.some_ x hx
   refine ⟨A,c,h3,own_same h4 fun i hi=>hg.block i (h4.lt i hi).2 fun e2=>far x e _ i h3 hi e2.symm⟩
 intro x y u u' b hxy hu hu' hb
 by_cases ex:x=k
 · subst ex
   rw [putV_same] at hu
   rw [putV_ne _ _ (ne_ (Ne.symm hxy))] at hu'
   injection hu with hu
   subst hu
   intro hb'
   rcases hat with h5 | ⟨b',h5,h6⟩
   · rw [h5] at hb
     exact far y (Ne.symm hxy) _ b hu' hb' hb
   rw [h5] at hb
   injection hb with hb
   subst hb
   have hyne:H y ≠ []:=fun e=>by rw [h.none_ y e] at hu'; cases hu'
   obtain ⟨A,c,h7,h8⟩:=h.some_ y hyne
   rw [h7] at hu'
   injection hu' with hu'
   subst hu'
   have:=(h8.lt _ hb').2
   omega
 rw [putV_ne _ _ (ne_ ex)] at hu
 by_cases ey:y=k
 · subst ey
   rw [putV_same] at hu'
   injection hu' with hu'
   subst hu'
   intro hb'
   rcases hat with h5 | ⟨b',h5,h6⟩
   · rw [h5] at hb'
     exact far x ex _ b hu hb hb'
   rw [h5] at hb'
   injection hb' with hb'
   subst hb'
   have hxne:H x ≠ []:=fun e=>by rw [h.none_ x e] at hu; cases hu
   obtain ⟨A,c,h7,h8⟩:=h.some_ x hxne
   rw [h7] at hu
   injection hu with hu
   subst hu
   have:=(h8.lt _ hb).2
   omega
 rw [putV_ne _ _ (ne_ ey)] at hu'
 exact h.apart x y u u' b hxy hu hu' hb
end
def SeenAt (f:Value → Option Value) (L:List (Nat × Nat)):Prop:=∀ p,(p ∈ L → f (pv p)=some (.bool true)) ∧ (p ∉ L → f (pv p)=none)
theorem SeenAt.put {f:Value → Option Value} {L:List (Nat × Nat)} (h:SeenAt f L) (p:Nat × Nat):SeenAt (putV f (pv p) (.bool true)) (L ++ [p]):=fun q=>by
 by_cases e:q=p
 · subst e
   exact ⟨fun _=>putV_same _ _ _,fun hn=>absurd (by simp) hn⟩
 have hne:pv q ≠ pv p:=fun h'=>e (pv_inj h')
 rw [putV_ne _ _ hne]
 refine ⟨fun hq=>(h q).1 ?_,fun hq=>(h q).2 fun h'=>hq (by simp [h'])⟩
 rcases List.mem_append.1 hq with h' | h'
 · exact h'
 simp at h'; exact absurd h' e
theorem SeenAt.look {f:Value → Option Value} {L:List (Nat × Nat)} (h:SeenAt f L) (p:Nat × Nat):(f (pv p)).getD (.bool false)=.bool (decide (p ∈ L)):=by
 by_cases e:p ∈ L
 · rw [(h p).1 e]; simp [e]
 rw [(h p).2 e]; simp [e]
theorem SeenAt.some_ {f:Value → Option Value} {L:List (Nat × Nat)} (h:SeenAt f L) {p:Nat × Nat} (e:p ∉ L):(f (pv p)).isSome=false:=by rw [(h p).2 e]; rfl
end
section
open Go.Maps (Keyed)
open Go.WideMaps (KeyLaw)
def outW (kind:Int) (L:List (Nat × Nat)):List (Int × Int × Int):=L.map fun p=>(kind,(p.1:Int),(p.2:Int))
theorem outW_len (kind:Int) (L:List (Nat × Nat)):(outW kind L).length=L.length:=by simp [outW]
theorem outW_snoc (kind:Int) (L:List (Nat × Nat)) (p:Nat × Nat):outW kind (L ++ [p])=outW kind L ++ [(kind,(p.1:Int),(p.2:Int))]:=by simp [outW]
structure PairsAt (w0 wr:World) (kind:Int) (bh bs m:Nat) (A:Option Addr) (c:Nat) (had:K3 → List Nat) (L L':List (Nat × Nat)):Prop where
 h1:w0.heap.size ≤ bh
 h2:w0.heap.size ≤ bs
 ne:bh ≠ bs
 row:WitRow wr w0.heap.size A c (outW kind L)
 hadm:∃ fh nh,nh ≤ m ∧ MapV Tryz.prog 64 wr bh nh fh ∧ HadAt wr w0.heap.size kv fh had
 seen:∃ fs,MapV Tryz.prog 69 wr bs L'.length fs ∧ SeenAt fs L'
 below:Below w0.heap.size w0 wr
section
variable {w0 wr w':World} {kind:Int} {bh bs m:Nat} {A:Option Addr} {c:Nat} {had:K3 → List Nat} {L L':List (Nat × Nat)}
theorem PairsAt.keep (h:PairsAt w0 wr kind bh bs m A c had L L') (hb:Below wr.heap.size wr w'):PairsAt w0 w' kind bh bs m A c had L L':=by
 obtain ⟨h1,h2,ne,row,⟨fh,nh,hn,hm,hh⟩,⟨fs,hs,hss⟩,below⟩:=h
 exact ⟨h1,h2,ne,own_same row fun k hk=>hb.block k (row.lt k hk).2,⟨fh,nh,hn,hm.below hb hm.lt,hh.below hb⟩,⟨fs,hs.below hb hs.lt,hss⟩,below.trans (hb.mono below.size)⟩
theorem PairsAt.more {m':Nat} (h:PairsAt w0 wr kind bh bs m A c had L L') (hm:m ≤ m'):PairsAt w0 wr kind bh bs m' A c had L L':=by
 obtain ⟨h1,h2,ne,row,⟨fh,nh,hn,r⟩,hs,hb⟩:=h
 exact ⟨h1,h2,ne,row,⟨fh,nh,by omega,r⟩,hs,hb⟩
theorem PairsAt.eqs {had':K3 → List Nat} {L2 L2':List (Nat × Nat)} (h:PairsAt w0 wr kind bh bs m A c had L L') (e1:had'=had) (e2:L2=L) (e3:L2'=L'):PairsAt w0 wr kind bh bs m A c had' L2 L2':=by
 subst e1 e2 e3; exact h
theorem PairsAt.seenQ (h:PairsAt w0 wr kind bh bs m A c had L L') (p:Nat × Nat) (h1:p.1 ≤ 9223372036854775807) (h2:p.2 ≤ 9223372036854775807) :
  (Instr.lookup 179 (.map (some bs)) (.agg #[.int .i64 (p.1:Int),.int .i64 (p.2:Int)]) false).run Tryz.prog wr=.ok (.bool (decide (p ∈ L'))) wr:=by
 obtain ⟨fs,hs,hss⟩:=h.seen
 obtain ⟨l,hl⟩:=pv_key h1 h2
 have hz:(zeroValue 4).run Tryz.prog wr=.ok (.bool false) wr:=by kernel_rfl
 have:=hs.look (Keyed.of_law law2) Tryz.underlying179 hz hl false
 rw [hss.look p] at this
 exact this
theorem PairsAt.see (h:PairsAt w0 wr kind bh bs m A c had L L') {p:Nat × Nat} (h1:p.1 ≤ 9223372036854775807) (h2:p.2 ≤ 9223372036854775807) (hp:p ∉ L') (hl:L'.length < maxLen) :
  ∃ es clock,(Instr.mapUpdate 179 (.map (some bs)) (.agg #[.int .i64 (p.1:Int),.int .i64 (p.2:Int)]) (.bool true)).run Tryz.prog wr=.ok () (ChangeMaps.setBlock wr bs (.map es clock)) ∧
   PairsAt w0 (ChangeMaps.setBlock wr bs (.map es clock)) kind bh bs m A c had L (L' ++ [p]):=by
 obtain ⟨q1,q2,ne,row,⟨fh,nh,hn,hm,hh⟩,⟨fs,hs,hss⟩,below⟩:=h
 obtain ⟨l,hk⟩:=pv_key h1 h2
 obtain ⟨es,clock,hrun,hst⟩:=hs.store (Keyed.of_law law2) Tryz.underlying179 hl hk (.bool true)
 have hne:∀ {i t cs},Blk wr i t cs → i ≠ bs:=fun hb e=>hs.ne_blk hb e.symm
 refine ⟨es,clock,hrun,q1,q2,ne,?_,⟨fh,nh,hn,hm.setBlock ne _,hh.keep fun i cs hb=>heap_setBlock_ne _ _ _ (hne hb)⟩,⟨_,?_,hss.put p⟩,below.trans (((Only.refl (fun i=>i=bs) wr).setBlock (.inl rfl) _).below below.size fun k hk e=>by omega)⟩
 · refine own_same row fun i hi=>?_
   obtain ⟨cs,hb⟩:=own_blk row hi
   exact heap_setBlock_ne _ _ _ (hne hb)
 rw [hss.some_ hp] at hst
 rw [List.length_append]
 exact hst
theorem PairsAt.tell {w1:World} {A1:Option Addr} {c1:Nat} {p:Nat × Nat} (h:PairsAt w0 wr kind bh bs m A c had L L') {wx:World} (hx:Below wr.heap.size wr wx)
  (ho:w1.ownsRow w0.heap.size 39 3 (.slice A1 (L.length + 1) c1) (L.length + 1) ((outW kind L).flatMap w3 ++ w3 (kind,(p.1:Int),(p.2:Int)))) (hg:wx.grownBy w1 (Value.slice A L.length c).ownBlock) :
  PairsAt w0 w1 kind bh bs m A1 c1 had (L ++ [p]) L':=by
 obtain ⟨q1,q2,ne,row,⟨fh,nh,hn,hm,hh⟩,⟨fs,hs,hss⟩,below⟩:=h.keep hx
 have hrow:∀ b,(Value.slice A L.length c).ownBlock=some b → ∃ cs,Blk wx b 39 cs:=fun b hb=>own_blk row (by rw [outW_len]; exact hb)
 have hno:∀ {i t cs},Blk wx i t cs → t ≠ 39 → some i ≠ (Value.slice A L.length c).ownBlock:=fun hb ht e=>by
  obtain ⟨cs,hb'⟩:=hrow _ e.symm
  exact Blk.ne_ hb hb' ht rfl
 have hnm:∀ {k i n f},MapV Tryz.prog k wx i n f → some i ≠ (Value.slice A L.length c).ownBlock:=fun hm e=>by
  obtain ⟨cs,hb'⟩:=hrow _ e.symm
  exact hm.ne_blk hb' rfl
 refine ⟨q1,q2,ne,?_,⟨fh,nh,hn,hm.grown hg (hnm hm),hh.keep fun i cs hb=>hg.block i hb.lt (hno hb (by decide))⟩,⟨fs,hs.grown hg (hnm hs),hss⟩,?_⟩
 · unfold WitRow
   rw [outW_snoc,w3_snoc]
   simpa [outW_len] using ho
 exact below.grown hg below.size fun k hk=>(row.lt k (by rw [outW_len]; exact hk)).1
theorem PairsAt.have_ (h:PairsAt w0 wr kind bh bs m A c had L L') (k:K3) (h1:(Lit.int .i64 k.1).wf=true) (h2:(Lit.int .i64 k.2.1).wf=true) (h3:(Lit.int .i64 k.2.2).wf=true) (hml:m < maxLen) (i:Nat) :
  ∃ (Ak:Option Addr) (ck st:Nat) (es:Array MapEntry) (clock:Nat),(Instr.mapEntry 178 (.map (some bh)) (.agg #[.int .i64 k.1,.int .i64 k.2.1,.int .i64 k.2.2])).run Tryz.prog wr=.ok (.tuple #[.slice Ak (had k).length ck,.int .i64 (st:Int)]) (ChangeMaps.setBlock wr bh (.map es clock)) ∧
   NatRow (ChangeMaps.setBlock wr bh (.map es clock)) w0.heap.size Ak ck (had k) ∧
   ∀ w1 A1 c1,w1.ownsRow w0.heap.size 3 1 (.slice A1 ((had k).length + 1) c1) ((had k).length + 1) (nats (had k) ++ [.int .i64 (i:Int)]) → (ChangeMaps.setBlock wr bh (.map es clock)).grownBy w1 (Value.slice Ak (had k).length ck).ownBlock →
    ((Value.slice A1 ((had k).length + 1) c1).ownBlock=(Value.slice Ak (had k).length ck).ownBlock ∨ (Value.slice A1 ((had k).length + 1) c1).ownBlock=some (ChangeMaps.setBlock wr bh (.map es clock)).heap.size) →
    ∃ es' clock',(Instr.entryStore 178 (.map (some bh)) (.int .i64 (st:Int)) (.slice A1 ((had k).length + 1) c1)).run Tryz.prog w1=.ok () (ChangeMaps.setBlock w1 bh (.map es' clock')) ∧
     PairsAt w0 (ChangeMaps.setBlock w1 bh (.map es' clock')) kind bh bs (m + 1) A c (fun x=>if x=k then had k ++ [i] else had x) L L':=by
 obtain ⟨q1,q2,ne,row,⟨fh,nh,hn,hm,hh⟩,⟨fs,hs,hss⟩,below⟩:=h
 obtain ⟨l,hk⟩:=kv_key h1 h2 h3
 have hz:∀ u:World,(zeroValue 30).run Tryz.prog u=.ok (.slice none 0 0) u:=fun u=>by kernel_rfl
 obtain ⟨st,es,clock,hrun,hent⟩:=hm.entry law3 Tryz.underlying178 (by omega) hz hk
 obtain ⟨Ak,ck,e1,e2,e3⟩:=hh.look k
 rw [e1] at hrun
 have hne:∀ {i t cs},Blk wr i t cs → i ≠ bh:=fun hb e=>hm.ne_blk hb e.symm
 have e2':NatRow (ChangeMaps.setBlock wr bh (.map es clock)) w0.heap.size Ak ck (had k):=own_same e2 fun i hi=>by
  obtain ⟨cs,hb⟩:=own_blk e2 hi
  exact heap_setBlock_ne _ _ _ (hne hb)
 have hss0:∀ {i:Nat} {t:TypeId} {cs:Array Value},Blk wr i t cs → Blk (ChangeMaps.setBlock wr bh (.map es clock)) i t cs:=fun hb=>hb.setBlock (hne hb) _
 refine ⟨Ak,ck,st,es,clock,hrun,e2',fun w1 A1 c1 ho hg hat=>?_⟩
 have hint:∀ b,(Value.slice Ak (had k).length ck).ownBlock=some b → ∃ cs,Blk (ChangeMaps.setBlock wr bh (.map es clock)) b 3 cs:=fun b hb=>own_blk e2' hb
 obtain ⟨es0,clock0,hb0,r0⟩:=hm
 have hbh:(ChangeMaps.setBlock wr bh (.map es clock)).heap[bh]?=some (.map es clock):=ChangeMaps.heap_setBlock_same hb0 _
 have hszE:(ChangeMaps.setBlock wr bh (.map es clock)).heap.size=wr.heap.size:=by simp [ChangeMaps.setBlock]
 have hbhl:bh < wr.heap.size:=(Array.getElem?_eq_some_iff.1 hb0).1
 have hw1:w1.heap[bh]?=some (.map es clock):=by
  rw [← hbh]
  refine hg.block bh (by rw [hszE]; exact hbhl) fun e=>?_
  obtain ⟨cs,hb⟩:=hint _ e.symm
  unfold Blk at hb
  rw [hbh] at hb
  cases hb
 obtain ⟨es',clock',hst,hmv⟩:=hent w1 (.slice A1 ((had k).length + 1) c1) hw1
 refine ⟨es',clock',hst,q1,q2,ne,?_,⟨_,_,?_,hmv,?_⟩,⟨fs,?_,hss⟩,?_⟩
 · refine own_same row fun i hi=>?_
   obtain ⟨cs,hb⟩:=own_blk row hi
   rw [heap_setBlock_ne _ _ _ (hne hb)]
   refine (hg.block i (hss0 hb).lt fun e=>?_).trans (heap_setBlock_ne _ _ _ (hne hb))
   obtain ⟨cs',hb'⟩:=hint _ e.symm
   exact Blk.ne_ (hss0 hb) hb' (by decide) rfl
 · split <;> omega
 · have hh':HadAt (ChangeMaps.setBlock wr bh (.map es clock)) w0.heap.size kv fh had:=hh.keep fun i cs hb=>heap_setBlock_ne _ _ _ (hne hb)
   have hl:(had k ++ [i]).length=(had k).length + 1:=by simp
   have hput:=hh'.put (w':=w1) (fun _ _=>kv_inj) (k:=k) (v:=.slice Ak (had k).length ck) e3 (A':=A1) (c':=c1) (l:=had k ++ [i]) (by simp) (by unfold NatRow; rw [hl]; simpa [nats] using ho) hg
    (by rw [hl]; rcases hat with h | h; exact .inl h; exact .inr ⟨_,h,Nat.le_refl _⟩) (H':=fun x=>if x=k then had k ++ [i] else had x) (by simp) (fun x hx=>by simp [hx])
   rw [hl] at hput
   refine hput.keep fun i cs hb=>heap_setBlock_ne _ _ _ fun e=>?_
   subst e
   unfold Blk at hb
   rw [hw1] at hb
   cases hb
 · refine (hs.setBlock (Ne.symm ne) _ |>.grown hg fun e=>?_).setBlock (Ne.symm ne) _
   obtain ⟨cs,hb⟩:=hint _ e.symm
   exact (hs.setBlock (Ne.symm ne) _).ne_blk hb rfl
 have b1:Below w0.heap.size w0 (ChangeMaps.setBlock wr bh (.map es clock)):=below.trans (((Only.refl (fun i=>i=bh) wr).setBlock (.inl rfl) _).below below.size fun k hk e=>by omega)
 have b2:=b1.grown hg b1.size fun k hk=>(e2'.lt k hk).1
 exact b2.trans (((Only.refl (fun i=>i=bh) w1).setBlock (.inl rfl) _).below b2.size fun k hk e=>by omega)
theorem PairsAt.rowQ (h:PairsAt w0 wr kind bh bs m A c had L L') (k:K3) (h1:(Lit.int .i64 k.1).wf=true) (h2:(Lit.int .i64 k.2.1).wf=true) (h3:(Lit.int .i64 k.2.2).wf=true) :
  ∃ Ak ck,(Instr.lookup 178 (.map (some bh)) (.agg #[.int .i64 k.1,.int .i64 k.2.1,.int .i64 k.2.2]) false).run Tryz.prog wr=.ok (.slice Ak (had k).length ck) wr ∧ NatRow wr w0.heap.size Ak ck (had k):=by
 obtain ⟨fh,nh,hn,hm,hh⟩:=h.hadm
 obtain ⟨l,hk⟩:=kv_key h1 h2 h3
 obtain ⟨Ak,ck,e1,e2,_⟩:=hh.look k
 have hz:(zeroValue 30).run Tryz.prog wr=.ok (.slice none 0 0) wr:=by kernel_rfl
 have:=hm.look (Keyed.of_law law3) Tryz.underlying178 hz hk false
 rw [if_neg (by decide),e1] at this
 exact ⟨Ak,ck,this,e2⟩
end
end
section
theorem int_info:(Tryz.prog.info? 3).map (fun i=>(i.zero,i.size,i.bytes))=some (some (.int .i64 0),1,8):=by kernel_rfl
def PairsRel (w0 wr:World) (kind:Int) (bh bs m:Nat) (s:PS) (v:Value):Prop:=∃ A c,v=.slice A s.out.length c ∧ Hid (PairsAt w0 wr kind bh bs m A c s.had s.out s.out)
theorem pairs_any (kind:Int) (kf:Nat) (eg:∀ args w,(callFunc kf args).run Tryz.prog w=.ok (.enter kf args) w) (keys:Tri → List K3) (hkl:∀ t,(keys t).length ≤ 3)
  (N:Int) (A:Option Addr) (n c:Nat) (T:List Tri) (w:World) (hn:n ≤ 1000) (ht:TrisAt w w.heap.size A n T)
  (hkey:∀ t ∈ T,∀ w,Calls Tryz.prog kf #[.agg #[.int .i64 t.a,.int .i64 t.b,.int .i64 t.c]] w (KeysPost w (keys t)))
  (hwf:∀ t ∈ T,∀ k ∈ keys t,(Lit.int .i64 k.1).wf=true ∧ (Lit.int .i64 k.2.1).wf=true ∧ (Lit.int .i64 k.2.2).wf=true) :
  Calls Tryz.prog 97 #[.agg #[.int .i64 N,.slice A n c],.int .i64 kind,.func (.func kf) #[] #[]] w (WitPost w (outW kind (PS.to keys T n).out)):=by
 obtain ⟨i0,hi0,hz0,hz1,hz2⟩:=info_parts wit_info
 obtain ⟨i1,hi1,hy0,hy1,hy2⟩:=info_parts int_info
 have HT:=jJ ht
 have HK:=jJ hkey
 have HWF:=jJ hwf
 have HKL:=jJ hkl
 have HEG:=jJ eg
 clear ht hkey hwf hkl
 have hmm:=@run_makeMap Tryz.prog
 go_enter Tryz.func97,Tryz.ntmps97
 go_wp2_with fail
 obtain ⟨W,hW⟩:=jX (((w.alloc (.cells #[.int .i64 N,.slice A n c] 24)).alloc (.map #[] 0)).alloc (.map #[] 0))
 have HP0:Hid (PairsAt w W kind (w.heap.size + 1) (w.heap.size + 1 + 1) 0 none 0 (fun _=>[]) [] []):=by
  subst hW
  have m1:=((MapV.made_ Tryz.prog 64 (w:=w.alloc (.cells #[.int .i64 N,.slice A n c] 24)) (b:=w.heap.size + 1) (by simp)).alloc (.map #[] 0))
  have m2:=MapV.made_ Tryz.prog 69 (w:=(w.alloc (.cells #[.int .i64 N,.slice A n c] 24)).alloc (.map #[] 0)) (b:=w.heap.size + 1 + 1) (by simp)
  exact jJ ⟨by omega,by omega,by omega,World.ownsRow_nil _ _ _ _,⟨_,0,Nat.le_refl _,m1,HadAt.start _ _ _⟩,⟨_,m2,fun p=>⟨(fun h=>by cases h),fun _=>rfl⟩⟩,(((Below.refl _ _).alloc (Nat.le_refl _) _).alloc (by simp) _).alloc (by simp; omega) _⟩
 clear hmm
 rw [← hW]
 clear hW
 obtain ⟨bh,hbh⟩:=jX (w.heap.size + 1)
 obtain ⟨bs,hbs⟩:=jX (w.heap.size + 1 + 1)
 rw [← hbs,← hbh] at HP0 ⊢
 have hw1:w.heap.size < bh:=by omega
 have hw2:w.heap.size < bs:=by omega
 clear hbh hbs
 go_loopw [7,22] (fun lv iv wr=>∃ k:Nat,k ≤ n ∧ iv=.int .i64 k ∧ PairsRel w wr kind bh bs (3 * k) (PS.to keys T k) lv) (fun _ iv _=>n - (intOf iv).toNat)
 case atStart=>exact ⟨0,by omega,rfl,none,0,rfl,HP0⟩
 obtain ⟨k,hk,rfl,A',c',rfl,HPA⟩:=hrel
 clear HP0
 by_cases hlt:k < n
 · obtain ⟨ad,t,rfl,htk,htm,hadb,hc3⟩:=(HT.out.below HPA.out.below).at_ hlt
   obtain ⟨d0,d1,d2,d3,d4,d5⟩:=hc3
   have HTO:=jJ (to_succ keys htk)
   have HOK:=jJ (to_ok keys HKL.out T (n:=n) k hk)
   have HKT:=jJ (HK.out t htm)
   have HWT:=jJ (HWF.out t htm)
   have hkl3:=HKL.out t
   generalize keys t=ks at *
   have hsz:=HPA.out.below.size
   obtain ⟨ta,tb,tc⟩:=t
   clear htk htm
   go_wp2_with fail
   have hpa1:=HPA.out.keep ((Below.refl _ wr).alloc (Nat.le_refl _) (.cells #[.int .i64 ta,.int .i64 tb,.int .i64 tc] 65))
   refine (HKT.out _).mono ?_
   rintro e w1 ⟨g,rfl,hgl,hgb,hbe⟩
   have hpa2:=hpa1.keep hbe
   have HP1:=jJ hpa2
   have HG1:=jJ hgb
   generalize hS:PS.to keys T k=S at *
   have HSO:=jJ HOK.out
   clear hS hpa1 hpa2 hgl hgb hbe HPA HKT HOK d0 d1 d2 d3 d4 d5
   go_wp2_with fail
   obtain ⟨wB,rfl⟩:=jX (wr:World)
   go_loopw [7,31] (fun lv jv wq=>∃ j:Nat,j ≤ ks.length ∧ jv=.int .i64 j ∧ PairsRel w wq kind bh bs (3 * k + j) ((ks.take j).foldl (PS.key k) S) lv ∧ Hid (Blk wq g 64 (ks.flatMap w3).toArray)) (fun _ jv _=>ks.length - (intOf jv).toNat)
   case atStart=>exact ⟨0,by omega,rfl,⟨A',c',rfl,HP1⟩,HG1⟩
   obtain ⟨j,hj,rfl,⟨A2,c2,rfl,HPB⟩,HGB⟩:=hrel
   clear HP1 HG1
   have HSJ:Hid (((ks.take j).foldl (PS.key k) S).Ok n (3 * k + j)):=by
    have h1:=keys_ok hlt (ks.take j) S (3 * k) HSO.out
    rw [List.length_take,Nat.min_eq_left hj] at h1
    exact jJ h1
   by_cases hjt:j < ks.length
   · obtain ⟨x,hx⟩:∃ x,ks[j]?=some x:=⟨_,List.getElem?_eq_getElem hjt⟩
     have HSS:Hid ((ks.take (j + 1)).foldl (PS.key k) S=PS.key k ((ks.take j).foldl (PS.key k) S) x):=jJ (foldl_snoc_take _ _ _ _ hx)
     obtain ⟨wf1,wf2,wf3⟩:=HWT.out x (List.mem_of_getElem? hx)
     generalize (ks.take j).foldl (PS.key k) S=Sj at *
     have x0:=(HGB.out.cell (j * 3)).trans ((Array.getElem?_toList ..).symm.trans (flatMap_at 3 w3 (fun _=>rfl) ks j 0 x hx (by omega)))
     have x1:=(HGB.out.cell (j * 3 + 1)).trans ((Array.getElem?_toList ..).symm.trans (flatMap_at 3 w3 (fun _=>rfl) ks j 1 x hx (by omega)))
     have x2:=(HGB.out.cell (j * 3 + 2)).trans ((Array.getElem?_toList ..).symm.trans (flatMap_at 3 w3 (fun _=>rfl) ks j 2 x hx (by omega)))
     obtain ⟨xa,xb,xc⟩:=x
     simp [w3] at x0 x1 x2 wf1 wf2 wf3
     have hpb:=HPB.out.keep ((Below.refl _ wr).alloc (Nat.le_refl _) (.cells #[.int .i64 xa,.int .i64 xb,.int .i64 xc] 64))
     obtain ⟨Ak,ck,hlk,hrow⟩:=hpb.rowQ (xa,xb,xc) wf1 wf2 wf3
     have HROW:=jJ hrow
     have HPC:=jJ hpb
     have HWX:=jJ (And.intro wf1 (And.intro wf2 wf3))
     have hlen:=HSJ.out.len (xa,xb,xc)
     have hgb:=HGB.out.lt
     clear hx hrow hpb wf1 wf2 wf3
     simp only at hlk
     go_wp2_with fail
     obtain ⟨V,hV⟩:=jX (wr.alloc (.cells #[.int .i64 xa,.int .i64 xb,.int .i64 xc] 64))
     obtain ⟨gk,hgk⟩:=jX wr.heap.size
     have HKB:Hid (Blk V gk 64 #[.int .i64 xa,.int .i64 xb,.int .i64 xc]):=by subst hV hgk; exact jJ (Blk.new _ _ _)
     have HGV:Hid (Blk V g 64 (ks.flatMap w3).toArray):=by subst hV; exact jJ (HGB.out.alloc _)
     rw [← hV] at HPC HROW ⊢
     rw [← hgk]
     clear hV hgk HGB HPB hlk x0 x1 x2 hgb
     generalize hH:Sj.had (xa,xb,xc)=Hx at *
     go_loopw [7,39] (fun lv av wz=>∃ a:Nat,a ≤ Hx.length ∧ av=.int .i64 a ∧ ∃ A c,lv=.slice A ((Hx.take a).foldl (addP k) Sj.out).length c ∧ Hid (PairsAt w wz kind bh bs (3 * k + j) A c Sj.had ((Hx.take a).foldl (addP k) Sj.out) ((Hx.take a).foldl (addP k) Sj.out)) ∧ Hid (NatRow wz w.heap.size Ak ck Hx) ∧ Hid (Blk wz gk 64 #[.int .i64 xa,.int .i64 xb,.int .i64 xc]) ∧ Hid (Blk wz g 64 (ks.flatMap w3).toArray)) (fun _ av _=>Hx.length - (intOf av).toNat)
     case atStart=>exact ⟨0,by omega,rfl,A2,c2,rfl,HPC,HROW,HKB,HGV⟩
     obtain ⟨a,ha,rfl,A3,c3,rfl,HPD,HRD,HKD,HGD⟩:=hrel
     clear HPC HROW HKB HGV
     have hHl:∀ b ∈ Hx,b < n:=by rw [← hH]; exact HSJ.out.lt _
     have HOK2:Hid (OutOk ((Hx.take a).foldl (addP k) Sj.out) n):=jJ (foldP_ok hlt _ _ HSJ.out.out fun b hb=>hHl b (List.mem_of_mem_take hb))
     have hll:=outOk_len HOK2.out
     have hnn:n * n ≤ 1000 * 1000:=Nat.mul_le_mul hn hn
     have hsz2:=HPD.out.below.size
     by_cases hat:a < Hx.length
     · obtain ⟨b,hb⟩:∃ b,Hx[a]?=some b:=⟨_,List.getElem?_eq_getElem hat⟩
       have HLL:Hid ((Hx.take (a + 1)).foldl (addP k) Sj.out=addP k ((Hx.take a).foldl (addP k) Sj.out) b):=jJ (foldl_snoc_take _ _ _ _ hb)
       have hbn:=hHl b (List.mem_of_getElem? hb)
       obtain ⟨adr,ur,er,hadr,hur,hcr⟩:=(Reads.of_own HRD.out).at_ hat
       obtain rfl:ur=.int .i64 (b:Int):=by
        unfold nats at hur
        rw [List.getElem?_map,hb] at hur
        exact (Option.some.inj hur).symm
       generalize (Hx.take a).foldl (addP k) Sj.out=La at *
       clear hHl hur hb
       subst er
       have hp1:=HPD.out.keep ((Below.refl _ wr).alloc (Nat.le_refl _) (.cells #[.int .i64 b,.int .i64 k] 69))
       have hsq:=hp1.seenQ (b,k) (by simp only; omega) (by simp only; omega)
       simp only at hsq
       have HP2:=jJ hp1
       have HR2:=jJ (own_same (w':=wr.alloc (.cells #[.int .i64 b,.int .i64 k] 69)) HRD.out fun i hi=>Below.heap_alloc _ _ _ (HRD.out.lt i hi).2)
       have HK2:=jJ (HKD.out.alloc (.cells #[.int .i64 b,.int .i64 k] 69))
       have HG2:=jJ (HGD.out.alloc (.cells #[.int .i64 b,.int .i64 k] 69))
       clear hp1 HPD HRD HKD HGD
       by_cases hin:(b,k) ∈ La
       · have HA:Hid (addP k La b=La):=jJ (by unfold addP; rw [if_pos hin])
         rw [decide_eq_true hin] at hsq
         clear hin
         go_wp2_with fail
         refine ⟨⟨a + 1,by omega,by go_num,A3,c3,?_,?_,HR2,HK2,HG2⟩,by simp [intOf]; omega⟩
         · rw [HLL.out,HA.out]
         rw [HLL.out,HA.out]; exact HP2
       have HA:Hid (addP k La b=La ++ [(b,k)]):=jJ (by unfold addP; rw [if_neg hin])
       have hmx:(maxLen:Nat)=9223372036854775807:=rfl
       obtain ⟨es,clock,hst,hp3⟩:=HP2.out.see (p:=(b,k)) (by simp only; omega) (by simp only; omega) hin (by omega)
       rw [decide_eq_false hin] at hsq
       simp only at hst
       have HW3:Hid ((ChangeMaps.setBlock (wr.alloc (.cells #[.int .i64 b,.int .i64 k] 69)) bs (.map es clock)).ownsRow w.heap.size 39 3 (.slice A3 La.length c3) La.length ((outW kind La).flatMap w3)):=by
        have:=hp3.row
        unfold WitRow at this
        rw [outW_len] at this
        exact jJ this
       have hszS:(ChangeMaps.setBlock (wr.alloc (.cells #[.int .i64 b,.int .i64 k] 69)) bs (.map es clock)).heap.size=wr.heap.size + 1:=by simp [ChangeMaps.setBlock]
       have HSZ:=jJ hszS
       have HP3:=jJ hp3
       have HOS:Hid (Only (fun i=>i=bs) (wr.alloc (.cells #[.int .i64 b,.int .i64 k] 69)) (ChangeMaps.setBlock (wr.alloc (.cells #[.int .i64 b,.int .i64 k] 69)) bs (.map es clock))):=jJ ((Only.refl (fun i=>i=bs) _).setBlock (.inl rfl) _)
       clear hin hp3 hmx hszS
       go_wp2_with (at_builtin; go_must (refine wpList_append_sl _ rfl (.tmp 52) (.tmp 57) _ rfl w.heap.size 39 i0 _ 3 24 Tryz.underlying107 hi0 hz0 hz1 hz2 rfl (by omega) (.slice A3 La.length c3) _ _ rfl (HW3.out.alloc _) ((ChangeMaps.setBlock (wr.alloc (.cells #[.int .i64 b,.int .i64 k] 69)) bs (.map es clock)).heap.size + 1) (some ⟨(ChangeMaps.setBlock (wr.alloc (.cells #[.int .i64 b,.int .i64 k] 69)) bs (.map es clock)).heap.size,0,none⟩) 1 1 (w3 (kind,(b:Int),(k:Int))) rfl (reads_newN _ _ _ 1 3 rfl rfl) (by simp [w3,Value.oneCell']) (by simp only [maxLen]; omega) (by omega) (by simp [ChangeMaps.setBlock]; omega) ?_); intro A1 c1 w1 hown1 hg1 hat1)
       have hp4:=HP3.out.tell (p:=(b,k)) ((Below.refl _ _).alloc (Nat.le_refl _) _) hown1 hg1
       have hnb:∀ {i t cs},Blk (wr.alloc (.cells #[.int .i64 b,.int .i64 k] 69)) i t cs → t ≠ 39 → w1.heap[i]?=(wr.alloc (.cells #[.int .i64 b,.int .i64 k] 69)).heap[i]?:=by
        intro i t cs hb ht
        obtain ⟨fs,hs,_⟩:=HP2.out.seen
        have h1:=HOS.out.block i hb.lt (fun e=>hs.ne_blk hb e.symm)
        have hb2:Blk (ChangeMaps.setBlock (wr.alloc (.cells #[.int .i64 b,.int .i64 k] 69)) bs (.map es clock)) i t cs:=h1.trans hb
        have hb3:=hb2.alloc (.cells #[.int .i64 kind,.int .i64 b,.int .i64 k] 39)
        refine ((hg1.block i hb3.lt fun e=>?_).trans hb3).trans hb.symm
        obtain ⟨cs',hb'⟩:=own_blk (HW3.out.alloc (.cells #[.int .i64 kind,.int .i64 b,.int .i64 k] 39)) e.symm
        exact hb3.ne_ hb' ht rfl
       refine ⟨⟨a + 1,by omega,by go_num,A1,c1,?_,?_,?_,?_,?_⟩,by simp [intOf]; omega⟩
       · rw [HLL.out,HA.out,List.length_append]; rfl
       · rw [HLL.out,HA.out]; exact jJ hp4
       · refine jJ (own_same HR2.out fun i hi=>?_)
         obtain ⟨cs,hb⟩:=own_blk HR2.out hi
         exact hnb hb (by decide)
       · exact jJ ((hnb HK2.out (by decide)).trans HK2.out)
       exact jJ ((hnb HG2.out (by decide)).trans HG2.out)
     obtain rfl:a=Hx.length:=by omega
     rw [List.take_length] at HPD HOK2 hll ⊢
     clear hat hHl ha
     generalize hLa:Hx.foldl (addP k) Sj.out=La at *
     have HLA:=jJ hLa
     have HHX:=jJ hH
     clear hLa hH
     have x0:=HKD.out.cell 0
     have x1:=HKD.out.cell 1
     have x2:=HKD.out.cell 2
     simp at x0 x1 x2
     have hgkl:=HKD.out.lt
     have hp1:=HPD.out.keep ((Below.refl _ wr).alloc (Nat.le_refl _) (.cells #[.int .i64 k] 3))
     have hmx:(maxLen:Nat)=9223372036854775807:=rfl
     obtain ⟨wf1,wf2,wf3⟩:=HWX.out
     obtain ⟨Am,cm,st,es,clock,hme,hrm,hent⟩:=hp1.have_ (xa,xb,xc) wf1 wf2 wf3 (by omega) k
     rw [HHX.out] at hme hrm hent
     have HRM:=jJ hrm
     have HENT:=jJ hent
     have HP1:=jJ hp1
     have HG2:=jJ (HGD.out.alloc (.cells #[.int .i64 k] 3))
     simp only at hme
     clear hrm hent hp1 wf1 wf2 wf3 hmx
     have HRB:=jJ (reads_blk (((Blk.new wr 3 #[.int .i64 (k:Int)])).setBlock (b:=bh) (fun e=>by have:=HP1.out.hadm; obtain ⟨fh,nh,_,hm,_⟩:=HPD.out.hadm; have:=hm.lt; omega) (.map es clock)) (n:=1) (size:=1) rfl)
     go_wp2_with (at_builtin; go_must (refine wpList_append_sl _ rfl (.tmp 62) (.tmp 64) _ rfl w.heap.size 3 i1 _ 1 8 Tryz.underlying30 hi1 hy0 hy1 hy2 rfl (by omega) (.slice Am Hx.length cm) _ _ rfl HRM.out (wr.heap.size + 1) (some ⟨wr.heap.size,0,none⟩) 1 1 [.int .i64 (k:Int)] rfl HRB.out (by simp [Value.oneCell']) (by simp only [maxLen]; omega) (by omega) (by simp [ChangeMaps.setBlock]; omega) ?_); intro A1 c1 w1 hown1 hg1 hat1; obtain ⟨es',clock',hst,hp5⟩:=HENT.out w1 _ _ hown1 hg1 hat1; have HP5:=jJ hp5; have HG5:=jJ (And.intro hown1 (And.intro hg1 hat1)); clear hp5 hown1 hg1 hat1)
     obtain ⟨hown1,hg1,hat1⟩:=HG5.out
     refine ⟨⟨j + 1,by omega,by go_num,⟨A3,c3,?_,?_⟩,?_⟩,by simp [intOf]; omega⟩
     · rw [HSS.out]; show _=Value.slice A3 ((Sj.had (xa,xb,xc)).foldl (addP k) Sj.out).length c3; rw [HHX.out,HLA.out]
     · rw [HSS.out]
       refine jJ (HP5.out.eqs ?_ ?_ ?_)
       · show (fun x=>if x=(xa,xb,xc) then Sj.had (xa,xb,xc) ++ [k] else Sj.had x)=_; rw [HHX.out]
       · show (Sj.had (xa,xb,xc)).foldl (addP k) Sj.out=_; rw [HHX.out,HLA.out]
       show (Sj.had (xa,xb,xc)).foldl (addP k) Sj.out=_; rw [HHX.out,HLA.out]
     refine jJ ?_
     have hm:=HP1.out.hadm
     obtain ⟨fh,nh,_,hm,_⟩:=hm
     have b1:=HG2.out.setBlock (b:=bh) (fun e=>hm.ne_blk HG2.out e.symm) (.map es clock)
     have b2:=b1.grown hg1 (fun e=>by
      obtain ⟨cs,hb⟩:=own_blk HRM.out e.symm
      exact b1.ne_ hb (by decide) rfl)
     exact b2.setBlock (fun e=>hm.ne_blk HG2.out e.symm) _
   obtain rfl:j=ks.length:=by omega
   go_wp2_with fail
   go_roundw
   case rel =>
    refine ⟨k + 1,by omega,by go_num,A2,c2,?_,?_⟩
    · rw [HTO.out,List.take_length]
    rw [HTO.out]
    have:=HPB.out
    rw [List.take_length] at this
    exact jJ (this.more (by omega))
   case measure=>simp [intOf]; omega
 obtain rfl:k=n:=by omega
 go_wp2_with fail
 go_ret
 refine ⟨A',c',?_,HPA.out.row,HPA.out.below⟩
 rw [outW_len]
 rfl
end
section
theorem triOk_wf {m:Nat} {t:Tri} (h:TriOk m t) (hm:m ≤ 4096):(Lit.int .i64 t.a).wf=true ∧ (Lit.int .i64 t.b).wf=true ∧ (Lit.int .i64 t.c).wf=true:=by
 obtain ⟨a,b,c,d,e,f,_,_,_⟩:=h
 exact ⟨WalkArith.wf_i64 (by omega),WalkArith.wf_i64 (by omega),WalkArith.wf_i64 (by omega)⟩
theorem keys2_wf {m:Nat} {t:Tri} (h:TriOk m t) (hm:m ≤ 4096):∀ k ∈ keys2 t,(Lit.int .i64 k.1).wf=true ∧ (Lit.int .i64 k.2.1).wf=true ∧ (Lit.int .i64 k.2.2).wf=true:=by
 obtain ⟨w1,w2,w3⟩:=triOk_wf h hm
 have w0:(Lit.int .i64 0).wf=true:=by decide
 intro k hk
 simp [keys2] at hk
 rcases hk with rfl | rfl | rfl
 · exact ⟨w1,w2,w0⟩
 · exact ⟨w2,w3,w0⟩
 exact ⟨w3,w1,w0⟩
theorem sort3_mem (t:Tri):∀ x,x ∈ [(sort3 t).1,(sort3 t).2.1,(sort3 t).2.2] ↔ x ∈ [t.a,t.b,t.c]:=by
 intro x
 rw [← sort3_list]
 exact (List.mergeSort_perm _ _).mem_iff
theorem keys3_wf {m:Nat} {t:Tri} (h:TriOk m t) (hm:m ≤ 4096):∀ k ∈ keys3 t,(Lit.int .i64 k.1).wf=true ∧ (Lit.int .i64 k.2.1).wf=true ∧ (Lit.int .i64 k.2.2).wf=true:=by
 obtain ⟨w1,w2,w3⟩:=triOk_wf h hm
 have hx:∀ x ∈ [(sort3 t).1,(sort3 t).2.1,(sort3 t).2.2],(Lit.int .i64 x).wf=true:=by
  intro x hx
  rw [sort3_mem] at hx
  simp at hx
  rcases hx with rfl | rfl | rfl <;> assumption
 intro k hk
 simp [keys3] at hk
 subst hk
 exact ⟨hx _ (by simp),hx _ (by simp),hx _ (by simp)⟩
theorem twice_any (m:Nat) (A:Option Addr) (n c:Nat) (T:List Tri) (w:World) (hm:m ≤ 4096) (hn:n ≤ 1000) (ht:TrisAt w w.heap.size A n T) (hok:∀ t ∈ T,TriOk m t) :
  Calls Tryz.prog 76 #[.agg #[.int .i64 m,.slice A n c]] w (WitPost w (outW 3 (PS.to keys2 T n).out)):=by
 have hb:Below w.heap.size w (w.alloc (.cells #[.int .i64 m,.slice A n c] 24)):=(Below.refl _ _).alloc (Nat.le_refl _) _
 have hc:=pairs_any 3 98 (enters_of Tryz.func98 (by kernel_rfl) rfl) keys2 (fun _=>Nat.le_refl _) m A n c T _ hn ((ht.below hb).more hb.size) (fun t _ w=>keys2_any t w) (fun t htm=>keys2_wf (hok t htm) hm)
 have HC:=jJ hc
 have HB:=jJ hb
 clear hc hb
 go_enter Tryz.func76,Tryz.ntmps76
 go_wp2_with fail
 refine HC.out.mono ?_
 rintro e w1 ⟨A1,c1,rfl,hr,hb1⟩
 go_wp2_with fail
 go_ret
 exact ⟨A1,c1,rfl,own_mono hr HB.out.size,HB.out.trans (hb1.mono HB.out.size)⟩
theorem mirrored_any (m:Nat) (A:Option Addr) (n c:Nat) (T:List Tri) (w:World) (hm:m ≤ 4096) (hn:n ≤ 1000) (ht:TrisAt w w.heap.size A n T) (hok:∀ t ∈ T,TriOk m t) :
  Calls Tryz.prog 77 #[.agg #[.int .i64 m,.slice A n c]] w (WitPost w (outW 4 (PS.to keys3 T n).out)):=by
 have hb:Below w.heap.size w (w.alloc (.cells #[.int .i64 m,.slice A n c] 24)):=(Below.refl _ _).alloc (Nat.le_refl _) _
 have hc:=pairs_any 4 99 (enters_of Tryz.func99 (by kernel_rfl) rfl) keys3 (fun t=>by simp [keys3]) m A n c T _ hn ((ht.below hb).more hb.size) (fun t _ w=>keys3_any t w) (fun t htm=>keys3_wf (hok t htm) hm)
 have HC:=jJ hc
 have HB:=jJ hb
 clear hc hb
 go_enter Tryz.func77,Tryz.ntmps77
 go_wp2_with fail
 refine HC.out.mono ?_
 rintro e w1 ⟨A1,c1,rfl,hr,hb1⟩
 go_wp2_with fail
 go_ret
 exact ⟨A1,c1,rfl,own_mono hr HB.out.size,HB.out.trans (hb1.mono HB.out.size)⟩
end
end Go.Proofs.YtffmfhkiienmaaaGreat
