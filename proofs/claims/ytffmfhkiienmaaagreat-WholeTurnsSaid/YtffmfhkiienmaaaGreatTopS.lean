/- What the laws over all layers have in common, walked: great, surface. No condition but sizes. -/
import Derived.Test.YtffmfhkiienmaaaGreatRr9
import Derived.Test.YtffmfhkiienmaaaGreatPlB
set_option maxRecDepth 100000
set_option maxHeartbeats 16000000
set_option linter.all false
namespace Go.Proofs.YtffmfhkiienmaaaGreat
open Go.RowKit
theorem greatT_any (N:Int) (A:Option Addr) (n c:Nat) (w:World):Calls Tryz.prog 9 #[.agg #[.int .i64 N,.slice A n c]] w fun e w'=>e=.returned (.bool (decide (28 < n) || decide (84 < N))) ∧ Below w.heap.size w w':=by
 by_cases h:28 < n
 · have h':(28:Int) < (n:Int):=by omega
   go_enter Tryz.func9,Tryz.ntmps9
   go_wp2_with fail
   go_ret
   exact ⟨by simp [h],(Below.refl _ _).alloc (Nat.le_refl _) _⟩
 have h':¬ (28:Int) < (n:Int):=by omega
 go_enter Tryz.func9,Tryz.ntmps9
 go_wp2_with fail
 go_ret
 refine ⟨?_,(Below.refl _ _).alloc (Nat.le_refl _) _⟩
 first | rfl | simp [h]
def SurfP (w:World) (N:Int) (T:List Tri) (e:Ending) (w':World):Prop :=
 (e=.returned (.tuple #[.pointer none,.bool false]) ∧ Below w.heap.size w w') ∨
 (∃ g m:Nat,N=(m:Int) ∧ m ≤ 84 ∧ T.length ≤ 28 ∧ checkR N T=(0,0,0) ∧ e=.returned (.tuple #[.pointer (some ⟨g,0,none⟩),.bool true]) ∧ TabN w' g m T ∧ Below w.heap.size w w')
attribute [local irreducible] Blk LRow World.alloc World.setCell World.cell? World.frozen? MapV
theorem surfT_any (N:Int) (A:Option Addr) (c:Nat) (T:List Tri) (w:World) (ht:TrisAt w w.heap.size A T.length T) :
  Calls Tryz.prog 4 #[.agg #[.int .i64 N,.slice A T.length c]] w (SurfP w N T):=by
 have HT:=jJ ht
 clear ht
 obtain ⟨V,hV⟩:=jX (w.alloc (.cells #[.int .i64 N,.slice A T.length c] 24))
 have GA0:Hid (Blk V w.heap.size 24 #[.int .i64 N,.slice A T.length c]):=by subst hV; exact jJ (Blk.new _ _ _)
 have HB0:Hid (Below w.heap.size w V):=by subst hV; exact jJ (bw_alloc (Below.refl _ _) _)
 have HG:=jJ (greatT_any N A T.length c V)
 obtain ⟨gb,hgb⟩:=jY ((decide (28 < T.length) || decide (84 < N)))
 have HGB:=jJ hgb
 rw [hgb] at HG
 clear hgb
 go_enter Tryz.func4,Tryz.ntmps4
 go_upto_region 1 with (fail)
 rw [← hV]
 clear hV
 obtain ⟨ga,hga⟩:=jX w.heap.size
 rw [← hga] at GA0
 simp only [← hga]
 clear hga
 obtain ⟨s0,s1,_,_,_⟩:=soup_facts GA0.out
 go_wp2_with fail
 refine HG.out.mono ?_
 rintro e w1 ⟨rfl,hb⟩
 have GA1:=jJ (blk_call GA0.out hb)
 have HB1:=jJ (bw_call HB0.out hb)
 clear hb HG s0 s1 GA0 HB0
 obtain ⟨s0,s1,_,_,_⟩:=soup_facts GA1.out
 cases gb with
 | true =>
  go_wp2_with fail
  refine bodyPost_ret (v:=.tuple #[.pointer none,.bool false]) ?_ rfl (.inl ⟨rfl,HB1.out⟩)
  simp [results,Tryz.results4,go_sem]
 | false =>
  have hTN:T.length ≤ 28 ∧ N ≤ 84:=by
   have:=HGB.out
   simp only [Bool.or_eq_false_iff,decide_eq_false_iff_not] at this
   omega
  obtain ⟨hT,hN⟩:=hTN
  have HSF:=jJ (surface_any N A c T w1 (by omega) ((HT.out.below HB1.out).more HB1.out.size))
  by_cases hx:checkR N T=(0,0,0)
  rotate_left
  · rw [decide_eq_false hx] at HSF
    clear hx
    go_wp2_with fail
    refine HSF.out.mono ?_
    rintro e w2 ⟨rfl,hb⟩
    have HB2:=jJ (bw_call HB1.out hb)
    clear hb
    go_wp2_with fail
    refine bodyPost_ret (v:=.tuple #[.pointer none,.bool false]) ?_ rfl (.inl ⟨rfl,HB2.out⟩)
    simp [results,Tryz.results4,go_sem]
  rw [decide_eq_true hx] at HSF
  have HX:=jJ hx
  clear hx
  go_wp2_with fail
  refine HSF.out.mono ?_
  rintro e w2 ⟨rfl,hb⟩
  have GA2:=jJ (blk_call GA1.out hb)
  have HB2:=jJ (bw_call HB1.out hb)
  clear hb HSF s0 s1 GA1 HB1
  obtain ⟨s0,s1,_,_,_⟩:=soup_facts GA2.out
  go_wp2_with fail
  refine (new_any N A T.length c T w2 (by omega) ((HT.out.below HB2.out).more HB2.out.size)).mono ?_
  rintro e w3 (⟨hx,g,rfl,htab,hb⟩ | ⟨hx,rfl,hb⟩)
  rotate_left
  · exact absurd HX.out hx
  have HB3:=jJ (bw_call HB2.out hb)
  obtain ⟨k,hk⟩:=surf_of (checkR_zero (by rw [hx])).1
  have hNm:=(surf_e.1 hk).1
  obtain ⟨m,rfl⟩:=Int.eq_ofNat_of_zero_le (show 0 ≤ N by omega)
  have HTB:Hid (TabN w3 g m T):=jJ ⟨htab.base (Nat.zero_le _),surf_chk16 hx,by omega⟩
  clear hb htab hx hk s0 s1 hNm GA2 HB2
  unfold wv
  simp only
  go_wp2_with fail
  obtain ⟨w4,hw4⟩:=jX (w3.alloc (.cells #[.int .i64 0,.int .i64 0,.int .i64 0] 39))
  obtain ⟨gw,hgw⟩:=jX w3.heap.size
  have KWw4:Hid (Blk w4 gw 39 #[.int .i64 0,.int .i64 0,.int .i64 0]):=jJ (by rw [hw4,hgw]; exact Blk.new _ _ _)
  have HBw4:Hid (Below w.heap.size w w4):=jJ (by rw [hw4]; exact bw_alloc HB3.out _)
  have HT4:Hid (TabN w4 g m T):=jJ (by rw [hw4]; exact HTB.out.alloc _)
  rw [← hw4]
  simp only [← hgw]
  clear hw4 hgw HTB HB3
  refine wp_region_till (S:=fun w'=>w'.cell? ⟨gw,0,none⟩=some (.int .i64 0) ∧ w'.cell? ⟨gw,1,none⟩=some (.int .i64 0) ∧ w'.cell? ⟨gw,2,none⟩=some (.int .i64 0)) 5 (by kernel_rfl) ⟨(KWw4.out.drew.cell 0),(KWw4.out.drew.cell 1),(KWw4.out.drew.cell 2)⟩ (fun hHeld=>?_)
  refine tKk 0 ?_; (try simp only [zQ])
  refine tKk 1 ?_; (try simp only [zQ])
  refine tKk 2 ?_; (try simp only [zQ])
  refine tKk 3 ?_; (try simp only [zQ])
  refine tKk 4 ?_; (try simp only [zQ])
  refine Till.ready (rs:=[5]) (by kernel_rfl) (by simp) ?_
  refine TillEach.last rfl (fun K hK=>?_)
  go_simp
  refine hK.out _ _ ?_
  clear hK K
  (try simp only [zQ])
  refine Till.done (by kernel_rfl) ?_ _
  go_wp2_with fail
  refine bodyPost_ret (v:=.tuple #[.pointer (some ⟨g,0,none⟩),.bool true]) ?_ rfl (.inr ⟨g,m,rfl,by omega,by omega,HX.out,rfl,HT4.out.drew,bw_drew HBw4.out⟩)
  simp [results,Tryz.results4,go_sem]
end Go.Proofs.YtffmfhkiienmaaaGreat
