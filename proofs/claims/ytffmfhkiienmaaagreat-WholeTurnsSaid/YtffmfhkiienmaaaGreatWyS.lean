/- walk.step, walked. No condition but sizes. -/
import Derived.Test.YtffmfhkiienmaaaGreatWq1
set_option maxRecDepth 100000
set_option maxHeartbeats 16000000
set_option linter.all false
namespace Go.Proofs.YtffmfhkiienmaaaGreat
open Go.RowKit
attribute [local irreducible] Blk World.alloc World.setCell World.cell? World.frozen? MapV MapI
theorem wstep_no (W:World) (B g gw gc m cw:Nat) (come:List Bool) (Aw:Option Addr) (hM:WyAt W B g gw gc m come [] Aw cw) :
  Calls Tryz.prog 37 #[.pointer (some ⟨gw,0,none⟩)] W (fun e W'=>e=.returned (.tuple #[.agg #[.int .u8 0,.int .i64 0,.int .i64 0,.int .i64 0],.bool false]) ∧ Below W.heap.size W W'):=by
 have c2:W.cell? ⟨gw,2,none⟩=some (.slice none 0 0):=hM.k.cell 2
 have hlt:=hM.k.lt
 clear hM
 obtain ⟨V,hV⟩:=jX (W.alloc (.cells #[.int .u8 0,.int .i64 0,.int .i64 0,.int .i64 0] 55))
 have HB:Hid (Below W.heap.size W V):=by subst hV; exact jJ (bw_alloc (Below.refl _ _) _)
 have HK:Hid (Blk V W.heap.size 55 #[.int .u8 0,.int .i64 0,.int .i64 0,.int .i64 0]):=by subst hV; exact jJ (Blk.new _ _ _)
 have c2':(W.alloc (.cells #[.int .u8 0,.int .i64 0,.int .i64 0,.int .i64 0] 55)).cell? ⟨gw,2,none⟩=some (.slice none 0 0):=by rw [← hV]; exact (HB.out.cell hlt).trans c2
 clear c2
 obtain ⟨b0,hb0⟩:=jX W.heap.size
 rw [← hb0] at HK
 go_enter Tryz.func37,Tryz.ntmps37
 have hnil:=run_nilW_yes 0 0
 go_wp2_with fail
 refine bodyPost_ret (v:=.tuple #[.agg #[.int .u8 0,.int .i64 0,.int .i64 0,.int .i64 0],.bool false]) ?_ rfl ⟨rfl,by rw [← hV]; exact HB.out⟩
 simp [results,Tryz.results37,go_sem]
theorem wstep_yes (w W:World) (g gw gc m cw:Nat) (T:List Tri) (come:List Bool) (x:Way) (r:List Way) (Aw:Option Addr) (c v:Nat)
  (hT:TabN w g m T) (hB:Below w.heap.size w W) (hM:WyAt W w.heap.size g gw gc m come (x :: r) Aw cw) (hc:c < 3 * T.length) (hv:cv T c=(v:Int)) (hvm:v < m) (he:ce T c=(x.2.getD 0 0,x.2.getD 1 0))
  (hx1:x.2.length ≤ 1000) (hr1:r.length ≤ 1000) (hi:come.getD v false=true → (v:Int) ∈ x.2 ∧ 2 ≤ x.2.idxOf (v:Int) ∧ x.2.idxOf (v:Int) + 1 ≤ x.2.length) :
  Calls Tryz.prog 37 #[.pointer (some ⟨gw,0,none⟩)] W (StepPost W w.heap.size g gw gc m cw come x r Aw c v):=by
 obtain ⟨gl,hA,hcx,hC⟩:=hM.cells
 obtain ⟨⟨Ax,cx⟩,R⟩:=x
 obtain rfl:Ax=some ⟨gl,0,none⟩:=hA
 have h3:3 ≤ R.length:=hM.ln _ (.head _)
 obtain ⟨n,hn⟩:=jX R.length
 obtain ⟨rl,hrl⟩:=jX r.length
 obtain ⟨a,ha⟩:=jX (R.getD 0 0)
 obtain ⟨b,hb⟩:=jX (R.getD 1 0)
 have HM:=jJ hM
 have HT:=jJ hT
 have HI:=jJ hi
 have HN:=jJ hn
 have HRL:=jJ hrl
 have HA:=jJ ha
 have HBE:=jJ hb
 have KCW:Hid (WyC W gw gl (.pointer (some ⟨g,0,none⟩)) (.slice (some ⟨gc,0,none⟩) m m) (.slice (some ⟨gl,0,none⟩) n cx) (.slice Aw rl cw) a b):=by
  rw [hn,hrl,ha,hb]
  exact jJ hC
 have HBW:=jJ hB
 have HF:Hid (∀ V:World,Below w.heap.size w V → Calls Tryz.prog 62 #[.pointer (some ⟨g,0,none⟩),.agg #[.int .i64 a,.int .i64 b]] V (IntPost V (c:Int))):=jJ fun V hV=>by
  have:=(hT.below hV).facing hc
  rw [he] at this
  rw [ha,hb]
  exact this
 have HVX:Hid (∀ V:World,Below w.heap.size w V → Calls Tryz.prog 17 #[.pointer (some ⟨g,0,none⟩),.int .i64 (c:Int)] V (IntPost V (v:Int))):=jJ fun V hV=>by
  rw [← hv]
  exact (hT.below hV).vertex hc
 have hn3:3 ≤ n:=by omega
 have hn0:0 < n:=by omega
 have hn11:1 < n:=by omega
 have hn11i:(1:Int) < (n:Int):=by omega
 have hn1:n ≤ 1000:=by rw [hn]; exact hx1
 have hrl1:rl ≤ 1000:=by omega
 have hcn:n ≤ cx:=by rw [hn]; exact hcx
 clear hM hT hi hB hC hv he ha hb hx1 hr1 h3 hn hrl hcx
 go_enter Tryz.func37,Tryz.ntmps37
 go_upto_region 1 with (fail)
 obtain ⟨V,hV⟩:=jX (W.alloc (.cells #[.int .u8 0,.int .i64 0,.int .i64 0,.int .i64 0] 55))
 have KCV:Hid (WyC V gw gl (.pointer (some ⟨g,0,none⟩)) (.slice (some ⟨gc,0,none⟩) m m) (.slice (some ⟨gl,0,none⟩) n cx) (.slice Aw rl cw) a b):=by rw [hV]; exact jJ (KCW.out.alloc _)
 have HBV:Hid (Below w.heap.size w V):=by rw [hV]; exact jJ (bw_alloc HBW.out _)
 have HSV:Hid (Blk V W.heap.size 55 #[.int .u8 0,.int .i64 0,.int .i64 0,.int .i64 0]):=by rw [hV]; exact jJ (Blk.new _ _ _)
 have HMV:Hid (WyAt V w.heap.size g gw gc m come (((some ⟨gl,0,none⟩,cx),R) :: r) Aw cw):=by rw [hV]; exact jJ (HM.out.alloc _)
 have HOV:Hid (Below W.heap.size W V):=by rw [hV]; exact jJ (bw_alloc (Below.refl _ _) _)
 rw [← hV]
 obtain ⟨b0,hb0⟩:=jX W.heap.size
 simp only [← hb0]
 rw [← hb0] at HSV
 have HB0:=jJ hb0
 have HM0:=HM
 clear hV hb0 HM KCW HBW
 have q0:=KCV.out.c0
 have q2:=KCV.out.c2
 have hnil:=run_nilW_no ⟨gl,0,none⟩ n cx
 go_upto_region 4 with (fail)
 clear q0 q2
 refine wp_region_till (S:=fun w'=>w'.cell? ⟨gw,0,none⟩=some (.pointer (some ⟨g,0,none⟩)) ∧ w'.cell? ⟨gw,1,none⟩=some (.slice (some ⟨gc,0,none⟩) m m) ∧ w'.cell? ⟨gw,2,none⟩=some (.slice (some ⟨gl,0,none⟩) n cx) ∧ w'.cell? ⟨gw,3,none⟩=some (.slice Aw rl cw) ∧ w'.cell? ⟨gl,0,none⟩=some (.int .i64 a) ∧ w'.cell? ⟨gl,1,none⟩=some (.int .i64 b)) 18 (by kernel_rfl) ⟨KCV.out.drew.c0,KCV.out.drew.c1,KCV.out.drew.c2,KCV.out.drew.c3,KCV.out.drew.l0,KCV.out.drew.l1⟩ (fun hHeld=>?_)
 refine tKk 0 ?_; (try simp only [zQ])
 refine tKk 1 ?_; (try simp only [zQ])
 refine tKk 2 ?_; (try simp only [zQ])
 refine tKk 3 ?_; (try simp only [zQ])
 refine tKk 4 ?_; (try simp only [zQ])
 refine tKk 5 ?_; (try simp only [zQ])
 refine tKk 6 ?_; (try simp only [zQ])
 refine tKk 7 ?_; (try simp only [zQ])
 refine tKk 8 ?_; (try simp only [zQ])
 refine tKk 9 ?_; (try simp only [zQ])
 refine tKk 10 ?_; (try simp only [zQ])
 refine tKk 11 ?_; (try simp only [zQ])
 refine tKk 12 ?_; (try simp only [zQ])
 refine tKk 13 ?_; (try simp only [zQ])
 refine tKk 14 ?_; (try simp only [zQ])
 refine tKk 15 ?_; (try simp only [zQ])
 refine tKk 16 ?_; (try simp only [zQ])
 refine Till.ready (rs:=[17]) (by kernel_rfl) (by simp) ?_
 refine TillEach.cons rfl (fun K hK=>?_) ?_
 · go_simp
   go_wp2_with (go_at_call 62; refine ((HF.out V.drew (bw_drew HBV.out))).mono ?_; rintro e v1 ⟨rfl,hb⟩)
   have KCv1:=jJ (KCV.out.drew.below hb)
   have HSv1:=jJ (blk_call HSV.out.drew hb)
   have HMv1:=jJ (HMV.out.drew.below hb)
   have HOv1:Hid (Below W.heap.size W v1):=jJ (bw_call (bw_drew HOV.out) hb)
   have HBv1:=jJ (bw_call (bw_drew HBV.out) hb)
   clear hb
   refine hK.out _ _ ?_ (fun hHeld=>?_)
   · exact ⟨KCv1.out.c0,KCv1.out.c1,KCv1.out.c2,KCv1.out.c3,KCv1.out.l0,KCv1.out.l1⟩
   clear hK K
   (try simp only [zQ])
   refine Till.ready (rs:=[18]) (by kernel_rfl) (by simp) ?_
   refine TillEach.last rfl (fun K hK=>?_)
   go_simp
   refine hK.out _ _ ?_
   clear hK K
   (try simp only [zQ])
   refine Till.done (by kernel_rfl) ?_ _
   have q0:=KCv1.out.c0
   go_wp2_with fail
   refine (HVX.out _ HBv1.out).mono ?_
   rintro e v2 ⟨rfl,hb⟩
   have KCv2:=jJ (KCv1.out.below hb)
   have HBv2:=jJ (bw_call HBv1.out hb)
   have HMv2:=jJ (HMv1.out.below hb)
   have HSv2:=jJ (blk_call HSv1.out hb)
   have HOv2:=jJ (bw_call HOv1.out hb)
   clear hb KCv1 HBv1 HMv1 HSv1 HOv1 q0
   have q3:=KCv2.out.c3
   go_upto_region 7 with (fail)
   clear q3
   obtain ⟨v3,hv3⟩:=jX (v2.alloc (.cells #[.int .u8 0,.int .i64 (c:Int),.int .i64 (rl:Int),.int .i64 (n:Int)] 55))
   have HBv3:Hid (Below w.heap.size w v3):=by rw [hv3]; exact jJ (bw_alloc HBv2.out _)
   have HMv3:Hid (WyAt v3 w.heap.size g gw gc m come (((some ⟨gl,0,none⟩,cx),R) :: r) Aw cw):=by rw [hv3]; exact jJ (HMv2.out.alloc _)
   have HSv3:Hid (Blk v3 b0 55 #[.int .u8 0,.int .i64 0,.int .i64 0,.int .i64 0]):=by rw [hv3]; exact jJ (HSv2.out.alloc _)
   have H7v3:Hid (Blk v3 v2.heap.size 55 #[.int .u8 0,.int .i64 (c:Int),.int .i64 (rl:Int),.int .i64 (n:Int)]):=by rw [hv3]; exact jJ (Blk.new _ _ _)
   have HOv3:Hid (Only (OWy gw gc (((some ⟨gl,0,none⟩,cx),R) :: r) Aw) W v3):=by rw [hv3]; exact jJ ((Only.of_below HOv2.out _).alloc _)
   rw [← hv3]
   obtain ⟨b7,hb7⟩:=jX v2.heap.size
   simp only [← hb7]
   rw [← hb7] at H7v3
   have HOW:Hid (∀ k,OWy gw gc (((some ⟨gl,0,none⟩,cx),R) :: r) Aw k → k ≠ b0 ∧ k ≠ b7 ∧ k < v3.heap.size):=jJ fun k hk=>by
    have h1:=(HM0.out.ow_ge hk).2
    have h2:=HOv2.out.size
    have h3:=HSv2.out.lt
    have h4:=HB0.out
    have h5:=H7v3.out.lt
    omega
   have HZ:Hid (W.heap.size ≤ b0 ∧ W.heap.size ≤ b7 ∧ W.heap.size ≤ v3.heap.size ∧ b0 ≠ b7 ∧ b0 < v3.heap.size):=jJ (by
    have h2:=HOv2.out.size
    have h3:=HSv2.out.lt
    have h4:=HB0.out
    have h5:=H7v3.out.lt
    omega)
   clear hv3 hb7 KCv2 HBv2 HMv2 HSv2 HOv2 HB0
   obtain ⟨q,hq⟩:=jX (come.getD v false)
   have HQ:=jJ hq
   have q1:=HMv3.out.k.cell 1
   have qc:v3.cell? ⟨gc,v,none⟩=some (.bool q):=by rw [HMv3.out.c.cell,boolA_at (by rw [HMv3.out.cl]; exact hvm),← hq]
   replace q1:v3.cell? ⟨gw,1,none⟩=some (.slice (some ⟨gc,0,none⟩) m m):=q1
   clear hq
   have hvmi:(v:Int) < (m:Int):=by omega
   cases q with
   | false =>
    have qf:v3.frozen? ⟨gc,v,none⟩=false:=HMv3.out.c.frozen v
    go_upto_region 9 with (fail)
    obtain ⟨v4,hv4⟩:=jX (v3.setCell ⟨gc,v,none⟩ (.bool true))
    have HMv4:Hid (WyAt v4 w.heap.size g gw gc m (come.set v true) (((some ⟨gl,0,none⟩,cx),R) :: r) Aw cw):=by rw [hv4]; exact jJ (HMv3.out.comes v)
    have hngc:b0 ≠ gc ∧ b7 ≠ gc:=⟨fun e=>(HOW.out gc (.inr (.inl rfl))).1 e.symm,fun e=>(HOW.out gc (.inr (.inl rfl))).2.1 e.symm⟩
    have HSv4:Hid (Blk v4 b0 55 #[.int .u8 0,.int .i64 0,.int .i64 0,.int .i64 0]):=by rw [hv4]; exact jJ (HSv3.out.far (p:=⟨gc,v,none⟩) hngc.1 _)
    have H7v4:Hid (Blk v4 b7 55 #[.int .u8 0,.int .i64 (c:Int),.int .i64 (rl:Int),.int .i64 (n:Int)]):=by rw [hv4]; exact jJ (H7v3.out.far (p:=⟨gc,v,none⟩) hngc.2 _)
    have HOv4:Hid (Only (OWy gw gc (((some ⟨gl,0,none⟩,cx),R) :: r) Aw) W v4):=by rw [hv4]; exact jJ (HOv3.out.setCell (p:=⟨gc,v,none⟩) (.inl (.inr (.inl rfl))) _)
    have HZ4:Hid (v4.heap.size=v3.heap.size):=by rw [hv4]; exact jJ (by simp)
    rw [← hv4]
    clear hv4 hngc q1 qc qf HMv3 HSv3 H7v3 HOv3 HBv3
    have p7:v4.cell? ⟨b7,0,none⟩=some (.int .u8 0):=H7v4.out.cell 0
    have f7:v4.frozen? ⟨b7,0,none⟩=false:=H7v4.out.frozen 0
    go_upto_region 10 with (fail)
    clear p7 f7
    obtain ⟨v5,hv5⟩:=jX (v4.setCell ⟨b7,0,none⟩ (.int .u8 67))
    have hn7:¬ OWy gw gc (((some ⟨gl,0,none⟩,cx),R) :: r) Aw b7:=fun h=>(HOW.out b7 h).2.1 rfl
    have HMv5:Hid (WyAt v5 w.heap.size g gw gc m (come.set v true) (((some ⟨gl,0,none⟩,cx),R) :: r) Aw cw):=by rw [hv5]; exact jJ (HMv4.out.setOut hn7 _)
    have HSv5:Hid (Blk v5 b0 55 #[.int .u8 0,.int .i64 0,.int .i64 0,.int .i64 0]):=by rw [hv5]; exact jJ (HSv4.out.far (p:=⟨b7,0,none⟩) HZ.out.2.2.2.1 _)
    have H7v5:Hid (Blk v5 b7 55 #[.int .u8 67,.int .i64 (c:Int),.int .i64 (rl:Int),.int .i64 (n:Int)]):=by rw [hv5]; exact jJ (H7v4.out.set_ 0 _)
    have HOv5:Hid (Only (OWy gw gc (((some ⟨gl,0,none⟩,cx),R) :: r) Aw) W v5):=by rw [hv5]; exact jJ (HOv4.out.setCell (p:=⟨b7,0,none⟩) (.inr HZ.out.2.1) _)
    have HZ5:Hid (v5.heap.size=v3.heap.size):=by rw [hv5]; exact jJ (by simpa using HZ4.out)
    rw [← hv5]
    clear hv5 hn7 HMv4 HSv4 H7v4 HOv4 HZ4
    obtain ⟨v6,hv6⟩:=jX (v5.alloc (.cells #[.int .i64 (v:Int)] 3))
    have HMv6:Hid (WyAt v6 w.heap.size g gw gc m (come.set v true) (((some ⟨gl,0,none⟩,cx),R) :: r) Aw cw):=by rw [hv6]; exact jJ (HMv5.out.alloc _)
    have HSv6:Hid (Blk v6 b0 55 #[.int .u8 0,.int .i64 0,.int .i64 0,.int .i64 0]):=by rw [hv6]; exact jJ (HSv5.out.alloc _)
    have H7v6:Hid (Blk v6 b7 55 #[.int .u8 67,.int .i64 (c:Int),.int .i64 (rl:Int),.int .i64 (n:Int)]):=by rw [hv6]; exact jJ (H7v5.out.alloc _)
    have HOv6:Hid (Only (OWy gw gc (((some ⟨gl,0,none⟩,cx),R) :: r) Aw) W v6):=by rw [hv6]; exact jJ (HOv5.out.alloc _)
    have H8v6:Hid (Blk v6 v5.heap.size 3 #[.int .i64 (v:Int)]):=by rw [hv6]; exact jJ (Blk.new _ _ _)
    have hlt8:∀ k,OWy gw gc (((some ⟨gl,0,none⟩,cx),R) :: r) Aw k → k ≠ v5.heap.size:=fun k hk=>by
     have:=(HOW.out k hk).2.2
     have:=HZ5.out
     omega
    have HIN:Hid (Calls Tryz.prog 63 #[.slice (some ⟨gl,0,none⟩) n cx,.int .i64 1,.slice (some ⟨v5.heap.size,0,none⟩) 1 1] v6 (fun e w'=>∃ g' c',e=.returned (.slice (some ⟨g',0,none⟩) (n + 1) c') ∧ w'.ownsRow w.heap.size 3 1 (.slice (some ⟨g',0,none⟩) (n + 1) c') (n + 1) (ZL (R.headD 0 :: (v:Int) :: R.drop 1)) ∧ v6.grownBy w' (some gl) ∧ (g'=gl ∨ g'=v6.heap.size))):=jJ (insert1_any w.heap.size gl n cx v5.heap.size R (v:Int) v6 (by rw [HN.out]; exact HMv6.out.r _ (.head _)) hn11 (by omega) H8v6.out (fun e=>hlt8 gl (.inr (.inr (.inr ⟨_,.head _,rfl⟩))) e.symm))
    have q2:v5.cell? ⟨gw,2,none⟩=some (.slice (some ⟨gl,0,none⟩) n cx):=by rw [HN.out]; exact HMv5.out.k.cell 2
    go_wp2_with fail
    rw [← hv6]
    refine HIN.out.mono ?_
    rintro e v7 ⟨g',c',rfl,hrow,hgr,hg'⟩
    have HM7:Hid (WyAt (v7.setCell ⟨gw,2,none⟩ (wayC ((some ⟨g',0,none⟩,c'),R.headD 0 :: (v:Int) :: R.drop 1))) w.heap.size g gw gc m (come.set v true) (((some ⟨g',0,none⟩,c'),R.headD 0 :: (v:Int) :: R.drop 1) :: r) Aw cw):=jJ (by
     refine HMv6.out.cur ⟨hgr.os,hgr.tape,hgr.output,hgr.size,fun k hk hn=>hgr.block k hk fun e=>hn (by injection e with e; rw [e]; rfl)⟩ ?_ ?_ ?_
     · have e:(R.headD 0 :: (v:Int) :: R.drop 1).length=n + 1:=by
        have:=HN.out
        rw [List.length_cons,List.length_cons,List.length_drop]
        omega
       show v7.ownsRow w.heap.size 3 1 (.slice (some ⟨g',0,none⟩) (R.headD 0 :: (v:Int) :: R.drop 1).length c') (R.headD 0 :: (v:Int) :: R.drop 1).length _
       rw [e]
       exact hrow
     · have:=HN.out
       show 3 ≤ (R.headD 0 :: (v:Int) :: R.drop 1).length
       rw [List.length_cons,List.length_cons,List.length_drop]
       omega
     rcases hg' with rfl | rfl
     · exact .inl rfl
     exact .inr ⟨_,rfl,Nat.le_refl _⟩)
    have HO7:Hid (Only (OWy gw gc (((some ⟨gl,0,none⟩,cx),R) :: r) Aw) W v7):=jJ (HOv6.out.grown hgr fun k e=>by
     injection e with e
     subst e
     exact .inl (.inr (.inr (.inr ⟨_,.head _,rfl⟩))))
    have hg0:Only (fun k=>k=gl) v6 v7:=⟨hgr.os,hgr.tape,hgr.output,hgr.size,fun k hk hn=>hgr.block k hk fun e=>hn (by injection e)⟩
    have hgl:b0 ≠ gl ∧ b7 ≠ gl:=⟨fun e=>(HOW.out gl (.inr (.inr (.inr ⟨_,.head _,rfl⟩)))).1 e.symm,fun e=>(HOW.out gl (.inr (.inr (.inr ⟨_,.head _,rfl⟩)))).2.1 e.symm⟩
    have HSv7:Hid (Blk v7 b0 55 #[.int .u8 0,.int .i64 0,.int .i64 0,.int .i64 0]):=jJ (HSv6.out.only hg0 hgl.1)
    have H7v7:Hid (Blk v7 b7 55 #[.int .u8 67,.int .i64 (c:Int),.int .i64 (rl:Int),.int .i64 (n:Int)]):=jJ (H7v6.out.only hg0 hgl.2)
    have hfw:v7.frozen? ⟨gw,2,none⟩=false:=by
     have:=HMv6.out.k.only hg0 (fun e=>by
      have h1:=own_blk_ne (HMv6.out.r _ (.head _)) HMv6.out.k (by decide)
      exact h1 (by rw [e]; rfl))
     exact this.frozen 2
    have hcw:v7.cell? ⟨gw,2,none⟩=some (wayC ((some ⟨gl,0,none⟩,cx),R)):=by
     have:=HMv6.out.k.only hg0 (fun e=>by
      have h1:=own_blk_ne (HMv6.out.r _ (.head _)) HMv6.out.k (by decide)
      exact h1 (by rw [e]; rfl))
     exact this.cell 2
    have hz6:v3.heap.size ≤ v6.heap.size:=by
     have:=HZ5.out
     rw [hv6,World.size_alloc]
     omega
    have HOW7:Hid (∀ k,OWy gw gc (((some ⟨g',0,none⟩,c'),R.headD 0 :: (v:Int) :: R.drop 1) :: r) Aw k → OWy gw gc (((some ⟨gl,0,none⟩,cx),R) :: r) Aw k ∨ v3.heap.size ≤ k):=jJ fun k hk=>by
     rcases hk with e | e | e | ⟨z,hz,e⟩
     · exact .inl (.inl e)
     · exact .inl (.inr (.inl e))
     · exact .inl (.inr (.inr (.inl e)))
     rcases List.mem_cons.1 hz with rfl | hz
     · rcases hg' with rfl | rfl
       · exact .inl (.inr (.inr (.inr ⟨_,.head _,e⟩)))
       replace e:some v6.heap.size=some k:=e
       injection e with e
       exact .inr (by omega)
     exact .inl (.inr (.inr (.inr ⟨z,.tail _ hz,e⟩)))
    have HST:Hid (stepL come R (r.map (·.2)) v=(67,come.set v true,((((some ⟨g',0,none⟩,c'),R.headD 0 :: (v:Int) :: R.drop 1) :: r:List Way).map (·.2)))):=jJ (by
     unfold stepL
     rw [if_neg (by rw [← HQ.out]; decide)]
     rfl)
    clear hgr hg0 hrow hg' HMv6 HMv5 HSv5 HSv6 H7v5 H7v6 HOv5 HOv6 H8v6 HIN q2 hlt8 hv6 HZ5 hz6 HI HQ
    go_upto_region 11 with (fail)
    clear hfw hcw
    obtain ⟨v8,hv8⟩:=jX (v7.setCell ⟨gw,2,none⟩ (.slice (some ⟨g',0,none⟩) (n + 1) c'))
    have hel:wayC ((some ⟨g',0,none⟩,c'),R.headD 0 :: (v:Int) :: R.drop 1)=.slice (some ⟨g',0,none⟩) (n + 1) c':=by
     show Value.slice _ (R.headD 0 :: (v:Int) :: R.drop 1).length c'=_
     have:=HN.out
     rw [List.length_cons,List.length_cons,List.length_drop,show R.length - 1 + 1 + 1=n + 1 by omega]
    have HMv8:Hid (WyAt v8 w.heap.size g gw gc m (come.set v true) (((some ⟨g',0,none⟩,c'),R.headD 0 :: (v:Int) :: R.drop 1) :: r) Aw cw):=by rw [hv8,← hel]; exact HM7
    have HSv8:Hid (Blk v8 b0 55 #[.int .u8 0,.int .i64 0,.int .i64 0,.int .i64 0]):=by rw [hv8]; exact jJ (HSv7.out.far (p:=⟨gw,2,none⟩) (fun e=>(HOW.out gw (.inl rfl)).1 e.symm) _)
    have H7v8:Hid (Blk v8 b7 55 #[.int .u8 67,.int .i64 (c:Int),.int .i64 (rl:Int),.int .i64 (n:Int)]):=by rw [hv8]; exact jJ (H7v7.out.far (p:=⟨gw,2,none⟩) (fun e=>(HOW.out gw (.inl rfl)).2.1 e.symm) _)
    have HOv8:Hid (Only (OWy gw gc (((some ⟨gl,0,none⟩,cx),R) :: r) Aw) W v8):=by rw [hv8]; exact jJ (HO7.out.setCell (p:=⟨gw,2,none⟩) (.inl (.inl rfl)) _)
    rw [← hv8]
    clear hv8 HM7 HO7 HSv7 H7v7 hel
    have s0:v8.cell? ⟨b7,0,none⟩=some (.int .u8 67):=H7v8.out.cell 0
    have s1:v8.cell? ⟨b7,1,none⟩=some (.int .i64 (c:Int)):=H7v8.out.cell 1
    have s2:v8.cell? ⟨b7,2,none⟩=some (.int .i64 (rl:Int)):=H7v8.out.cell 2
    have s3:v8.cell? ⟨b7,3,none⟩=some (.int .i64 (n:Int)):=H7v8.out.cell 3
    have t0:v8.cell? ⟨b0,0,none⟩=some (.int .u8 0):=HSv8.out.cell 0
    have t1:v8.cell? ⟨b0,1,none⟩=some (.int .i64 0):=HSv8.out.cell 1
    have t2:v8.cell? ⟨b0,2,none⟩=some (.int .i64 0):=HSv8.out.cell 2
    have t3:v8.cell? ⟨b0,3,none⟩=some (.int .i64 0):=HSv8.out.cell 3
    have f0:v8.frozen? ⟨b0,0,none⟩=false:=HSv8.out.frozen 0
    have f1:v8.frozen? ⟨b0,1,none⟩=false:=HSv8.out.frozen 1
    have f2:v8.frozen? ⟨b0,2,none⟩=false:=HSv8.out.frozen 2
    have f3:v8.frozen? ⟨b0,3,none⟩=false:=HSv8.out.frozen 3
    have HFI:=jJ (step_fin (cw:=cw) (c:=c) HSv8.out HOv8.out HMv8.out HZ.out.1 (fun h=>by
     rcases HOW7.out _ h with h | h
     · exact (HOW.out _ h).1 rfl
     have:=HZ.out
     omega) HST.out (fun k hk=>(HOW7.out k hk).imp id fun h=>by have:=HZ.out; omega) HN.out HRL.out)
    go_wp2_with fail
    obtain ⟨vz,hvz⟩:=jX (((((v8.setCell ⟨b0,0,none⟩ (.int .u8 67)).setCell ⟨b0,1,none⟩ (.int .i64 (c:Int))).setCell ⟨b0,2,none⟩ (.int .i64 (rl:Int))).setCell ⟨b0,3,none⟩ (.int .i64 (n:Int))))
    have HSz:Hid (Blk vz b0 55 #[.int .u8 67,.int .i64 (c:Int),.int .i64 (rl:Int),.int .i64 (n:Int)]):=by rw [hvz]; exact jJ (blk_set4 HSv8.out)
    have HFz:Hid (StepPost W w.heap.size g gw gc m cw come ((some ⟨gl,0,none⟩,cx),R) r Aw c v (.returned (.tuple #[.agg #[.int .u8 67,.int .i64 (c:Int),.int .i64 (rl:Int),.int .i64 (n:Int)],.bool true])) vz):=by rw [hvz]; exact HFI
    rw [← hvz]
    clear hvz HFI s0 s1 s2 s3 t0 t1 t2 t3 f0 f1 f2 f3
    have s0:vz.cell? ⟨b0,0,none⟩=some (.int .u8 67):=HSz.out.cell 0
    have s1:vz.cell? ⟨b0,1,none⟩=some (.int .i64 (c:Int)):=HSz.out.cell 1
    have s2:vz.cell? ⟨b0,2,none⟩=some (.int .i64 (rl:Int)):=HSz.out.cell 2
    have s3:vz.cell? ⟨b0,3,none⟩=some (.int .i64 (n:Int)):=HSz.out.cell 3
    refine bodyPost_ret (v:=.tuple #[.agg #[.int .u8 67,.int .i64 (c:Int),.int .i64 (rl:Int),.int .i64 (n:Int)],.bool true]) ?_ rfl HFz.out
    simp [results,Tryz.results37,go_sem,s0,s1,s2,s3]
   | true =>
    have HI1:=jJ (HI.out HQ.out.symm)
    obtain ⟨i,hi⟩:=jX (R.idxOf (v:Int))
    have HIE:=jJ hi
    have hi2:2 ≤ i:=by rw [hi]; exact HI1.out.2.1
    have hin:i + 1 ≤ n:=by rw [hi,HN.out]; exact HI1.out.2.2
    have HIX:Hid (Calls Tryz.prog 64 #[.slice (some ⟨gl,0,none⟩) n cx,.int .i64 (v:Int)] v3 (fun e w'=>e=.returned (.int .i64 (i:Int)) ∧ w'=v3)):=jJ (by
     rw [hi]
     exact indexW_any w.heap.size n cx (some ⟨gl,0,none⟩) R (v:Int) v3 (by rw [HN.out]; exact HMv3.out.r _ (.head _)) hn0 HI1.out.1)
    have HCT:Hid (come.getD v false=true):=jJ HQ.out.symm
    have q2:v3.cell? ⟨gw,2,none⟩=some (.slice (some ⟨gl,0,none⟩) n cx):=by rw [HN.out]; exact HMv3.out.k.cell 2
    clear hi HI HQ HI1
    go_upto_region 12 with (fail)
    clear qc
    go_wp2_with fail
    refine HIX.out.mono ?_
    rintro e w' ⟨rfl,hw⟩
    replace hw:=hw.symm
    subst hw
    clear HIX q1 q2
    have p7:v3.cell? ⟨b7,0,none⟩=some (.int .u8 0):=H7v3.out.cell 0
    have f7:v3.frozen? ⟨b7,0,none⟩=false:=H7v3.out.frozen 0
    have hn7:¬ OWy gw gc (((some ⟨gl,0,none⟩,cx),R) :: r) Aw b7:=fun h=>(HOW.out b7 h).2.1 rfl
    have HL4:Hid (∀ (K:Int),∃ v4:World,v4=v3.setCell ⟨b7,0,none⟩ (.int .u8 K) ∧ WyAt v4 w.heap.size g gw gc m come (((some ⟨gl,0,none⟩,cx),R) :: r) Aw cw ∧ Blk v4 b0 55 #[.int .u8 0,.int .i64 0,.int .i64 0,.int .i64 0] ∧ Blk v4 b7 55 #[.int .u8 K,.int .i64 (c:Int),.int .i64 (rl:Int),.int .i64 (n:Int)] ∧ Only (OWy gw gc (((some ⟨gl,0,none⟩,cx),R) :: r) Aw) W v4 ∧ v4.heap.size=v3.heap.size):=jJ fun K =>
     ⟨_,rfl,HMv3.out.setOut hn7 _,HSv3.out.far (p:=⟨b7,0,none⟩) HZ.out.2.2.2.1 _,H7v3.out.set_ 0 _,HOv3.out.setCell (p:=⟨b7,0,none⟩) (.inr HZ.out.2.1) _,by simp⟩
    by_cases hn33:n=3
    · have hb3:((n:Int) == 3)=true:=by rw [hn33]; rfl
      have HN33:=jJ hn33
      clear hn33
      go_upto_region 18 with (fail)
      obtain ⟨v4,hv4,hM4,hS4,h74,hO4,hz4⟩:=HL4.out 69
      have HMv4:=jJ hM4
      have HSv4:=jJ hS4
      have H7v4:=jJ h74
      have HOv4:=jJ hO4
      have HZ4:=jJ hz4
      rw [← hv4]
      clear HL4 hv4 hM4 hS4 h74 hO4 hz4 p7 f7 hn7 HMv3 HSv3 H7v3 HOv3 HBv3
      have c2:v4.cell? ⟨gw,2,none⟩=some (.slice (some ⟨gl,0,none⟩) n cx):=by rw [HN.out]; exact HMv4.out.k.cell 2
      have f2:v4.frozen? ⟨gw,2,none⟩=false:=HMv4.out.k.frozen 2
      go_upto_region 19 with (fail)
      clear c2 f2
      have hngw:b0 ≠ gw ∧ b7 ≠ gw:=⟨fun e=>(HOW.out gw (.inl rfl)).1 e.symm,fun e=>(HOW.out gw (.inl rfl)).2.1 e.symm⟩
      obtain ⟨v5,hv5⟩:=jX (v4.setCell ⟨gw,2,none⟩ (.slice none 0 0))
      have HV5:=jJ hv5
      have HSv5:Hid (Blk v5 b0 55 #[.int .u8 0,.int .i64 0,.int .i64 0,.int .i64 0]):=by rw [hv5]; exact jJ (HSv4.out.far (p:=⟨gw,2,none⟩) hngw.1 _)
      have H7v5:Hid (Blk v5 b7 55 #[.int .u8 69,.int .i64 (c:Int),.int .i64 (rl:Int),.int .i64 (n:Int)]):=by rw [hv5]; exact jJ (H7v4.out.far (p:=⟨gw,2,none⟩) hngw.2 _)
      have HOv5:Hid (Only (OWy gw gc (((some ⟨gl,0,none⟩,cx),R) :: r) Aw) W v5):=by rw [hv5]; exact jJ (HOv4.out.setCell (p:=⟨gw,2,none⟩) (.inl (.inl rfl)) _)
      have c3:v5.cell? ⟨gw,3,none⟩=some (.slice Aw rl cw):=by
       rw [hv5,World.cell?_setCell_other _ _ _ _ (by intro e; injection e with _ e; cases e),HRL.out]
       exact HMv4.out.k.cell 3
      rw [← hv5]
      clear hv5 HSv4 H7v4 HOv4 HZ4 hngw
      have hwr:IntKind.i64.wrap ((rl:Int) - 1)=(rl:Int) - 1:=IntWalk.i64_in _ (by omega)
      cases r with
      | nil =>
       have hr0:rl=0:=HRL.out
       have hlt0:¬ (0:Int) ≤ (rl:Int) - 1:=by omega
       have hlt1:(rl:Int) - 1 < 0:=by omega
       have HRL0:=jJ hr0
       clear hr0
       go_upto_region 28 with (fail)
       have HMv5:Hid (WyAt v5 w.heap.size g gw gc m come [] Aw cw):=by rw [HV5.out]; exact jJ HMv4.out.gone
       have HOWE:Hid (∀ k,OWy gw gc [] Aw k → OWy gw gc [((some ⟨gl,0,none⟩,cx),R)] Aw k ∨ v3.heap.size ≤ k):=jJ fun k hk=>by
        rcases hk with e | e | e | ⟨z,hz,e⟩
        · exact .inl (.inl e)
        · exact .inl (.inr (.inl e))
        · exact .inl (.inr (.inr (.inl e)))
        cases hz
       have HST:Hid (stepL come R (([]:List Way).map (·.2)) v=(69,come,([]:List Way).map (·.2))):=jJ (by
        unfold stepL
        rw [if_pos HCT.out,if_pos (by rw [← HN.out]; exact HN33.out)])
       clear c3 hlt0 hlt1 hwr HMv4
       have s0:v5.cell? ⟨b7,0,none⟩=some (.int .u8 69):=H7v5.out.cell 0
       have s1:v5.cell? ⟨b7,1,none⟩=some (.int .i64 (c:Int)):=H7v5.out.cell 1
       have s2:v5.cell? ⟨b7,2,none⟩=some (.int .i64 (rl:Int)):=H7v5.out.cell 2
       have s3:v5.cell? ⟨b7,3,none⟩=some (.int .i64 (n:Int)):=H7v5.out.cell 3
       have t0:v5.cell? ⟨b0,0,none⟩=some (.int .u8 0):=HSv5.out.cell 0
       have t1:v5.cell? ⟨b0,1,none⟩=some (.int .i64 0):=HSv5.out.cell 1
       have t2:v5.cell? ⟨b0,2,none⟩=some (.int .i64 0):=HSv5.out.cell 2
       have t3:v5.cell? ⟨b0,3,none⟩=some (.int .i64 0):=HSv5.out.cell 3
       have f0:v5.frozen? ⟨b0,0,none⟩=false:=HSv5.out.frozen 0
       have f1:v5.frozen? ⟨b0,1,none⟩=false:=HSv5.out.frozen 1
       have f2:v5.frozen? ⟨b0,2,none⟩=false:=HSv5.out.frozen 2
       have f3:v5.frozen? ⟨b0,3,none⟩=false:=HSv5.out.frozen 3
       have HFI:=jJ (step_fin (cw:=cw) (c:=c) HSv5.out HOv5.out HMv5.out HZ.out.1 (fun h=>by
        rcases HOWE.out _ h with h | h
        · exact (HOW.out _ h).1 rfl
        have:=HZ.out
        omega) HST.out (fun k hk=>(HOWE.out k hk).imp id fun h=>by have:=HZ.out; omega) HN.out HRL.out)
       go_wp2_with fail
       obtain ⟨vz,hvz⟩:=jX (((((v5.setCell ⟨b0,0,none⟩ (.int .u8 69)).setCell ⟨b0,1,none⟩ (.int .i64 (c:Int))).setCell ⟨b0,2,none⟩ (.int .i64 (rl:Int))).setCell ⟨b0,3,none⟩ (.int .i64 (n:Int))))
       have HSz:Hid (Blk vz b0 55 #[.int .u8 69,.int .i64 (c:Int),.int .i64 (rl:Int),.int .i64 (n:Int)]):=by rw [hvz]; exact jJ (blk_set4 HSv5.out)
       have HFz:Hid (StepPost W w.heap.size g gw gc m cw come ((some ⟨gl,0,none⟩,cx),R) [] Aw c v (.returned (.tuple #[.agg #[.int .u8 69,.int .i64 (c:Int),.int .i64 (rl:Int),.int .i64 (n:Int)],.bool true])) vz):=by rw [hvz]; exact HFI
       rw [← hvz]
       clear hvz HFI s0 s1 s2 s3 t0 t1 t2 t3 f0 f1 f2 f3
       have s0:vz.cell? ⟨b0,0,none⟩=some (.int .u8 69):=HSz.out.cell 0
       have s1:vz.cell? ⟨b0,1,none⟩=some (.int .i64 (c:Int)):=HSz.out.cell 1
       have s2:vz.cell? ⟨b0,2,none⟩=some (.int .i64 (rl:Int)):=HSz.out.cell 2
       have s3:vz.cell? ⟨b0,3,none⟩=some (.int .i64 (n:Int)):=HSz.out.cell 3
       refine bodyPost_ret (v:=.tuple #[.agg #[.int .u8 69,.int .i64 (c:Int),.int .i64 (rl:Int),.int .i64 (n:Int)],.bool true]) ?_ rfl HFz.out
       simp [results,Tryz.results37,go_sem,s0,s1,s2,s3]
      | cons y r' =>
       obtain ⟨⟨Ay,cyy⟩,Ly⟩:=y
       obtain ⟨ny,hny⟩:=jX Ly.length
       have hyw:wayC ((Ay,cyy),Ly)=.slice Ay ny cyy:=by rw [hny]; rfl
       have HYV:=jJ hyw
       obtain ⟨ga,hga,hcy,hcw⟩:=HMv4.out.next_cell
       obtain ⟨rk,hrk⟩:=jX r'.length
       have hrl':rl=rk + 1:=by rw [HRL.out,hrk]; rfl
       rw [← hrk] at hcw hcy
       have HRK:=jJ hrk
       subst hga
       rw [hyw] at hcy
       have hgne:ga ≠ gw:=fun e=>own_blk_ne HMv4.out.w HMv4.out.k (by decide) (by rw [← e]; rfl)
       have hgal:=(HMv4.out.w.lt ga rfl).2
       have KDv5:Hid (WyD v5 gw ga rk (.slice (some ⟨ga,0,none⟩) rl cw) (.slice Ay ny cyy)):=jJ ⟨c3,by
        rw [HV5.out,World.cell?_setCell_other _ _ _ _ (by intro e; injection e with e _; exact hgne e.symm)]
        exact hcy,by rw [HV5.out]; simpa using HMv4.out.k.lt,by rw [HV5.out]; simpa using hgal⟩
       have hwr':IntKind.i64.wrap ((rl:Int) - 1)=(rk:Int):=by rw [hwr]; omega
       have hrk0:(0:Int) ≤ (rk:Int):=by omega
       have hrkl:rk < rl:=by omega
       have hrkli:(rk:Int) < (rl:Int):=by omega
       have hsl:∀ wx:World,(Instr.slice 95 (.slice (some ⟨ga,0,none⟩) rl cw) none (some (.int .i64 (rk:Int))) none).run Tryz.prog wx=.ok (.slice (some ⟨ga,0,none⟩) rk cw) wx:=fun wx=>by
        obtain ⟨i1,hi1,_,hz1,_⟩:=info_parts row_infoW
        have:=run_slice_to (P:=Tryz.prog) Tryz.underlying95 hi1 (some ⟨ga,0,none⟩) rl cw rk (by omega) wx
        rw [if_neg (by omega)] at this
        simpa [Addr.add] using this
       have HRL1:=jJ hrl'
       have HCW:=jJ hcw
       clear hwr hrl' hcy hcw hrk hyw hny hgal
       go_upto_region 21 with (fail)
       clear c3
       have k5:=HMv4.out.k.set_ 2 (.slice none 0 0)
       have g2:v5.drew.cell? ⟨gw,2,none⟩=some (.slice none 0 0):=by rw [HV5.out]; exact k5.drew.cell 2
       have fz2:v5.drew.frozen? ⟨gw,2,none⟩=false:=by rw [HV5.out]; exact k5.drew.frozen 2
       have k6:=(k5.set_ 2 (.slice Ay ny cyy)).drew
       have fz3:((v5.setCell ⟨gw,2,none⟩ (.slice Ay ny cyy)).drew).frozen? ⟨gw,3,none⟩=false:=by rw [HV5.out]; exact k6.frozen 3
       clear k5 k6
       refine wp_region_till (S:=fun w'=>w'.cell? ⟨gw,3,none⟩=some (.slice (some ⟨ga,0,none⟩) rl cw) ∧ w'.cell? ⟨ga,rk,none⟩=some (.slice Ay ny cyy)) 20 (by kernel_rfl) ⟨KDv5.out.drew.c3,KDv5.out.drew.cy⟩ (fun hHeld=>?_)
       refine tKk 0 ?_; (try simp only [zQ])
       refine tKk 1 ?_; (try simp only [zQ])
       refine tKk 2 ?_; (try simp only [zQ])
       refine tKk 3 ?_; (try simp only [zQ])
       refine tKk 4 ?_; (try simp only [zQ])
       refine tKk 5 ?_; (try simp only [zQ])
       refine tKk 6 ?_; (try simp only [zQ])
       refine tKk 7 ?_; (try simp only [zQ])
       refine tKk 8 ?_; (try simp only [zQ])
       refine tKk 9 ?_; (try simp only [zQ])
       refine tKk 10 ?_; (try simp only [zQ])
       refine tKk 11 ?_; (try simp only [zQ])
       refine tKk 12 ?_; (try simp only [zQ])
       refine tKk 13 ?_; (try simp only [zQ])
       refine tKk 14 ?_; (try simp only [zQ])
       refine tKk 15 ?_; (try simp only [zQ])
       refine tKk 16 ?_; (try simp only [zQ])
       refine Till.ready (rs:=[17]) (by kernel_rfl) (by simp) ?_
       refine TillEach.cons rfl (fun K hK=>?_) ?_
       · go_simp
         go_wp2_with fail
         obtain ⟨v6,hvU⟩:=jX ((v5.setCell ⟨gw,2,none⟩ (.slice Ay ny cyy)).drew)
         have KDv6:Hid (WyD v6 gw ga rk (.slice (some ⟨ga,0,none⟩) rl cw) (.slice Ay ny cyy)):=by rw [hvU]; exact jJ (KDv5.out.set hgne _).drew
         rw [← hvU] at fz3 ⊢
         have HUv6:=jJ hvU
         clear hvU
         refine hK.out _ _ ?_ (fun hHeld=>?_)
         · exact ⟨KDv6.out.c3,KDv6.out.cy⟩
         clear hK K
         (try simp only [zQ])
         refine Till.takeP [19] (i:=18) (v:=?vt18) rfl (by kernel_rfl) (by kernel_rfl) (by kernel_rfl) (by kernel_rfl) (by kernel_rfl) (fun _ _ _ h=>h) (Or.inl ⟨by rfl,?ht18⟩) (by assumption) ?restt18
         case ht18=>(intro w h; (try dsimp only at h); go_simp; try with_reducible rfl)
         (try simp only [zQ])
         refine tKk 19 ?_; (try simp only [zQ])
         refine Till.ready (rs:=[20]) (by kernel_rfl) (by simp) ?_
         refine TillEach.last rfl (fun K hK=>?_)
         go_simp
         refine hK.out _ _ ?_
         clear hK K
         (try simp only [zQ])
         refine Till.done (by kernel_rfl) ?_ _
         obtain ⟨v8,hv8⟩:=jX (v6.setCell ⟨gw,3,none⟩ (.slice (some ⟨ga,0,none⟩) rk cw))
         have hng:b0 ≠ gw ∧ b7 ≠ gw:=⟨fun e=>(HOW.out gw (.inl rfl)).1 e.symm,fun e=>(HOW.out gw (.inl rfl)).2.1 e.symm⟩
         have HMv8:Hid (WyAt v8 w.heap.size g gw gc m come (((Ay,cyy),Ly) :: r') (some ⟨ga,0,none⟩) cw):=jJ (by
          rw [hv8,HUv6.out,HV5.out,← HYV.out,HRK.out]
          exact HMv4.out.popD)
         have HSv8:Hid (Blk v8 b0 55 #[.int .u8 0,.int .i64 0,.int .i64 0,.int .i64 0]):=jJ (by
          rw [hv8,HUv6.out]
          exact (HSv5.out.far (p:=⟨gw,2,none⟩) hng.1 _).drew.far (p:=⟨gw,3,none⟩) hng.1 _)
         have H7v8:Hid (Blk v8 b7 55 #[.int .u8 69,.int .i64 (c:Int),.int .i64 (rl:Int),.int .i64 (n:Int)]):=jJ (by
          rw [hv8,HUv6.out]
          exact (H7v5.out.far (p:=⟨gw,2,none⟩) hng.2 _).drew.far (p:=⟨gw,3,none⟩) hng.2 _)
         have HOv8:Hid (Only (OWy gw gc (((some ⟨gl,0,none⟩,cx),R) :: ((Ay,cyy),Ly) :: r') (some ⟨ga,0,none⟩)) W v8):=jJ (by
          rw [hv8,HUv6.out]
          exact (HOv5.out.setCell (p:=⟨gw,2,none⟩) (.inl (.inl rfl)) _).drew.setCell (p:=⟨gw,3,none⟩) (.inl (.inl rfl)) _)
         have HOWE:Hid (∀ k,OWy gw gc (((Ay,cyy),Ly) :: r') (some ⟨ga,0,none⟩) k → OWy gw gc (((some ⟨gl,0,none⟩,cx),R) :: ((Ay,cyy),Ly) :: r') (some ⟨ga,0,none⟩) k ∨ v3.heap.size ≤ k):=jJ fun k hk=>by
          rcases hk with e | e | e | ⟨z,hz,e⟩
          · exact .inl (.inl e)
          · exact .inl (.inr (.inl e))
          · exact .inl (.inr (.inr (.inl e)))
          exact .inl (.inr (.inr (.inr ⟨z,.tail _ hz,e⟩)))
         have HST:Hid (stepL come R ((((Ay,cyy),Ly) :: r').map (·.2)) v=(69,come,(((Ay,cyy),Ly) :: r').map (·.2))):=jJ (by
          unfold stepL
          rw [if_pos HCT.out,if_pos (by rw [← HN.out]; exact HN33.out)])
         have hcz:v6.cell? ⟨gw,3,none⟩=some (.slice (some ⟨ga,0,none⟩) rl cw):=KDv6.out.c3
         go_upto_region 28 with (fail)
         rw [← hv8]
         clear hv8 hcz
         have s0:v8.cell? ⟨b7,0,none⟩=some (.int .u8 69):=H7v8.out.cell 0
         have s1:v8.cell? ⟨b7,1,none⟩=some (.int .i64 (c:Int)):=H7v8.out.cell 1
         have s2:v8.cell? ⟨b7,2,none⟩=some (.int .i64 (rl:Int)):=H7v8.out.cell 2
         have s3:v8.cell? ⟨b7,3,none⟩=some (.int .i64 (n:Int)):=H7v8.out.cell 3
         have t0:v8.cell? ⟨b0,0,none⟩=some (.int .u8 0):=HSv8.out.cell 0
         have t1:v8.cell? ⟨b0,1,none⟩=some (.int .i64 0):=HSv8.out.cell 1
         have t2:v8.cell? ⟨b0,2,none⟩=some (.int .i64 0):=HSv8.out.cell 2
         have t3:v8.cell? ⟨b0,3,none⟩=some (.int .i64 0):=HSv8.out.cell 3
         have f0:v8.frozen? ⟨b0,0,none⟩=false:=HSv8.out.frozen 0
         have f1:v8.frozen? ⟨b0,1,none⟩=false:=HSv8.out.frozen 1
         have f2:v8.frozen? ⟨b0,2,none⟩=false:=HSv8.out.frozen 2
         have f3:v8.frozen? ⟨b0,3,none⟩=false:=HSv8.out.frozen 3
         have HFI:=jJ (step_fin (cw:=cw) (c:=c) HSv8.out HOv8.out HMv8.out HZ.out.1 (fun h=>by
          rcases HOWE.out _ h with h | h
          · exact (HOW.out _ h).1 rfl
          have:=HZ.out
          omega) HST.out (fun k hk=>(HOWE.out k hk).imp id fun h=>by have:=HZ.out; omega) HN.out HRL.out)
         go_wp2_with fail
         obtain ⟨vz,hvz⟩:=jX (((((v8.setCell ⟨b0,0,none⟩ (.int .u8 69)).setCell ⟨b0,1,none⟩ (.int .i64 (c:Int))).setCell ⟨b0,2,none⟩ (.int .i64 (rl:Int))).setCell ⟨b0,3,none⟩ (.int .i64 (n:Int))))
         have HSz:Hid (Blk vz b0 55 #[.int .u8 69,.int .i64 (c:Int),.int .i64 (rl:Int),.int .i64 (n:Int)]):=by rw [hvz]; exact jJ (blk_set4 HSv8.out)
         have HFz:Hid (StepPost W w.heap.size g gw gc m cw come ((some ⟨gl,0,none⟩,cx),R) (((Ay,cyy),Ly) :: r') (some ⟨ga,0,none⟩) c v (.returned (.tuple #[.agg #[.int .u8 69,.int .i64 (c:Int),.int .i64 (rl:Int),.int .i64 (n:Int)],.bool true])) vz):=by rw [hvz]; exact HFI
         rw [← hvz]
         clear hvz HFI s0 s1 s2 s3 t0 t1 t2 t3 f0 f1 f2 f3
         have s0:vz.cell? ⟨b0,0,none⟩=some (.int .u8 69):=HSz.out.cell 0
         have s1:vz.cell? ⟨b0,1,none⟩=some (.int .i64 (c:Int)):=HSz.out.cell 1
         have s2:vz.cell? ⟨b0,2,none⟩=some (.int .i64 (rl:Int)):=HSz.out.cell 2
         have s3:vz.cell? ⟨b0,3,none⟩=some (.int .i64 (n:Int)):=HSz.out.cell 3
         refine bodyPost_ret (v:=.tuple #[.agg #[.int .u8 69,.int .i64 (c:Int),.int .i64 (rl:Int),.int .i64 (n:Int)],.bool true]) ?_ rfl HFz.out
         simp [results,Tryz.results37,go_sem,s0,s1,s2,s3]
       exact TillEach.nil
    have hb3:((n:Int) == 3)=false:=by rw [beq_eq_false_iff_ne]; omega
    have HN33:=jJ hn33
    obtain ⟨n1,hn1e⟩:∃ k,n=k + 1:=⟨n - 1,by omega⟩
    have hwn:IntKind.i64.wrap ((n:Int) - 1)=(n1:Int):=by rw [IntWalk.i64_in _ (by omega)]; omega
    have hnn:n1 + 1=n:=hn1e.symm
    have HNN:=jJ hnn
    have hn13:3 ≤ n1:=by omega
    have hnle:n1 ≤ cx:=by omega
    have hin1:i ≤ n1:=by omega
    have hn1k:n1 ≤ 1000:=by omega
    clear hn33 hn1e hnn
    have HB3:=HBv3
    by_cases hc2:i=n1
    · have hb4:((i:Int) == (n1:Int))=true:=by rw [beq_iff_eq,hc2]
      have HC2:=jJ hc2
      clear hc2
      go_upto_region 24 with (fail)
      obtain ⟨v4,hv4,hM4,hS4,h74,hO4,hz4⟩:=HL4.out 76
      have HMv4:=jJ hM4
      have HSv4:=jJ hS4
      have H7v4:=jJ h74
      have HOv4:=jJ hO4
      have HZ4:=jJ hz4
      rw [← hv4]
      clear HL4 hv4 hM4 hS4 h74 hO4 hz4 p7 f7 hn7 HMv3 HSv3 H7v3 HOv3 HBv3
      obtain ⟨i0,hi0,hz0,hz1,hz2⟩:=info_parts int_infoC
      have hsl:∀ wx:World,(Instr.slice 30 (.slice (some ⟨gl,0,none⟩) n cx) (some (.int .i64 1)) (some (.int .i64 (n1:Int))) none).run Tryz.prog wx=.ok (.slice (some ⟨gl,1,none⟩) (n1 - 1) (cx - 1)) wx:=fun wx=>by
       have:=run_slice_two (P:=Tryz.prog) Tryz.underlying30 hi0 (some ⟨gl,0,none⟩) n cx 1 n1 (by omega) hnle wx
       rw [if_neg (by omega),hz1] at this
       exact this
      have HRD:Hid (Reads (v4.alloc (.cells #[.int .i64 (v:Int)] 3)) (v4.alloc (.cells #[.int .i64 (v:Int)] 3)).heap.size 1 (some ⟨gl,1,none⟩) (n1 - 1) (ZL ((R.take n1).drop 1))):=jJ (reads_mid (B:=w.heap.size) (n:=n) (cx:=cx) (by rw [HN.out]; exact (HMv4.out.alloc _).r _ (.head _)) (by omega) (by have:=HNN.out; omega))
      have HBS:Hid (w.heap.size ≤ v4.heap.size):=jJ (by have:=HB3.out.size; have:=HZ4.out; omega)
      have HON:Hid ((v4.alloc (.cells #[.int .i64 (v:Int)] 3)).ownsRow w.heap.size 3 1 (.slice (some ⟨v4.heap.size,0,none⟩) 1 1) 1 [.int .i64 (v:Int)]):=jJ (own_new1 v4 w.heap.size _ _ HBS.out)
      have HCF:Hid (∀ v6:World,(v4.alloc (.cells #[.int .i64 (v:Int)] 3)).grownBy v6 (some v4.heap.size) → v6.cell? ⟨gw,2,none⟩=some (.slice (some ⟨gl,0,none⟩) n cx) ∧ v6.frozen? ⟨gw,2,none⟩=false):=jJ fun v6 hg=>by
       have:=HMv4.out.k.only (((Only.refl (fun _=>False) v4).alloc _).grown hg fun k e=>by injection e with e; exact .inr (by omega)) (fun h=>h)
       exact ⟨by rw [HN.out]; exact this.cell 2,this.frozen 2⟩
      have q2:(v4.alloc (.cells #[.int .i64 (v:Int)] 3)).cell? ⟨gw,2,none⟩=some (.slice (some ⟨gl,0,none⟩) n cx):=by rw [HN.out]; exact (HMv4.out.alloc _).k.cell 2
      go_upto_region 28 with (at_builtin; go_must (refine wpList_append_sl _ rfl (.tmp 163) (.tmp 170) _ rfl w.heap.size 3 i0 _ 1 8 Tryz.underlying30 hi0 hz0 hz1 hz2 rfl (by omega) (.slice (some ⟨v4.heap.size,0,none⟩) 1 1) 1 [.int .i64 (v:Int)] rfl HON.out (v4.alloc (.cells #[.int .i64 (v:Int)] 3)).heap.size (some ⟨gl,1,none⟩) (n1 - 1) (cx - 1) (ZL ((R.take n1).drop 1)) rfl HRD.out (oneZL _) (by simp only [maxLen]; omega) (by omega) (by rw [World.size_alloc]; exact Nat.le_succ_of_le HBS.out) ?_); intro A5 c5 v6 hown5 hg5 hat5; have HO5:=jJ hown5; have HG5:=jJ hg5; have HA5:=jJ hat5; have hcw:=(HCF.out v6 hg5).1; have hfw:=(HCF.out v6 hg5).2; clear hown5 hg5 hat5 q2)
      clear hcw hfw HCF HRD HON hsl hi0 hz0 hz1 hz2
      have hlm:((R.take n1).drop 1).length=n1 - 1:=by
       have:=HN.out
       have:=HNN.out
       rw [List.length_drop,List.length_take]
       omega
      obtain ⟨hrow,hnew,hof,hval⟩:=app_way (B:=w.heap.size) (u:=(v:Int)) ((Only.refl (fun _=>False) v4).alloc _) (Nat.le_refl _) hlm HO5.out HG5.out HA5.out
      obtain ⟨y,hy⟩:=jX (((A5,c5),(v:Int) :: (R.take n1).drop 1):Way)
      rw [← hy] at hrow hnew hval
      obtain ⟨v8,hv8⟩:=jX (v6.setCell ⟨gw,2,none⟩ (.slice A5 (1 + (n1 - 1)) c5))
      have HMv8:Hid (WyAt v8 w.heap.size g gw gc m come (y :: r) Aw cw):=jJ (by
       rw [hv8,← hval]
       refine HMv4.out.cur (hof.mono fun k _ h=>h.elim) hrow ?_ (.inr hnew)
       rw [hy]
       show 3 ≤ ((v:Int) :: (R.take n1).drop 1).length
       rw [List.length_cons,hlm]
       omega)
      have hng:b0 ≠ gw ∧ b7 ≠ gw:=⟨fun e=>(HOW.out gw (.inl rfl)).1 e.symm,fun e=>(HOW.out gw (.inl rfl)).2.1 e.symm⟩
      have HSv8:Hid (Blk v8 b0 55 #[.int .u8 0,.int .i64 0,.int .i64 0,.int .i64 0]):=jJ (by
       rw [hv8]
       exact (HSv4.out.only hof (fun h=>h)).far (p:=⟨gw,2,none⟩) hng.1 _)
      have H7v8:Hid (Blk v8 b7 55 #[.int .u8 76,.int .i64 (c:Int),.int .i64 (rl:Int),.int .i64 (n:Int)]):=jJ (by
       rw [hv8]
       exact (H7v4.out.only hof (fun h=>h)).far (p:=⟨gw,2,none⟩) hng.2 _)
      have HOv8:Hid (Only (OWy gw gc (((some ⟨gl,0,none⟩,cx),R) :: r) Aw) W v8):=jJ (by
       rw [hv8]
       exact (HOv4.out.trans (hof.mono fun k _ h=>h.elim)).setCell (p:=⟨gw,2,none⟩) (.inl (.inl rfl)) _)
      have HOWE:Hid (∀ k,OWy gw gc (y :: r) Aw k → OWy gw gc (((some ⟨gl,0,none⟩,cx),R) :: r) Aw k ∨ v3.heap.size ≤ k):=jJ fun k hk=>by
       rcases hk with e | e | e | ⟨z,hz,e⟩
       · exact .inl (.inl e)
       · exact .inl (.inr (.inl e))
       · exact .inl (.inr (.inr (.inl e)))
       rcases List.mem_cons.1 hz with rfl | hz
       · obtain ⟨k',e',hk'⟩:=hnew
         rw [e] at e'
         injection e' with e'
         have:=HZ4.out
         exact .inr (by omega)
       exact .inl (.inr (.inr (.inr ⟨z,.tail _ hz,e⟩)))
      rw [← hv8]
      clear hv8 hng
      have HST:Hid (stepL come R (r.map (·.2)) v=(76,come,(y :: r).map (·.2))):=jJ (by
       have e1:=HN.out
       have e2:=HNN.out
       have e3:=HC2.out
       have e4:=HIE.out
       unfold stepL
       rw [if_pos HCT.out,if_neg (by rw [← e1]; exact HN33.out),if_pos (by omega),hy,List.drop_take]
       rw [show n1 - 1=R.length - 2 by omega]
       rfl)
      clear hrow hnew hval hy hof hlm HMv4 HSv4 H7v4 HOv4 HO5 HG5 HA5
      have s0:v8.cell? ⟨b7,0,none⟩=some (.int .u8 76):=H7v8.out.cell 0
      have s1:v8.cell? ⟨b7,1,none⟩=some (.int .i64 (c:Int)):=H7v8.out.cell 1
      have s2:v8.cell? ⟨b7,2,none⟩=some (.int .i64 (rl:Int)):=H7v8.out.cell 2
      have s3:v8.cell? ⟨b7,3,none⟩=some (.int .i64 (n:Int)):=H7v8.out.cell 3
      have t0:v8.cell? ⟨b0,0,none⟩=some (.int .u8 0):=HSv8.out.cell 0
      have t1:v8.cell? ⟨b0,1,none⟩=some (.int .i64 0):=HSv8.out.cell 1
      have t2:v8.cell? ⟨b0,2,none⟩=some (.int .i64 0):=HSv8.out.cell 2
      have t3:v8.cell? ⟨b0,3,none⟩=some (.int .i64 0):=HSv8.out.cell 3
      have f0:v8.frozen? ⟨b0,0,none⟩=false:=HSv8.out.frozen 0
      have f1:v8.frozen? ⟨b0,1,none⟩=false:=HSv8.out.frozen 1
      have f2:v8.frozen? ⟨b0,2,none⟩=false:=HSv8.out.frozen 2
      have f3:v8.frozen? ⟨b0,3,none⟩=false:=HSv8.out.frozen 3
      have HFI:=jJ (step_fin (cw:=cw) (c:=c) HSv8.out HOv8.out HMv8.out HZ.out.1 (fun h=>by
       rcases HOWE.out _ h with h | h
       · exact (HOW.out _ h).1 rfl
       have:=HZ.out
       omega) HST.out (fun k hk=>(HOWE.out k hk).imp id fun h=>by have:=HZ.out; omega) HN.out HRL.out)
      go_wp2_with fail
      obtain ⟨vz,hvz⟩:=jX (((((v8.setCell ⟨b0,0,none⟩ (.int .u8 76)).setCell ⟨b0,1,none⟩ (.int .i64 (c:Int))).setCell ⟨b0,2,none⟩ (.int .i64 (rl:Int))).setCell ⟨b0,3,none⟩ (.int .i64 (n:Int))))
      have HSz:Hid (Blk vz b0 55 #[.int .u8 76,.int .i64 (c:Int),.int .i64 (rl:Int),.int .i64 (n:Int)]):=by rw [hvz]; exact jJ (blk_set4 HSv8.out)
      have HFz:Hid (StepPost W w.heap.size g gw gc m cw come ((some ⟨gl,0,none⟩,cx),R) r Aw c v (.returned (.tuple #[.agg #[.int .u8 76,.int .i64 (c:Int),.int .i64 (rl:Int),.int .i64 (n:Int)],.bool true])) vz):=by rw [hvz]; exact HFI
      rw [← hvz]
      clear hvz HFI s0 s1 s2 s3 t0 t1 t2 t3 f0 f1 f2 f3
      have s0:vz.cell? ⟨b0,0,none⟩=some (.int .u8 76):=HSz.out.cell 0
      have s1:vz.cell? ⟨b0,1,none⟩=some (.int .i64 (c:Int)):=HSz.out.cell 1
      have s2:vz.cell? ⟨b0,2,none⟩=some (.int .i64 (rl:Int)):=HSz.out.cell 2
      have s3:vz.cell? ⟨b0,3,none⟩=some (.int .i64 (n:Int)):=HSz.out.cell 3
      refine bodyPost_ret (v:=.tuple #[.agg #[.int .u8 76,.int .i64 (c:Int),.int .i64 (rl:Int),.int .i64 (n:Int)],.bool true]) ?_ rfl HFz.out
      simp [results,Tryz.results37,go_sem,s0,s1,s2,s3]
    have hb4:((i:Int) == (n1:Int))=false:=by rw [beq_eq_false_iff_ne]; omega
    have HC2:=jJ hc2
    obtain ⟨i0,hi0,hz0,hz1,hz2⟩:=info_parts int_infoC
    by_cases hc3:i=2
    · have hb5:((i:Int) == 2)=true:=by rw [hc3]; rfl
      have HC3:=jJ hc3
      clear hc2 hc3
      go_upto_region 27 with (fail)
      obtain ⟨v4,hv4,hM4,hS4,h74,hO4,hz4⟩:=HL4.out 82
      have HMv4:=jJ hM4
      have HSv4:=jJ hS4
      have H7v4:=jJ h74
      have HOv4:=jJ hO4
      have HZ4:=jJ hz4
      rw [← hv4]
      clear HL4 hv4 hM4 hS4 h74 hO4 hz4 p7 f7 hn7 HMv3 HSv3 H7v3 HOv3 HBv3
      have hsl:∀ wx:World,(Instr.slice 30 (.slice (some ⟨gl,0,none⟩) n cx) (some (.int .i64 2)) none none).run Tryz.prog wx=.ok (.slice (some ⟨gl,2,none⟩) (n - 2) (cx - 2)) wx:=fun wx=>by
       have:=run_slice_from (P:=Tryz.prog) Tryz.underlying30 hi0 (some ⟨gl,0,none⟩) n cx 2 (by omega) wx
       rw [if_neg (by omega),hz1] at this
       exact this
      have KCv4:=jJ (HMv4.out.cellsC HN.out HRL.out HA.out HBE.out)
      have HBS:Hid (w.heap.size ≤ v4.heap.size):=jJ (by have:=HB3.out.size; have:=HZ4.out; omega)
      have HNE:Hid (gw ≠ v4.heap.size ∧ gl ≠ v4.heap.size):=jJ ⟨fun e=>by have:=KCv4.out.k0; omega,fun e=>by have:=KCv4.out.k1; omega⟩
      refine wp_region_till (S:=fun w'=>w'.cell? ⟨gw,0,none⟩=some (.pointer (some ⟨g,0,none⟩)) ∧ w'.cell? ⟨gw,1,none⟩=some (.slice (some ⟨gc,0,none⟩) m m) ∧ w'.cell? ⟨gw,2,none⟩=some (.slice (some ⟨gl,0,none⟩) n cx) ∧ w'.cell? ⟨gw,3,none⟩=some (.slice Aw rl cw) ∧ w'.cell? ⟨gl,0,none⟩=some (.int .i64 a) ∧ w'.cell? ⟨gl,1,none⟩=some (.int .i64 b)) 16 (by kernel_rfl) ⟨KCv4.out.drew.c0,KCv4.out.drew.c1,KCv4.out.drew.c2,KCv4.out.drew.c3,KCv4.out.drew.l0,KCv4.out.drew.l1⟩ (fun hHeld=>?_)
      refine tKk 0 ?_; (try simp only [zQ])
      refine tKk 1 ?_; (try simp only [zQ])
      refine tKk 2 ?_; (try simp only [zQ])
      refine tKk 3 ?_; (try simp only [zQ])
      refine tKk 4 ?_; (try simp only [zQ])
      refine tKk 5 ?_; (try simp only [zQ])
      refine tKk 6 ?_; (try simp only [zQ])
      refine tKk 8 ?_; (try simp only [zQ])
      refine tKk 9 ?_; (try simp only [zQ])
      refine tKk 10 ?_; (try simp only [zQ])
      refine tKk 11 ?_; (try simp only [zQ])
      refine tKk 12 ?_; (try simp only [zQ])
      refine Till.ready (rs:=[7]) (by kernel_rfl) (by simp) ?_
      refine TillEach.cons rfl (fun K hK=>?_) ?_
      · go_simp
        go_wp2_with fail
        obtain ⟨v5,hvU⟩:=jX ((v4.alloc (.cells #[.int .i64 a] 3)).drew)
        have KCv5:Hid (WyC v5 gw gl (.pointer (some ⟨g,0,none⟩)) (.slice (some ⟨gc,0,none⟩) m m) (.slice (some ⟨gl,0,none⟩) n cx) (.slice Aw rl cw) a b):=by rw [hvU]; exact jJ (KCv4.out.alloc _).drew
        rw [← hvU]
        have HUv5:=jJ hvU
        clear hvU
        refine hK.out _ _ ?_ (fun hHeld=>?_)
        · exact ⟨KCv5.out.c0,KCv5.out.c1,KCv5.out.c2,KCv5.out.c3,KCv5.out.l0,KCv5.out.l1⟩
        clear hK K
        (try simp only [zQ])
        refine Till.ready (rs:=[13]) (by kernel_rfl) (by simp) ?_
        refine TillEach.cons rfl (fun K hK=>?_) ?_
        · refine step_append_sl _ (by rfl) (.tmp 185) (.tmp 190) _ (by rfl) w.heap.size 3 i0 _ 1 8 Tryz.underlying30 hi0 hz0 hz1 hz2 rfl (by omega) (.slice (some ⟨v4.heap.size,0,none⟩) 1 1) 1 [.int .i64 a] (by rfl) (by rw [HUv5.out]; exact own_new1 v4 w.heap.size _ _ HBS.out) v5.heap.size (some ⟨gl,2,none⟩) (n - 2) (cx - 2) (ZL ((R.take n).drop 2)) (by rfl) (by rw [HUv5.out]; exact reads_mid (B:=w.heap.size) (n:=n) (cx:=cx) (by rw [HN.out]; exact (HMv4.out.alloc _).drew.r _ (.head _)) (by omega) (Nat.le_refl _)) (oneZL _) (by simp only [maxLen]; omega) (by omega) (by rw [HUv5.out]; show w.heap.size ≤ (v4.alloc _).heap.size; rw [World.size_alloc]; exact Nat.le_succ_of_le HBS.out) ?_
          intro A5 c5 v6 hown5 hg5 hat5
          have HO5:=jJ hown5
          have HG5:=jJ hg5
          have HA5:=jJ hat5
          have KCv6:Hid (WyC v6 gw gl (.pointer (some ⟨g,0,none⟩)) (.slice (some ⟨gc,0,none⟩) m m) (.slice (some ⟨gl,0,none⟩) n cx) (.slice Aw rl cw) a b):=jJ (KCv5.out.grown hg5 (fun e=>by injection e with e; exact HNE.out.1 e) (fun e=>by injection e with e; exact HNE.out.2 e))
          have hfw:v6.frozen? ⟨gw,2,none⟩=false:=(World.frozen?_of_block (hg5.block gw KCv5.out.k0 (fun e=>by injection e with e; exact HNE.out.1 e))).trans (by rw [HUv5.out]; exact (HMv4.out.alloc _).drew.k.frozen 2)
          clear hown5 hg5 hat5
          refine hK.out _ _ ?_ (fun hHeld=>?_)
          · exact ⟨KCv6.out.c0,KCv6.out.c1,KCv6.out.c2,KCv6.out.c3,KCv6.out.l0,KCv6.out.l1⟩
          clear hK K
          (try simp only [zQ])
          refine Till.takeP [15] (i:=14) (v:=?vt32) rfl (by kernel_rfl) (by kernel_rfl) (by kernel_rfl) (by kernel_rfl) (by kernel_rfl) (fun _ _ _ h=>h) (Or.inl ⟨by rfl,?ht32⟩) (by assumption) ?restt32
          case ht32=>(intro w h; (try dsimp only at h); go_simp; try with_reducible rfl)
          (try simp only [zQ])
          refine tKk 15 ?_; (try simp only [zQ])
          refine Till.ready (rs:=[16]) (by kernel_rfl) (by simp) ?_
          refine TillEach.last rfl (fun K hK=>?_)
          go_simp
          refine hK.out _ _ ?_
          clear hK K
          (try simp only [zQ])
          refine Till.done (by kernel_rfl) ?_ _
          have hlm:((R.take n).drop 2).length=n - 2:=by
           have:=HN.out
           rw [List.length_drop,List.length_take]
           omega
          obtain ⟨hrow,hnew,hof,hval⟩:=app_way (B:=w.heap.size) (u:=a) (W1:=v5) (W:=v4) (by rw [HUv5.out]; exact ((Only.refl (fun _=>False) v4).alloc _).drew) (Nat.le_refl _) hlm HO5.out HG5.out HA5.out
          obtain ⟨y,hy⟩:=jX (((A5,c5),a :: (R.take n).drop 2):Way)
          rw [← hy] at hrow hnew hval
          obtain ⟨v8,hv8⟩:=jX (v6.setCell ⟨gw,2,none⟩ (.slice A5 (1 + (n - 2)) c5))
          have HMv8:Hid (WyAt v8 w.heap.size g gw gc m come (y :: r) Aw cw):=jJ (by
           rw [hv8,← hval]
           refine HMv4.out.cur (hof.mono fun k _ h=>h.elim) hrow ?_ (.inr hnew)
           rw [hy]
           show 3 ≤ (a :: (R.take n).drop 2).length
           rw [List.length_cons,hlm]
           have:=HNN.out
           omega)
          have hng:b0 ≠ gw ∧ b7 ≠ gw:=⟨fun e=>(HOW.out gw (.inl rfl)).1 e.symm,fun e=>(HOW.out gw (.inl rfl)).2.1 e.symm⟩
          have HSv8:Hid (Blk v8 b0 55 #[.int .u8 0,.int .i64 0,.int .i64 0,.int .i64 0]):=jJ (by
           rw [hv8]
           exact (HSv4.out.only hof (fun h=>h)).far (p:=⟨gw,2,none⟩) hng.1 _)
          have H7v8:Hid (Blk v8 b7 55 #[.int .u8 82,.int .i64 (c:Int),.int .i64 (rl:Int),.int .i64 (n:Int)]):=jJ (by
           rw [hv8]
           exact (H7v4.out.only hof (fun h=>h)).far (p:=⟨gw,2,none⟩) hng.2 _)
          have HOv8:Hid (Only (OWy gw gc (((some ⟨gl,0,none⟩,cx),R) :: r) Aw) W v8):=jJ (by
           rw [hv8]
           exact (HOv4.out.trans (hof.mono fun k _ h=>h.elim)).setCell (p:=⟨gw,2,none⟩) (.inl (.inl rfl)) _)
          have HOWE:Hid (∀ k,OWy gw gc (y :: r) Aw k → OWy gw gc (((some ⟨gl,0,none⟩,cx),R) :: r) Aw k ∨ v3.heap.size ≤ k):=jJ fun k hk=>by
           rcases hk with e | e | e | ⟨z,hz,e⟩
           · exact .inl (.inl e)
           · exact .inl (.inr (.inl e))
           · exact .inl (.inr (.inr (.inl e)))
           rcases List.mem_cons.1 hz with rfl | hz
           · obtain ⟨k',e',hk'⟩:=hnew
             rw [e] at e'
             injection e' with e'
             have:=HZ4.out
             exact .inr (by omega)
           exact .inl (.inr (.inr (.inr ⟨z,.tail _ hz,e⟩)))
          clear hng
          have HST:Hid (stepL come R (r.map (·.2)) v=(82,come,(y :: r).map (·.2))):=jJ (by
           have e1:=HN.out
           have e2:=HNN.out
           have e3:=HC2.out
           have e4:=HIE.out
           have e5:=HC3.out
           unfold stepL
           rw [if_pos HCT.out,if_neg (by rw [← e1]; exact HN33.out),if_neg (by omega),if_pos (by omega),hy,List.take_of_length_le (by omega),HA.out,headD_at]
           rfl)
          clear hrow hnew hval hy hof hlm HMv4 HSv4 H7v4 HOv4 HO5 HG5 HA5
          go_upto_region 28 with (fail)
          rw [← hv8]
          clear hv8
          have s0:v8.cell? ⟨b7,0,none⟩=some (.int .u8 82):=H7v8.out.cell 0
          have s1:v8.cell? ⟨b7,1,none⟩=some (.int .i64 (c:Int)):=H7v8.out.cell 1
          have s2:v8.cell? ⟨b7,2,none⟩=some (.int .i64 (rl:Int)):=H7v8.out.cell 2
          have s3:v8.cell? ⟨b7,3,none⟩=some (.int .i64 (n:Int)):=H7v8.out.cell 3
          have t0:v8.cell? ⟨b0,0,none⟩=some (.int .u8 0):=HSv8.out.cell 0
          have t1:v8.cell? ⟨b0,1,none⟩=some (.int .i64 0):=HSv8.out.cell 1
          have t2:v8.cell? ⟨b0,2,none⟩=some (.int .i64 0):=HSv8.out.cell 2
          have t3:v8.cell? ⟨b0,3,none⟩=some (.int .i64 0):=HSv8.out.cell 3
          have f0:v8.frozen? ⟨b0,0,none⟩=false:=HSv8.out.frozen 0
          have f1:v8.frozen? ⟨b0,1,none⟩=false:=HSv8.out.frozen 1
          have f2:v8.frozen? ⟨b0,2,none⟩=false:=HSv8.out.frozen 2
          have f3:v8.frozen? ⟨b0,3,none⟩=false:=HSv8.out.frozen 3
          have HFI:=jJ (step_fin (cw:=cw) (c:=c) HSv8.out HOv8.out HMv8.out HZ.out.1 (fun h=>by
           rcases HOWE.out _ h with h | h
           · exact (HOW.out _ h).1 rfl
           have:=HZ.out
           omega) HST.out (fun k hk=>(HOWE.out k hk).imp id fun h=>by have:=HZ.out; omega) HN.out HRL.out)
          go_wp2_with fail
          obtain ⟨vz,hvz⟩:=jX (((((v8.setCell ⟨b0,0,none⟩ (.int .u8 82)).setCell ⟨b0,1,none⟩ (.int .i64 (c:Int))).setCell ⟨b0,2,none⟩ (.int .i64 (rl:Int))).setCell ⟨b0,3,none⟩ (.int .i64 (n:Int))))
          have HSz:Hid (Blk vz b0 55 #[.int .u8 82,.int .i64 (c:Int),.int .i64 (rl:Int),.int .i64 (n:Int)]):=by rw [hvz]; exact jJ (blk_set4 HSv8.out)
          have HFz:Hid (StepPost W w.heap.size g gw gc m cw come ((some ⟨gl,0,none⟩,cx),R) r Aw c v (.returned (.tuple #[.agg #[.int .u8 82,.int .i64 (c:Int),.int .i64 (rl:Int),.int .i64 (n:Int)],.bool true])) vz):=by rw [hvz]; exact HFI
          rw [← hvz]
          clear hvz HFI s0 s1 s2 s3 t0 t1 t2 t3 f0 f1 f2 f3
          have s0:vz.cell? ⟨b0,0,none⟩=some (.int .u8 82):=HSz.out.cell 0
          have s1:vz.cell? ⟨b0,1,none⟩=some (.int .i64 (c:Int)):=HSz.out.cell 1
          have s2:vz.cell? ⟨b0,2,none⟩=some (.int .i64 (rl:Int)):=HSz.out.cell 2
          have s3:vz.cell? ⟨b0,3,none⟩=some (.int .i64 (n:Int)):=HSz.out.cell 3
          refine bodyPost_ret (v:=.tuple #[.agg #[.int .u8 82,.int .i64 (c:Int),.int .i64 (rl:Int),.int .i64 (n:Int)],.bool true]) ?_ rfl HFz.out
          simp [results,Tryz.results37,go_sem,s0,s1,s2,s3]
        exact TillEach.nil
      exact TillEach.nil
    have hb5:((i:Int) == 2)=false:=by rw [beq_eq_false_iff_ne]; omega
    have HC3:=jJ hc3
    have hi3:3 ≤ i:=by omega
    have hi4:i < n1:=by omega
    have hicx:i ≤ cx:=by omega
    have hik:i ≤ 1000:=by omega
    clear hc2 hc3
    go_upto_region 14 with (fail)
    obtain ⟨v4,hv4,hM4,hS4,h74,hO4,hz4⟩:=HL4.out 83
    have HMv4:=jJ hM4
    have HSv4:=jJ hS4
    have H7v4:=jJ h74
    have HOv4:=jJ hO4
    have HZ4:=jJ hz4
    rw [← hv4]
    clear HL4 hv4 hM4 hS4 h74 hO4 hz4 p7 f7 hn7 HMv3 HSv3 H7v3 HOv3 HBv3
    obtain ⟨i1,hi1,jz0,jz1,jz2⟩:=info_parts row_infoW
    have hsl:∀ wx:World,(Instr.slice 30 (.slice (some ⟨gl,0,none⟩) n cx) (some (.int .i64 1)) (some (.int .i64 (i:Int))) none).run Tryz.prog wx=.ok (.slice (some ⟨gl,1,none⟩) (i - 1) (cx - 1)) wx:=fun wx=>by
     have:=run_slice_two (P:=Tryz.prog) Tryz.underlying30 hi0 (some ⟨gl,0,none⟩) n cx 1 i (by omega) hicx wx
     rw [if_neg (by omega),hz1] at this
     exact this
    have KCv4:=jJ (HMv4.out.cellsC HN.out HRL.out HA.out HBE.out)
    have HBS:Hid (w.heap.size ≤ v4.heap.size):=jJ (by have:=HB3.out.size; have:=HZ4.out; omega)
    have HNE:Hid (∀ k,v4.heap.size ≤ k → gw ≠ k ∧ gl ≠ k):=jJ fun k hk=>⟨fun e=>by have:=KCv4.out.k0; omega,fun e=>by have:=KCv4.out.k1; omega⟩
    have HWR:Hid (v4.ownsRow w.heap.size 30 1 (.slice Aw rl cw) rl (r.reverse.map wayC)):=jJ (by rw [HRL.out]; exact HMv4.out.w)
    refine wp_region_till (S:=fun w'=>w'.cell? ⟨gw,0,none⟩=some (.pointer (some ⟨g,0,none⟩)) ∧ w'.cell? ⟨gw,1,none⟩=some (.slice (some ⟨gc,0,none⟩) m m) ∧ w'.cell? ⟨gw,2,none⟩=some (.slice (some ⟨gl,0,none⟩) n cx) ∧ w'.cell? ⟨gw,3,none⟩=some (.slice Aw rl cw) ∧ w'.cell? ⟨gl,0,none⟩=some (.int .i64 a) ∧ w'.cell? ⟨gl,1,none⟩=some (.int .i64 b)) 18 (by kernel_rfl) ⟨KCv4.out.drew.c0,KCv4.out.drew.c1,KCv4.out.drew.c2,KCv4.out.drew.c3,KCv4.out.drew.l0,KCv4.out.drew.l1⟩ (fun hHeld=>?_)
    refine tKk 0 ?_; (try simp only [zQ])
    refine tKk 1 ?_; (try simp only [zQ])
    refine tKk 2 ?_; (try simp only [zQ])
    refine tKk 3 ?_; (try simp only [zQ])
    refine tKk 4 ?_; (try simp only [zQ])
    refine tKk 5 ?_; (try simp only [zQ])
    refine tKk 7 ?_; (try simp only [zQ])
    refine tKk 8 ?_; (try simp only [zQ])
    refine tKk 9 ?_; (try simp only [zQ])
    refine tKk 10 ?_; (try simp only [zQ])
    refine tKk 11 ?_; (try simp only [zQ])
    refine tKk 12 ?_; (try simp only [zQ])
    refine Till.ready (rs:=[6]) (by kernel_rfl) (by simp) ?_
    refine TillEach.cons rfl (fun K hK=>?_) ?_
    · go_simp
      go_wp2_with fail
      obtain ⟨v5,hvU⟩:=jX ((v4.alloc (.cells #[.int .i64 (v:Int)] 3)).drew)
      have KCv5:Hid (WyC v5 gw gl (.pointer (some ⟨g,0,none⟩)) (.slice (some ⟨gc,0,none⟩) m m) (.slice (some ⟨gl,0,none⟩) n cx) (.slice Aw rl cw) a b):=by rw [hvU]; exact jJ (KCv4.out.alloc _).drew
      rw [← hvU]
      have HUv5:=jJ hvU
      clear hvU
      refine hK.out _ _ ?_ (fun hHeld=>?_)
      · exact ⟨KCv5.out.c0,KCv5.out.c1,KCv5.out.c2,KCv5.out.c3,KCv5.out.l0,KCv5.out.l1⟩
      clear hK K
      (try simp only [zQ])
      refine Till.ready (rs:=[13]) (by kernel_rfl) (by simp) ?_
      refine TillEach.cons rfl (fun K hK=>?_) ?_
      · refine step_append_sl _ (by rfl) (.tmp 92) (.tmp 98) _ (by rfl) w.heap.size 3 i0 _ 1 8 Tryz.underlying30 hi0 hz0 hz1 hz2 rfl (by omega) (.slice (some ⟨v4.heap.size,0,none⟩) 1 1) 1 [.int .i64 (v:Int)] (by rfl) (by rw [HUv5.out]; exact own_new1 v4 w.heap.size _ _ HBS.out) v5.heap.size (some ⟨gl,1,none⟩) (i - 1) (cx - 1) (ZL ((R.take i).drop 1)) (by rfl) (by rw [HUv5.out]; exact reads_mid (B:=w.heap.size) (n:=n) (cx:=cx) (by rw [HN.out]; exact (HMv4.out.alloc _).drew.r _ (.head _)) (by omega) (by omega)) (oneZL _) (by simp only [maxLen]; omega) (by omega) (by rw [HUv5.out]; show w.heap.size ≤ (v4.alloc _).heap.size; rw [World.size_alloc]; exact Nat.le_succ_of_le HBS.out) ?_
        intro A5 c5 v6 hown5 hg5 hat5
        have HO5:=jJ hown5
        have HG5:=jJ hg5
        have HA5:=jJ hat5
        have KCv6:Hid (WyC v6 gw gl (.pointer (some ⟨g,0,none⟩)) (.slice (some ⟨gc,0,none⟩) m m) (.slice (some ⟨gl,0,none⟩) n cx) (.slice Aw rl cw) a b):=jJ (KCv5.out.grown hg5 (fun e=>by injection e with e; exact (HNE.out _ (Nat.le_refl _)).1 e) (fun e=>by injection e with e; exact (HNE.out _ (Nat.le_refl _)).2 e))
        clear hown5 hg5 hat5
        have hlm:((R.take i).drop 1).length=i - 1:=by
         have:=HN.out
         have:=HNN.out
         rw [List.length_drop,List.length_take]
         omega
        obtain ⟨hrow,hnew,hof,hval⟩:=app_way (B:=w.heap.size) (u:=(v:Int)) (W1:=v5) (W:=v4) (by rw [HUv5.out]; exact ((Only.refl (fun _=>False) v4).alloc _).drew) (Nat.le_refl _) hlm HO5.out HG5.out HA5.out
        obtain ⟨y,hy⟩:=jX (((A5,c5),(v:Int) :: (R.take i).drop 1):Way)
        rw [← hy] at hrow hnew hval
        have HYW:=jJ hrow
        have HYN:=jJ hnew
        have HYO:=jJ hof
        have HYV:=jJ hval
        have HYE:=jJ hy
        have hy3:3 ≤ y.2.length:=by
         rw [hy]
         show 3 ≤ ((v:Int) :: (R.take i).drop 1).length
         rw [List.length_cons,hlm]
         omega
        clear hlm hrow hnew hof hval hy HO5 HG5 HA5
        obtain ⟨ny,hny⟩:=jX (1 + (i - 1))
        rw [← hny] at HYV
        (try simp only [← hny])
        clear hny
        refine hK.out _ _ ?_ (fun hHeld=>?_)
        · exact ⟨KCv6.out.c0,KCv6.out.c1,KCv6.out.c2,KCv6.out.c3,KCv6.out.l0,KCv6.out.l1⟩
        clear hK K
        (try simp only [zQ])
        refine Till.ready (rs:=[14]) (by kernel_rfl) (by simp) ?_
        refine TillEach.cons rfl (fun K hK=>?_) ?_
        · go_simp
          go_wp2_with fail
          obtain ⟨v7,hvU⟩:=jX (v6.alloc (.cells #[.slice A5 ny c5] 30))
          have KCv7:Hid (WyC v7 gw gl (.pointer (some ⟨g,0,none⟩)) (.slice (some ⟨gc,0,none⟩) m m) (.slice (some ⟨gl,0,none⟩) n cx) (.slice Aw rl cw) a b):=by rw [hvU]; exact jJ (KCv6.out.alloc _)
          rw [← hvU]
          have HUv7:=jJ hvU
          clear hvU
          refine hK.out _ _ ?_ (fun hHeld=>?_)
          · exact ⟨KCv7.out.c0,KCv7.out.c1,KCv7.out.c2,KCv7.out.c3,KCv7.out.l0,KCv7.out.l1⟩
          clear hK K
          (try simp only [zQ])
          refine Till.ready (rs:=[15]) (by kernel_rfl) (by simp) ?_
          refine TillEach.cons rfl (fun K hK=>?_) ?_
          · refine step_append_sl _ (by rfl) (.tmp 90) (.tmp 100) _ (by rfl) w.heap.size 30 i1 _ 1 24 Tryz.underlying95 hi1 jz0 jz1 jz2 rfl (by omega) (.slice Aw rl cw) rl (r.reverse.map wayC) (by rfl) (by rw [HUv7.out]; exact own_up (own_same HWR.out fun k hk=>HYO.out.block k (HWR.out.lt k hk).2 (fun h=>h)) _) v7.heap.size (some ⟨v6.heap.size,0,none⟩) 1 1 [.slice A5 ny c5] (by rfl) (by rw [HUv7.out]; have:=reads_new v6 #[.slice A5 ny c5] 30 1 1 rfl; rw [World.size_alloc]; exact this) (by simp [Value.oneCell']) (by simp only [maxLen]; omega) (by omega) (by rw [HUv7.out,World.size_alloc]; have:=HYO.out.size; have:=HBS.out; omega) ?_
            intro A6 c6 v8 hown6 hg6 hat6
            have HO6:=jJ hown6
            have HG6:=jJ hg6
            have HA6:=jJ hat6
            have HWB:Hid ((Value.slice Aw rl cw).ownBlock ≠ some gw ∧ (Value.slice Aw rl cw).ownBlock ≠ some gl):=jJ ⟨own_blk_ne HWR.out HMv4.out.k (by decide),fun e=>by
             obtain ⟨cs,hcs⟩:=own_blk HWR.out e
             exact own_blk_ne (HMv4.out.r _ (.head _)) hcs (by decide) rfl⟩
            have KCv8:Hid (WyC v8 gw gl (.pointer (some ⟨g,0,none⟩)) (.slice (some ⟨gc,0,none⟩) m m) (.slice (some ⟨gl,0,none⟩) n cx) (.slice Aw rl cw) a b):=jJ (KCv7.out.grown hg6 (fun e=>HWB.out.1 e.symm) (fun e=>HWB.out.2 e.symm))
            have hfw:v8.frozen? ⟨gw,3,none⟩=false:=(World.frozen?_of_block (hg6.block gw KCv7.out.k0 (fun e=>HWB.out.1 e.symm))).trans (by
             rw [HUv7.out]
             exact ((HMv4.out.k.only HYO.out (fun h=>h)).alloc _).frozen 3)
            clear hown6 hg6 hat6
            refine hK.out _ _ ?_ (fun hHeld=>?_)
            · exact ⟨KCv8.out.c0,KCv8.out.c1,KCv8.out.c2,KCv8.out.c3,KCv8.out.l0,KCv8.out.l1⟩
            clear hK K
            (try simp only [zQ])
            refine Till.takeP [17] (i:=16) (v:=?vt61) rfl (by kernel_rfl) (by kernel_rfl) (by kernel_rfl) (by kernel_rfl) (by kernel_rfl) (fun _ _ _ h=>h) (Or.inl ⟨by rfl,?ht61⟩) (by assumption) ?restt61
            case ht61=>(intro w h; (try dsimp only at h); go_simp; try with_reducible rfl)
            (try simp only [zQ])
            refine tKk 17 ?_; (try simp only [zQ])
            refine Till.ready (rs:=[18]) (by kernel_rfl) (by simp) ?_
            refine TillEach.last rfl (fun K hK=>?_)
            go_simp
            refine hK.out _ _ ?_
            clear hK K
            (try simp only [zQ])
            refine Till.done (by kernel_rfl) ?_ _
            obtain ⟨v9,hv9⟩:=jX (v8.setCell ⟨gw,3,none⟩ (.slice A6 (rl + 1) c6))
            have HV48:Hid (Only (fun k=>(Value.slice Aw r.length cw).ownBlock=some k) v4 v8):=jJ (by
             have h1:Only (fun k=>(Value.slice Aw r.length cw).ownBlock=some k) v4 v7:=by
              rw [HUv7.out]
              exact (HYO.out.mono fun k _ h=>h.elim).alloc _
             exact h1.grown HG6.out fun k e=>.inl (by rw [← e]; exact slice_own _ _ _ _ _))
            have HMv9:Hid (WyAt v9 w.heap.size g gw gc m come (((some ⟨gl,0,none⟩,cx),R) :: y :: r) A6 c6):=jJ (by
             rw [hv9,HRL.out]
             refine HMv4.out.push HV48.out ?_ hy3 HYN.out ?_
             · have h7:RowOf v7 w.heap.size y:=by rw [HUv7.out]; exact own_up HYW.out _
               have hw7:v7.ownsRow w.heap.size 30 1 (.slice Aw rl cw) rl (r.reverse.map wayC):=by
                rw [HUv7.out]
                exact own_up (own_same HWR.out fun k hk=>HYO.out.block k (HWR.out.lt k hk).2 (fun h=>h)) _
               exact own_grow2 h7 HG6.out hw7 (by decide)
             rw [HYV.out,← HRL.out]
             exact HO6.out)
            have hbn:∀ k,k < v3.heap.size → ¬ OWy gw gc (((some ⟨gl,0,none⟩,cx),R) :: r) Aw k → ¬ (Value.slice Aw r.length cw).ownBlock=some k:=fun k _ h e=>h (.inr (.inr (.inl (by rw [← e]; exact slice_own _ _ _ _ _))))
            have hng:b0 ≠ gw ∧ b7 ≠ gw:=⟨fun e=>(HOW.out gw (.inl rfl)).1 e.symm,fun e=>(HOW.out gw (.inl rfl)).2.1 e.symm⟩
            have hnw0:¬ (Value.slice Aw r.length cw).ownBlock=some b0:=fun e=>(HOW.out b0 (.inr (.inr (.inl (by rw [← e]; exact slice_own _ _ _ _ _))))).1 rfl
            have hnw7:¬ (Value.slice Aw r.length cw).ownBlock=some b7:=fun e=>(HOW.out b7 (.inr (.inr (.inl (by rw [← e]; exact slice_own _ _ _ _ _))))).2.1 rfl
            have HSv9:Hid (Blk v9 b0 55 #[.int .u8 0,.int .i64 0,.int .i64 0,.int .i64 0]):=jJ (by
             rw [hv9]
             exact (HSv4.out.only HV48.out hnw0).far (p:=⟨gw,3,none⟩) hng.1 _)
            have H7v9:Hid (Blk v9 b7 55 #[.int .u8 83,.int .i64 (c:Int),.int .i64 (rl:Int),.int .i64 (n:Int)]):=jJ (by
             rw [hv9]
             exact (H7v4.out.only HV48.out hnw7).far (p:=⟨gw,3,none⟩) hng.2 _)
            have HOv9:Hid (Only (OWy gw gc (((some ⟨gl,0,none⟩,cx),R) :: r) Aw) W v9):=jJ (by
             rw [hv9]
             exact (HOv4.out.trans (HV48.out.mono fun k _ e=>.inr (.inr (.inl (by rw [← e]; exact slice_own _ _ _ _ _))))).setCell (p:=⟨gw,3,none⟩) (.inl (.inl rfl)) _)
            have HZ9:Hid (v3.heap.size ≤ v9.heap.size ∧ v3.heap.size ≤ v7.heap.size ∧ v3.heap.size ≤ v4.heap.size):=jJ (by
             have h1:=HV48.out.size
             have h2:=HZ4.out
             have h3:=HYO.out.size
             have h4:v7.heap.size=v6.heap.size + 1:=by rw [HUv7.out,World.size_alloc]
             have h5:v9.heap.size=v8.heap.size:=by rw [hv9]; simp
             omega)
            have hcz:v8.cell? ⟨gw,3,none⟩=some (.slice Aw rl cw):=KCv8.out.c3
            go_upto_region 15 with (fail)
            rw [← hv9]
            clear hv9 hcz hfw hbn hng hnw0 hnw7 HV48 HSv4 H7v4 HOv4 HG6 HO6 KCv4 KCv5 KCv6 KCv7 KCv8 HWR HUv5 HUv7 hsl HBS HNE
            have hsl:∀ wx:World,(Instr.slice 30 (.slice (some ⟨gl,0,none⟩) n cx) (some (.int .i64 (i:Int))) none none).run Tryz.prog wx=.ok (.slice (some ⟨gl,i,none⟩) (n - i) (cx - i)) wx:=fun wx=>by
             have:=run_slice_from (P:=Tryz.prog) Tryz.underlying30 hi0 (some ⟨gl,0,none⟩) n cx i (by omega) wx
             rw [if_neg (by omega),hz1,Nat.mul_one] at this
             rw [this]
             simp [Addr.add]
             omega
            have KCv9:=jJ (HMv9.out.cellsC (rl:=rl + 1) HN.out (by rw [HRL.out]; rfl) HA.out HBE.out)
            have HBU:Hid (w.heap.size ≤ v9.heap.size):=jJ (by have:=HB3.out.size; have:=HZ9.out; omega)
            have HNU:Hid (gw ≠ v9.heap.size ∧ gl ≠ v9.heap.size):=jJ ⟨fun e=>by have:=KCv9.out.k0; omega,fun e=>by have:=KCv9.out.k1; omega⟩
            refine wp_region_till (S:=fun w'=>w'.cell? ⟨gw,0,none⟩=some (.pointer (some ⟨g,0,none⟩)) ∧ w'.cell? ⟨gw,1,none⟩=some (.slice (some ⟨gc,0,none⟩) m m) ∧ w'.cell? ⟨gw,2,none⟩=some (.slice (some ⟨gl,0,none⟩) n cx) ∧ w'.cell? ⟨gw,3,none⟩=some (.slice A6 (rl + 1) c6) ∧ w'.cell? ⟨gl,0,none⟩=some (.int .i64 a) ∧ w'.cell? ⟨gl,1,none⟩=some (.int .i64 b)) 17 (by kernel_rfl) ⟨KCv9.out.drew.c0,KCv9.out.drew.c1,KCv9.out.drew.c2,KCv9.out.drew.c3,KCv9.out.drew.l0,KCv9.out.drew.l1⟩ (fun hHeld=>?_)
            refine tKk 0 ?_; (try simp only [zQ])
            refine tKk 1 ?_; (try simp only [zQ])
            refine tKk 2 ?_; (try simp only [zQ])
            refine tKk 3 ?_; (try simp only [zQ])
            refine tKk 4 ?_; (try simp only [zQ])
            refine tKk 5 ?_; (try simp only [zQ])
            refine tKk 6 ?_; (try simp only [zQ])
            refine tKk 8 ?_; (try simp only [zQ])
            refine tKk 9 ?_; (try simp only [zQ])
            refine tKk 10 ?_; (try simp only [zQ])
            refine tKk 11 ?_; (try simp only [zQ])
            refine tKk 12 ?_; (try simp only [zQ])
            refine tKk 13 ?_; (try simp only [zQ])
            refine Till.ready (rs:=[7]) (by kernel_rfl) (by simp) ?_
            refine TillEach.cons rfl (fun K hK=>?_) ?_
            · go_simp
              go_wp2_with fail
              obtain ⟨v10,hvU⟩:=jX ((v9.alloc (.cells #[.int .i64 a] 3)).drew)
              have KCv10:Hid (WyC v10 gw gl (.pointer (some ⟨g,0,none⟩)) (.slice (some ⟨gc,0,none⟩) m m) (.slice (some ⟨gl,0,none⟩) n cx) (.slice A6 (rl + 1) c6) a b):=by rw [hvU]; exact jJ (KCv9.out.alloc _).drew
              rw [← hvU]
              have HUv10:=jJ hvU
              clear hvU
              refine hK.out _ _ ?_ (fun hHeld=>?_)
              · exact ⟨KCv10.out.c0,KCv10.out.c1,KCv10.out.c2,KCv10.out.c3,KCv10.out.l0,KCv10.out.l1⟩
              clear hK K
              (try simp only [zQ])
              refine Till.ready (rs:=[14]) (by kernel_rfl) (by simp) ?_
              refine TillEach.cons rfl (fun K hK=>?_) ?_
              · refine step_append_sl _ (by rfl) (.tmp 111) (.tmp 117) _ (by rfl) w.heap.size 3 i0 _ 1 8 Tryz.underlying30 hi0 hz0 hz1 hz2 rfl (by omega) (.slice (some ⟨v9.heap.size,0,none⟩) 1 1) 1 [.int .i64 a] (by rfl) (by rw [HUv10.out]; exact own_new1 v9 w.heap.size _ _ HBU.out) v10.heap.size (some ⟨gl,i,none⟩) (n - i) (cx - i) (ZL ((R.take n).drop i)) (by rfl) (by rw [HUv10.out]; exact reads_mid (B:=w.heap.size) (n:=n) (cx:=cx) (by rw [HN.out]; exact (HMv9.out.alloc _).drew.r _ (.head _)) (by omega) (Nat.le_refl _)) (oneZL _) (by simp only [maxLen]; omega) (by omega) (by rw [HUv10.out]; show w.heap.size ≤ (v9.alloc _).heap.size; rw [World.size_alloc]; exact Nat.le_succ_of_le HBU.out) ?_
                intro A7 c7 v11 hown7 hg7 hat7
                have HO7:=jJ hown7
                have HG7:=jJ hg7
                have HA7:=jJ hat7
                have KCv11:Hid (WyC v11 gw gl (.pointer (some ⟨g,0,none⟩)) (.slice (some ⟨gc,0,none⟩) m m) (.slice (some ⟨gl,0,none⟩) n cx) (.slice A6 (rl + 1) c6) a b):=jJ (KCv10.out.grown hg7 (fun e=>by injection e with e; exact HNU.out.1 e) (fun e=>by injection e with e; exact HNU.out.2 e))
                have hfw:v11.frozen? ⟨gw,2,none⟩=false:=(World.frozen?_of_block (hg7.block gw KCv10.out.k0 (fun e=>by injection e with e; exact HNU.out.1 e))).trans (by rw [HUv10.out]; exact (HMv9.out.alloc _).drew.k.frozen 2)
                clear hown7 hg7 hat7
                refine hK.out _ _ ?_ (fun hHeld=>?_)
                · exact ⟨KCv11.out.c0,KCv11.out.c1,KCv11.out.c2,KCv11.out.c3,KCv11.out.l0,KCv11.out.l1⟩
                clear hK K
                (try simp only [zQ])
                refine Till.takeP [16] (i:=15) (v:=?vt47) rfl (by kernel_rfl) (by kernel_rfl) (by kernel_rfl) (by kernel_rfl) (by kernel_rfl) (fun _ _ _ h=>h) (Or.inl ⟨by rfl,?ht47⟩) (by assumption) ?restt47
                case ht47=>(intro w h; (try dsimp only at h); go_simp; try with_reducible rfl)
                (try simp only [zQ])
                refine tKk 16 ?_; (try simp only [zQ])
                refine Till.ready (rs:=[17]) (by kernel_rfl) (by simp) ?_
                refine TillEach.last rfl (fun K hK=>?_)
                go_simp
                refine hK.out _ _ ?_
                clear hK K
                (try simp only [zQ])
                refine Till.done (by kernel_rfl) ?_ _
                have hlm:((R.take n).drop i).length=n - i:=by
                 have:=HN.out
                 rw [List.length_drop,List.length_take]
                 omega
                obtain ⟨hrow,hnew,hof,hval⟩:=app_way (B:=w.heap.size) (u:=a) (W1:=v10) (W:=v9) (by rw [HUv10.out]; exact ((Only.refl (fun _=>False) v9).alloc _).drew) (Nat.le_refl _) hlm HO7.out HG7.out HA7.out
                obtain ⟨y',hy'⟩:=jX (((A7,c7),a :: (R.take n).drop i):Way)
                rw [← hy'] at hrow hnew hval
                obtain ⟨v13,hv13⟩:=jX (v11.setCell ⟨gw,2,none⟩ (.slice A7 (1 + (n - i)) c7))
                have HMv13:Hid (WyAt v13 w.heap.size g gw gc m come (y' :: y :: r) A6 c6):=jJ (by
                 rw [hv13,← hval]
                 refine HMv9.out.cur (hof.mono fun k _ h=>h.elim) hrow ?_ (.inr hnew)
                 rw [hy']
                 show 3 ≤ (a :: (R.take n).drop i).length
                 rw [List.length_cons,hlm]
                 have:=HNN.out
                 omega)
                have hng:b0 ≠ gw ∧ b7 ≠ gw:=⟨fun e=>(HOW.out gw (.inl rfl)).1 e.symm,fun e=>(HOW.out gw (.inl rfl)).2.1 e.symm⟩
                have HSv13:Hid (Blk v13 b0 55 #[.int .u8 0,.int .i64 0,.int .i64 0,.int .i64 0]):=jJ (by
                 rw [hv13]
                 exact (HSv9.out.only hof (fun h=>h)).far (p:=⟨gw,2,none⟩) hng.1 _)
                have H7v13:Hid (Blk v13 b7 55 #[.int .u8 83,.int .i64 (c:Int),.int .i64 (rl:Int),.int .i64 (n:Int)]):=jJ (by
                 rw [hv13]
                 exact (H7v9.out.only hof (fun h=>h)).far (p:=⟨gw,2,none⟩) hng.2 _)
                have HOv13:Hid (Only (OWy gw gc (((some ⟨gl,0,none⟩,cx),R) :: r) Aw) W v13):=jJ (by
                 rw [hv13]
                 exact (HOv9.out.trans (hof.mono fun k _ h=>h.elim)).setCell (p:=⟨gw,2,none⟩) (.inl (.inl rfl)) _)
                have HOWE:Hid (∀ k,OWy gw gc (y' :: y :: r) A6 k → OWy gw gc (((some ⟨gl,0,none⟩,cx),R) :: r) Aw k ∨ v3.heap.size ≤ k):=jJ fun k hk=>by
                 rcases hk with e | e | e | ⟨z,hz,e⟩
                 · exact .inl (.inl e)
                 · exact .inl (.inr (.inl e))
                 · rw [slice_own A6 0 0 (rl + 1) c6] at e
                   rcases HA6.out with h | h
                   · rw [h] at e
                     exact .inl (.inr (.inr (.inl (by rw [← e]; exact slice_own _ _ _ _ _))))
                   rw [h] at e
                   injection e with e
                   have:=HZ9.out
                   exact .inr (by omega)
                 rcases List.mem_cons.1 hz with rfl | hz
                 · obtain ⟨k',e',hk'⟩:=hnew
                   rw [e] at e'
                   injection e' with e'
                   have:=HZ9.out
                   exact .inr (by omega)
                 rcases List.mem_cons.1 hz with rfl | hz
                 · obtain ⟨k',e',hk'⟩:=HYN.out
                   rw [e] at e'
                   injection e' with e'
                   have:=HZ9.out
                   exact .inr (by omega)
                 exact .inl (.inr (.inr (.inr ⟨z,.tail _ hz,e⟩)))
                have HST:Hid (stepL come R (r.map (·.2)) v=(83,come,(y' :: y :: r).map (·.2))):=jJ (by
                 have e1:=HN.out
                 have e2:=HNN.out
                 have e3:=HC2.out
                 have e4:=HIE.out
                 have e5:=HC3.out
                 unfold stepL
                 rw [if_pos HCT.out,if_neg (by rw [← e1]; exact HN33.out),if_neg (by omega),if_neg (by omega),hy',HYE.out,List.take_of_length_le (show R.length ≤ n by omega),HA.out,headD_at,← e4]
                 rfl)
                have hcz:v11.cell? ⟨gw,2,none⟩=some (.slice (some ⟨gl,0,none⟩) n cx):=KCv11.out.c2
                clear hrow hnew hval hy' hof hlm hng HMv9 HSv9 H7v9 HOv9 HO7 HG7 HA7
                go_upto_region 28 with (fail)
                rw [← hv13]
                clear hv13 hcz
                have s0:v13.cell? ⟨b7,0,none⟩=some (.int .u8 83):=H7v13.out.cell 0
                have s1:v13.cell? ⟨b7,1,none⟩=some (.int .i64 (c:Int)):=H7v13.out.cell 1
                have s2:v13.cell? ⟨b7,2,none⟩=some (.int .i64 (rl:Int)):=H7v13.out.cell 2
                have s3:v13.cell? ⟨b7,3,none⟩=some (.int .i64 (n:Int)):=H7v13.out.cell 3
                have t0:v13.cell? ⟨b0,0,none⟩=some (.int .u8 0):=HSv13.out.cell 0
                have t1:v13.cell? ⟨b0,1,none⟩=some (.int .i64 0):=HSv13.out.cell 1
                have t2:v13.cell? ⟨b0,2,none⟩=some (.int .i64 0):=HSv13.out.cell 2
                have t3:v13.cell? ⟨b0,3,none⟩=some (.int .i64 0):=HSv13.out.cell 3
                have f0:v13.frozen? ⟨b0,0,none⟩=false:=HSv13.out.frozen 0
                have f1:v13.frozen? ⟨b0,1,none⟩=false:=HSv13.out.frozen 1
                have f2:v13.frozen? ⟨b0,2,none⟩=false:=HSv13.out.frozen 2
                have f3:v13.frozen? ⟨b0,3,none⟩=false:=HSv13.out.frozen 3
                have HFI:=jJ (step_fin (cw:=cw) (c:=c) HSv13.out HOv13.out HMv13.out HZ.out.1 (fun h=>by
                 rcases HOWE.out _ h with h | h
                 · exact (HOW.out _ h).1 rfl
                 have:=HZ.out
                 omega) HST.out (fun k hk=>(HOWE.out k hk).imp id fun h=>by have:=HZ.out; omega) HN.out HRL.out)
                go_wp2_with fail
                obtain ⟨vz,hvz⟩:=jX (((((v13.setCell ⟨b0,0,none⟩ (.int .u8 83)).setCell ⟨b0,1,none⟩ (.int .i64 (c:Int))).setCell ⟨b0,2,none⟩ (.int .i64 (rl:Int))).setCell ⟨b0,3,none⟩ (.int .i64 (n:Int))))
                have HSz:Hid (Blk vz b0 55 #[.int .u8 83,.int .i64 (c:Int),.int .i64 (rl:Int),.int .i64 (n:Int)]):=by rw [hvz]; exact jJ (blk_set4 HSv13.out)
                have HFz:Hid (StepPost W w.heap.size g gw gc m cw come ((some ⟨gl,0,none⟩,cx),R) r Aw c v (.returned (.tuple #[.agg #[.int .u8 83,.int .i64 (c:Int),.int .i64 (rl:Int),.int .i64 (n:Int)],.bool true])) vz):=by rw [hvz]; exact HFI
                rw [← hvz]
                clear hvz HFI s0 s1 s2 s3 t0 t1 t2 t3 f0 f1 f2 f3
                have s0:vz.cell? ⟨b0,0,none⟩=some (.int .u8 83):=HSz.out.cell 0
                have s1:vz.cell? ⟨b0,1,none⟩=some (.int .i64 (c:Int)):=HSz.out.cell 1
                have s2:vz.cell? ⟨b0,2,none⟩=some (.int .i64 (rl:Int)):=HSz.out.cell 2
                have s3:vz.cell? ⟨b0,3,none⟩=some (.int .i64 (n:Int)):=HSz.out.cell 3
                refine bodyPost_ret (v:=.tuple #[.agg #[.int .u8 83,.int .i64 (c:Int),.int .i64 (rl:Int),.int .i64 (n:Int)],.bool true]) ?_ rfl HFz.out
                simp [results,Tryz.results37,go_sem,s0,s1,s2,s3]
              exact TillEach.nil
            exact TillEach.nil
          exact TillEach.nil
        exact TillEach.nil
      exact TillEach.nil
    exact TillEach.nil
 exact TillEach.nil
end Go.Proofs.YtffmfhkiienmaaaGreat
