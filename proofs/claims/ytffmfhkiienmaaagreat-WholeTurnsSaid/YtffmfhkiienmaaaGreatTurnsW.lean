/- The law WholeTurns, walked: it holds. No condition. -/
import Derived.Test.YtffmfhkiienmaaaGreatWakT
import Derived.Test.YtffmfhkiienmaaaGreatWq6
import Derived.Test.YtffmfhkiienmaaaGreatWyW
set_option maxRecDepth 100000
set_option maxHeartbeats 16000000
set_option linter.all false
namespace Go.Proofs.YtffmfhkiienmaaaGreat
open Go.RowKit
section
variable {α:Type} [DecidableEq α]
theorem step_small (σ:Nat → Nat) (u:Nat → α) (seen:List α) (x0:Nat) (l:List Nat) (more:List (List Nat)):(stepX σ u seen x0 l more).1 < 256:=by
 unfold stepX
 repeat' split
 all_goals (show (_:Nat) < 256; first | exact (by decide:(69:Nat) < 256) | exact (by decide:(76:Nat) < 256) | exact (by decide:(82:Nat) < 256) | exact (by decide:(83:Nat) < 256) | exact (by decide:(67:Nat) < 256))
theorem run_small (σ:Nat → Nat) (u:Nat → α):∀ (n:Nat) (seen:List α) (Ls:List (List Nat)),∀ k ∈ (runX σ u n seen Ls).1.map Prod.fst,k < 256
 | 0,_,_,k,hk=>by simp [runX] at hk
 | n + 1,_,[],k,hk=>by simp [runX] at hk
 | n + 1,_,[] :: _,k,hk=>by simp [runX] at hk
 | n + 1,seen,(x0 :: l) :: more,k,hk=>by
  simp only [runX,List.map_cons,List.mem_cons] at hk
  rcases hk with rfl | hk
  · exact step_small _ _ _ _ _ _
  exact run_small σ u n _ _ k hk
theorem word_small (F:Nat) (σ:Nat → Nat) (u:Nat → α) (c:Nat):∀ k ∈ wordX F σ u c,k < 256:=run_small _ _ _ _ _
end
def wordA (l:List Nat):ByteArray:=⟨(l.map fun k=>UInt8.ofNat k).toArray⟩
theorem wordB_A (l:List Nat):wordB l=.string (wordA l):=rfl
theorem word_inj:∀ {l l':List Nat},(∀ k ∈ l,k < 256) → (∀ k ∈ l',k < 256) → l.map (fun k=>UInt8.ofNat k)=l'.map (fun k=>UInt8.ofNat k) → l=l'
 | [],[],_,_,_=>rfl
 | [],_ :: _,_,_,h=>by simp at h
 | _ :: _,[],_,_,h=>by simp at h
 | a :: l,b :: l',h1,h2,h=>by
  simp only [List.map_cons,List.cons.injEq] at h
  have ha:=h1 a (.head _)
  have hb:=h2 b (.head _)
  have e:=congrArg UInt8.toNat h.1
  simp [UInt8.toNat_ofNat'] at e
  rw [word_inj (fun k hk=>h1 k (.tail _ hk)) (fun k hk=>h2 k (.tail _ hk)) h.2]
  congr 1
  omega
theorem wordA_inj {l l':List Nat} (h1:∀ k ∈ l,k < 256) (h2:∀ k ∈ l',k < 256) (h:wordA l=wordA l'):l=l':=by
 unfold wordA at h
 injection h with h
 exact word_inj h1 h2 (List.toArray_inj h)
def manyW (T:List Tri) (i:Nat):Nat:=((List.range i).filter fun c=>decide (wordX T.length (oppC T) (cv T) c=wordX T.length (oppC T) (cv T) 0)).length
theorem manyW_yes {T:List Tri} {i:Nat} (h:wordX T.length (oppC T) (cv T) i=wordX T.length (oppC T) (cv T) 0):manyW T (i + 1)=manyW T i + 1:=by
 unfold manyW
 rw [List.range_succ,List.filter_append,List.length_append]
 simp [h]
theorem manyW_no {T:List Tri} {i:Nat} (h:wordX T.length (oppC T) (cv T) i ≠ wordX T.length (oppC T) (cv T) 0):manyW T (i + 1)=manyW T i:=by
 unfold manyW
 rw [List.range_succ,List.filter_append,List.length_append]
 simp [h]
theorem manyW_le (T:List Tri) (i:Nat):manyW T i ≤ i:=by
 unfold manyW
 exact Nat.le_trans (List.length_filter_le _ _) (by simp)
attribute [local irreducible] Blk World.alloc World.setCell World.cell? World.frozen? MapV MapI
theorem lawTurns_any (N:Int) (A:Option Addr) (c:Nat) (T:List Tri) (w:World) (ht:TrisAt w w.heap.size A T.length T) :
  Calls Tryz.prog 3 #[.agg #[.int .i64 N,.slice A T.length c]] w (BoolPost w true):=by
 have HT:=jJ ht
 clear ht
 obtain ⟨k,hk⟩:=jX T.length
 rw [← hk] at HT ⊢
 have HK:=jJ hk
 clear hk
 go_enter Tryz.func3,Tryz.ntmps3
 go_upto_region 1 with (fail)
 obtain ⟨wA,hwA⟩:=jX (w.alloc (.cells #[.int .i64 N,.slice A k c] 24))
 have K1A:Hid (Blk wA w.heap.size 24 #[.int .i64 N,.slice A k c]):=by subst hwA; exact jJ (Blk.new _ _ _)
 have HBA:Hid (Below w.heap.size w wA):=by subst hwA; exact jJ (bw_alloc (Below.refl _ _) _)
 rw [← hwA]
 obtain ⟨b1,hb1⟩:=jX w.heap.size
 rw [← hb1] at K1A
 simp only [← hb1]
 clear hwA hb1
 have HSU:=jJ (surfT_any N A c T wA (HK.out ▸ tris_on HBA.out HT.out))
 rw [← HK.out] at HSU
 have p0:wA.cell? ⟨b1,0,none⟩=some (.int .i64 N):=K1A.out.cell 0
 have p1:wA.cell? ⟨b1,1,none⟩=some (.slice A k c):=K1A.out.cell 1
 go_wp2_with fail
 refine HSU.out.mono ?_
 rintro e w1 (⟨rfl,hb⟩ | ⟨g,m,rfl,hm84,hT28,hchk,rfl,htab,hb⟩)
 · have HB1:=jJ (bw_call HBA.out hb)
   clear hb HSU K1A HBA p0 p1
   go_wp2_with fail
   refine (awakeF_any w1).mono ?_
   rintro e w2 ⟨rfl,hb⟩
   have HB2:=jJ (bw_call HB1.out hb)
   clear hb HB1
   go_wp2_with fail
   refine (awakeF_any w2).mono ?_
   rintro e w3 ⟨rfl,hb⟩
   have HB3:=jJ (bw_call HB2.out hb)
   clear hb HB2
   go_wp2_with fail
   go_ret
   exact ⟨rfl,HB3.out⟩
 have HTB:=jJ htab
 have HCH:=jJ hchk
 have hT28':k ≤ 28:=by have:=HK.out; omega
 have HB1:=jJ (bw_call HBA.out hb)
 have K11:=jJ (blk_call K1A.out hb)
 clear hb htab hchk HSU K1A HBA p0 p1 hT28
 go_wp2_with fail
 refine (awakeF_any w1).mono ?_
 rintro e w2 ⟨rfl,hb⟩
 have HB2:=jJ (bw_call HB1.out hb)
 have K12:=jJ (blk_call K11.out hb)
 have HTB2:=jJ (HTB.out.below hb)
 clear hb HB1 K11 HTB
 have p0:w2.cell? ⟨b1,0,none⟩=some (.int .i64 (m:Int)):=K12.out.cell 0
 have p1:w2.cell? ⟨b1,1,none⟩=some (.slice A k c):=K12.out.cell 1
 have HSI:Hid (Calls Tryz.prog 6 #[.agg #[.int .i64 (m:Int),.slice A k c]] w2 (SmpPost w2 m T)):=jJ (by
  have:=simple_any m A c T w2 HTB2.out.s (by omega) (by have:=HK.out; omega) (HK.out ▸ tris_on HB2.out HT.out)
  rwa [← HK.out] at this)
 go_wp2_with fail
 refine HSI.out.mono ?_
 rintro e w3 ⟨b,rfl,hsp,hb⟩
 have HB3:=jJ (bw_call HB2.out hb)
 have K13:=jJ (blk_call K12.out hb)
 have HTB3:=jJ (HTB2.out.below hb)
 have HSP:=jJ hsp
 clear hb hsp HB2 K12 HTB2 p0 p1 HSI
 cases b with
 | false =>
  go_wp2_with fail
  refine (awakeF_any w3).mono ?_
  rintro e w4 ⟨rfl,hb⟩
  have HB4:=jJ (bw_call HB3.out hb)
  clear hb HB3
  go_wp2_with fail
  go_ret
  exact ⟨rfl,HB4.out⟩
 | true =>
  have HSPH:Hid (SphT m T):=jJ (HSP.out rfl)
  clear HSP
  have hpos:0 < k:=by rw [HK.out]; exact HSPH.out.pos
  have HWK:Hid (∀ (W:World) (r:Nat),TabN W g m T → r < 3 * k → Calls Tryz.prog 7 #[.pointer (some ⟨g,0,none⟩),.int .i64 (r:Int)] W (WalkPost W T r)):=jJ fun W r hW hr=>walk_any g m T r W hW HSPH.out (by rw [← HK.out]; exact hr) (by rw [← HK.out]; omega)
  have HW0:Hid (Calls Tryz.prog 7 #[.pointer (some ⟨g,0,none⟩),.int .i64 0] w3 (WalkPost w3 T 0)):=jJ (HWK.out w3 0 HTB3.out (by omega))
  go_wp2_with fail
  refine HW0.out.mono ?_
  rintro e w4 ⟨Av0,Ac0,nv0,cv0,nc0,cc0,rfl,hb⟩
  rw [wordB_A]
  obtain ⟨S0,hS0⟩:=jX (wordA (wordX T.length (oppC T) (cv T) 0))
  have HS0:=jJ hS0
  rw [← hS0]
  have HB4:=jJ (bw_call HB3.out hb)
  have K14:=jJ (blk_call K13.out hb)
  have HTB4:=jJ (HTB3.out.below hb)
  clear hb HB3 K13 HTB3 hS0 HW0
  go_upto_region 5 with (fail)
  obtain ⟨w5,hw5⟩:=jX (w4.alloc (.cells #[.string S0,.slice Av0 nv0 cv0,.slice Ac0 nc0 cc0] 32))
  obtain ⟨b5,hb5⟩:=jX w4.heap.size
  have K55:Hid (Blk w5 b5 32 #[.string S0,.slice Av0 nv0 cv0,.slice Ac0 nc0 cc0]):=jJ (by rw [hw5,hb5]; exact Blk.new _ _ _)
  have HB5:Hid (Below w.heap.size w w5):=jJ (by rw [hw5]; exact bw_alloc HB4.out _)
  have K15:Hid (Blk w5 b1 24 #[.int .i64 (m:Int),.slice A k c]):=jJ (by rw [hw5]; exact K14.out.alloc _)
  have HTB5:Hid (TabN w5 g m T):=jJ (by rw [hw5]; exact HTB4.out.alloc _)
  rw [← hw5]
  simp only [← hb5]
  clear hw5 hb5 HB4 K14 HTB4
  obtain ⟨n,hn,hal,hn3⟩:=order_conn HTB5.out.s HSPH.out.one (by have:=HK.out; omega)
  have HAL:=jJ hal
  have HOR:Hid (Calls Tryz.prog 8 #[.agg #[.int .i64 (m:Int),.slice A k c]] w5 (fun e w'=>e=.returned (.tuple #[.int .i64 (n:Int),.int .i64 0]) ∧ Below w5.heap.size w5 w')):=jJ (by
   have:=symOrder_yes m A c T w5 HCH.out (by have:=HK.out; omega) (parts_ok HTB5.out.s) (HK.out ▸ tris_on HB5.out HT.out)
   rw [hn,← HK.out] at this
   exact this)
  have HCT:Hid (manyW T (3 * k)=n):=jJ (by
   have:=word_count HTB5.out.s HSPH.out.clo HSPH.out.one HSPH.out.pos HSPH.out.num
   rw [HAL.out] at this
   rw [HK.out]
   exact this)
  have HDV:Hid (n ∣ 3 * k):=jJ (by
   have:=conn_div HTB5.out.s HSPH.out.one
   rw [HAL.out] at this
   rw [HK.out]
   exact this)
  have hnpos:0 < n:=by
   rcases Nat.eq_zero_or_pos n with e | e
   · have:=HDV.out
     rw [e,Nat.zero_dvd] at this
     omega
   exact e
  clear hn hal
  have p0:w5.cell? ⟨b1,0,none⟩=some (.int .i64 (m:Int)):=K15.out.cell 0
  have p1:w5.cell? ⟨b1,1,none⟩=some (.slice A k c):=K15.out.cell 1
  go_wp2_with fail
  refine HOR.out.mono ?_
  rintro e w6 ⟨rfl,hb⟩
  have HB6:=jJ (bw_call HB5.out hb)
  have K16:=jJ (blk_call K15.out hb)
  have K56:=jJ (blk_call K55.out hb)
  have HTB6:=jJ (HTB5.out.below hb)
  clear hb HB5 K15 K55 HTB5 HOR p0 p1
  have p0:w6.cell? ⟨b1,0,none⟩=some (.int .i64 (m:Int)):=K16.out.cell 0
  have p1:w6.cell? ⟨b1,1,none⟩=some (.slice A k c):=K16.out.cell 1
  have hw3k:IntKind.i64.wrap (3 * (k:Int))=((3 * k:Nat):Int):=by rw [IntWalk.i64_in _ (by omega)]; omega
  obtain ⟨k3,hk3⟩:=jX (3 * k)
  have HK3:=jJ hk3
  have hk3l:k3 ≤ 84:=by omega
  rw [← hk3] at hw3k HCT HDV HWK
  clear hk3
  go_wp2_with fail
  go_loopw [9,44] (fun mv iv wr=>∃ i:Nat,i ≤ k3 ∧ mv=.int .i64 (manyW T i:Nat) ∧ iv=.int .i64 (i:Int) ∧ Hid (Below w6.heap.size w6 wr)) (fun _ iv _=>k3 - (intOf iv).toNat)
  case atStart=>exact ⟨0,by omega,rfl,rfl,jJ (Below.refl _ _)⟩
  clear p0 p1
  obtain ⟨i,hik,rfl,rfl,HBr⟩:=hrel
  obtain ⟨wE,hwE⟩:=jX (wr:World)
  rw [← hwE] at HBr ⊢
  clear hwE
  have K1E:=jJ (blk_call K16.out HBr.out)
  have K5E:=jJ (blk_call K56.out HBr.out)
  have p0:wE.cell? ⟨b1,0,none⟩=some (.int .i64 (m:Int)):=K1E.out.cell 0
  have p1:wE.cell? ⟨b1,1,none⟩=some (.slice A k c):=K1E.out.cell 1
  obtain ⟨my,hmy⟩:=jX (manyW T i)
  rw [← hmy]
  have hmy1:my ≤ i:=by rw [hmy]; exact manyW_le T i
  have HMY:=jJ hmy
  clear hmy
  by_cases hii:i < k3
  · have hiI:(i:Int) < (k3:Int):=by omega
    have HWI:=jJ (HWK.out wE i (HTB6.out.below HBr.out) hii)
    go_wp2_with fail
    refine HWI.out.mono ?_
    rintro e wF ⟨Av1,Ac1,nv1,cv1,nc1,cc1,rfl,hb⟩
    rw [wordB_A]
    obtain ⟨S1,hS1⟩:=jX (wordA (wordX T.length (oppC T) (cv T) i))
    have HS1:=jJ hS1
    rw [← hS1]
    have HBF:=jJ (bw_call HBr.out hb)
    have K5F:=jJ (blk_call K5E.out hb)
    clear hb HBr K1E K5E hS1 HWI p0 p1
    go_upto_region 11 with (fail)
    obtain ⟨wG,hwG⟩:=jX (wF.alloc (.cells #[.string S1,.slice Av1 nv1 cv1,.slice Ac1 nc1 cc1] 32))
    obtain ⟨bx,hbx⟩:=jX wF.heap.size
    have KXG:Hid (Blk wG bx 32 #[.string S1,.slice Av1 nv1 cv1,.slice Ac1 nc1 cc1]):=jJ (by rw [hwG,hbx]; exact Blk.new _ _ _)
    have K5G:Hid (Blk wG b5 32 #[.string S0,.slice Av0 nv0 cv0,.slice Ac0 nc0 cc0]):=jJ (by rw [hwG]; exact K5F.out.alloc _)
    have HBG:Hid (Below w6.heap.size w6 wG):=jJ (by rw [hwG]; exact bw_alloc HBF.out _)
    rw [← hwG]
    simp only [← hbx]
    clear hwG hbx HBF K5F
    have q0:wG.cell? ⟨bx,0,none⟩=some (.string S1):=KXG.out.cell 0
    have q1:wG.cell? ⟨b5,0,none⟩=some (.string S0):=K5G.out.cell 0
    have hwm:IntKind.i64.wrap ((my:Int) + 1)=((my + 1:Nat):Int):=by rw [IntWalk.i64_in _ (by omega)]; omega
    by_cases hsm:wordX T.length (oppC T) (cv T) i=wordX T.length (oppC T) (cv T) 0
    · have HNX:Hid (manyW T (i + 1)=my + 1):=jJ (by rw [manyW_yes hsm,HMY.out])
      obtain rfl:S1=S0:=by rw [HS1.out,HS0.out,hsm]
      clear hsm HS1
      go_wp2_with fail
      exact ⟨⟨i + 1,by omega,by simp [HNX.out],by go_num,HBG⟩,by simp [intOf]; omega⟩
    have HNX:Hid (manyW T (i + 1)=my):=jJ (by rw [manyW_no hsm,HMY.out])
    have hne:S1 ≠ S0:=fun e=>hsm (wordA_inj (word_small _ _ _ _) (word_small _ _ _ _) (by rw [← HS1.out,← HS0.out,e]))
    have hneb:(S1.toList == S0.toList)=false:=by
     rw [ByteArray.toList_eq,ByteArray.toList_eq,beq_eq_false_iff_ne]
     intro e
     cases S1
     cases S0
     simp only at e
     rw [Array.toList_inj.1 e] at hne
     exact hne rfl
    clear hsm HS1
    go_wp2_with fail
    exact ⟨⟨i + 1,by omega,by simp [HNX.out],by go_num,HBG⟩,by simp [intOf]; omega⟩
  obtain rfl:i=k3:=by omega
  obtain rfl:my=n:=by rw [HMY.out,HCT.out]
  have hrem:Int.tmod (i:Int) (my:Int)=0:=by
   obtain ⟨q,hq⟩:=HDV.out
   have:((i % my:Nat):Int)=0:=by rw [hq,Nat.mul_mod_right]; rfl
   exact this
  have hmz:((my:Int) == 0)=false:=by rw [beq_eq_false_iff_ne]; omega
  have HB9:=jJ (HB6.out.trans (HBr.out.mono HB6.out.size))
  go_wp2_with fail
  go_ret
  exact ⟨rfl,HB9.out⟩
theorem lawTurnsN_any (N:Int) (A:Option Addr) (n c:Nat) (T:List Tri) (w:World) (ht:TrisAt w w.heap.size A n T) :
  Calls Tryz.prog 3 #[.agg #[.int .i64 N,.slice A n c]] w (BoolPost w true):=by
 have hl:=ht.len
 subst hl
 exact lawTurns_any N A c T w ht
end Go.Proofs.YtffmfhkiienmaaaGreat
