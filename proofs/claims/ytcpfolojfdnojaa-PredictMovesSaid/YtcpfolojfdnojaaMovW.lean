/- PredictMoves, walked. -/
import Derived.Test.YtcpfolojfdnojaaMovH
namespace Go.Proofs.Ytcpfolojfdnojaa
open Go.RowKit
open List (setIfInBounds_toArray set_cons_zero set_cons_succ)

set_option linter.unusedSimpArgs false
set_option linter.unusedVariables false
attribute [local irreducible] Blk LRow PR World.alloc World.setCell World.cell? World.frozen? MapV
set_option maxRecDepth 100000 in
set_option maxHeartbeats 8000000 in
theorem movLaw_any (xl xa xb xc xd : Int) (Ap : Option Addr) (n cp : Nat) (P : List Tri) (y0 y1 y2 : Int) (w : World) (hn : n ≤ 9223372036854775807) (hp : TrisAt w w.heap.size Ap n P) :
  Calls Try.prog 6 #[.agg #[.int .i64 xl, .int .i64 xa, .int .i64 xb, .int .i64 xc, .int .i64 xd], .slice Ap n cp, .agg #[.int .i64 y0, .int .i64 y1, .int .i64 y2]] w (BoolPost w true) := by
 have HP := Lib.hid hp
 clear hp
 obtain ⟨i0, hi0, hz0, hz1, hz2⟩ := info_parts pt_info
 obtain ⟨V, hV⟩ : ∃ V, V = (w.alloc (.cells #[.int .i64 xl, .int .i64 xa, .int .i64 xb, .int .i64 xc, .int .i64 xd] 32)).alloc (.cells #[.int .i64 y0, .int .i64 y1, .int .i64 y2] 36) := ⟨_, rfl⟩
 have GA0 : Hid (Blk V w.heap.size 32 #[.int .i64 xl, .int .i64 xa, .int .i64 xb, .int .i64 xc, .int .i64 xd]) := by subst hV; exact Lib.hid ((Blk.new _ _ _).alloc _)
 have GB0 : Hid (Blk V (w.heap.size + 1) 36 #[.int .i64 y0, .int .i64 y1, .int .i64 y2]) := by subst hV; exact Lib.hid (blk_new1 _ _ _ _)
 have HB0 : Hid (Below w.heap.size w V) := by subst hV; exact Lib.hid (bw_alloc (bw_alloc (Below.refl _ _) _) _)
 go_enter Try.func6, Try.ntmps6
 go_upto_region 1 with (fail)
 rw [← hV]
 clear hV
 obtain ⟨ga, hga⟩ : ∃ g, g = w.heap.size := ⟨_, rfl⟩
 obtain ⟨gb, hgb⟩ : ∃ g, g = w.heap.size + 1 := ⟨_, rfl⟩
 rw [← hgb] at GB0 ⊢
 rw [← hga] at GA0
 simp only [← hga]
 clear hga hgb
 go_wp2_with fail
 refine (awake_any _).mono ?_
 rintro e V1 ⟨rfl, hb⟩
 have GA1 := Lib.hid (blk_call GA0.out hb)
 have GB1 := Lib.hid (blk_call GB0.out hb)
 have HB1 := Lib.hid (bw_call HB0.out hb)
 clear hb HB0 GA0 GB0
 by_cases hn40 : 40 < n
 ·have hki : (40 : Int) < (n : Int) := by omega
  go_wp2_with fail
  go_ret
  exact ⟨rfl, HB1.out⟩
 have hki : ¬ (40 : Int) < (n : Int) := by omega
 have hn2 : n ≤ 40 := by omega
 clear hn40 hn
 have HP1 := Lib.hid ((HP.out.below HB1.out).more HB1.out.size)
 obtain ⟨t0, HT0⟩ : ∃ t0, Int.tmod y0 500 = t0 := ⟨_, rfl⟩
 have l0 := tmod_le5 y0
 rw [HT0] at l0
 have wt0 : IntKind.i64.wrap t0 = t0 := IntWalk.i64_in _ (by omega)
 have wu0 : IntKind.i64.wrap (2 * t0) = 2 * t0 := IntWalk.i64_in _ (by omega)
 obtain ⟨t1, HT1⟩ : ∃ t1, Int.tmod y1 500 = t1 := ⟨_, rfl⟩
 have l1 := tmod_le5 y1
 rw [HT1] at l1
 have wt1 : IntKind.i64.wrap t1 = t1 := IntWalk.i64_in _ (by omega)
 have wu1 : IntKind.i64.wrap (2 * t1) = 2 * t1 := IntWalk.i64_in _ (by omega)
 obtain ⟨t2, HT2⟩ : ∃ t2, Int.tmod y2 500 = t2 := ⟨_, rfl⟩
 have l2 := tmod_le5 y2
 rw [HT2] at l2
 have wt2 : IntKind.i64.wrap t2 = t2 := IntWalk.i64_in _ (by omega)
 have wu2 : IntKind.i64.wrap (2 * t2) = 2 * t2 := IntWalk.i64_in _ (by omega)
 go_wp2_with fail
 go_loopw [7, 8, 9, 10] (fun ov qv mv iv wr => ∃ (k : Nat) (Ao : Option Addr) (co : Nat) (O : List Tri) (Aq : Option Addr) (cq : Nat) (Q : List Tri) (Am : Option Addr) (cm : Nat) (M : List Tri), k ≤ n ∧ ov = .slice Ao k co ∧ qv = .slice Aq k cq ∧ mv = .slice Am k cm ∧ iv = .int .i64 k ∧ Hid (P3 wr V1.heap.size k Ao co O k Aq cq Q k Am cm M) ∧ Hid (MovAll k O Q M (2 * t0) (2 * t1) (2 * t2)) ∧ Hid (Below V1.heap.size V1 wr)) (fun _ _ _ iv _ => n - (intOf iv).toNat)
 case atStart => exact ⟨0, none, 0, [], none, 0, [], none, 0, [], by omega, rfl, rfl, rfl, rfl, Lib.hid (P3.nil _ _), Lib.hid (MovAll.nil _ _ _), Lib.hid (Below.refl _ _)⟩
 case round =>
  obtain ⟨k, Ao, co, O, Aq, cq, Q, Am, cm, M, hk, rfl, rfl, rfl, rfl, PRk, MVk, HCk⟩ := hrel
  obtain ⟨wB, hwB⟩ : ∃ wB : World, wB = wr := ⟨_, rfl⟩
  rw [← hwB] at PRk HCk ⊢
  clear hwB
  by_cases hlt : k < n
  rotate_left
  ·obtain rfl : k = n := by omega
   have GA2 := Lib.hid (blk_call GA1.out HCk.out)
   have GB2 := Lib.hid (blk_call GB1.out HCk.out)
   have HB2 := HCk
   have HGB : Hid (gb < V1.heap.size) := Lib.hid GB1.out.lt
   have HLE : Hid (∀ W, BS V1 W V1.heap.size k Ao co O Aq cq Q Am cm M ga gb #[.int .i64 xl, .int .i64 xa, .int .i64 xb, .int .i64 xc, .int .i64 xd] #[.int .i64 y0, .int .i64 y1, .int .i64 y2] → V1.heap.size ≤ W.heap.size) := Lib.hid fun W h => h.h.size
   clear HCk GA1 GB1 HP1 HP hlt hk
   have g0 := GA2.out.cell 0
   have g1 := GA2.out.cell 1
   have g2 := GA2.out.cell 2
   simp at g0 g1 g2
   go_upto_region 17 with (fail)
   go_cut [15] (fun kv wx => kv = .bool (decide (knowA ⟨xl, xa, xb, xc, xd⟩ k)) ∧ wx = wB)
   case first =>
    by_cases hxl0 : 0 ≤ xl
    ·by_cases hxl1 : xl < (k : Int)
     ·have hdec : decide (knowA ⟨xl, xa, xb, xc, xd⟩ k) = true := decide_eq_true (.inl ⟨hxl0, hxl1⟩)
      go_wp2_with fail
      go_meet
      exact ⟨by rw [hdec], rfl⟩
     ·by_cases hxa0 : 0 ≤ xa
      ·by_cases hxa1 : xa < (k : Int)
       ·by_cases hxb0 : 0 ≤ xb
        ·by_cases hxb1 : xb < (k : Int)
         ·have hdec : decide (knowA ⟨xl, xa, xb, xc, xd⟩ k) = true := decide_eq_true (.inr ⟨⟨hxa0, hxa1⟩, ⟨hxb0, hxb1⟩⟩)
          go_wp2_with fail
          go_meet
          exact ⟨by rw [hdec], rfl⟩
         ·have hdec : decide (knowA ⟨xl, xa, xb, xc, xd⟩ k) = false := decide_eq_false (fun e => e.elim (fun e => hxl1 e.2) (fun e => (fun e => hxb1 e.2) e.2))
          go_wp2_with fail
          go_meet
          exact ⟨by rw [hdec], rfl⟩
        ·have hdec : decide (knowA ⟨xl, xa, xb, xc, xd⟩ k) = false := decide_eq_false (fun e => e.elim (fun e => hxl1 e.2) (fun e => (fun e => hxb0 e.1) e.2))
         go_wp2_with fail
         go_meet
         exact ⟨by rw [hdec], rfl⟩
       ·have hdec : decide (knowA ⟨xl, xa, xb, xc, xd⟩ k) = false := decide_eq_false (fun e => e.elim (fun e => hxl1 e.2) (fun e => (fun e => hxa1 e.2) e.1))
        go_wp2_with fail
        go_meet
        exact ⟨by rw [hdec], rfl⟩
      ·have hdec : decide (knowA ⟨xl, xa, xb, xc, xd⟩ k) = false := decide_eq_false (fun e => e.elim (fun e => hxl1 e.2) (fun e => (fun e => hxa0 e.1) e.1))
       go_wp2_with fail
       go_meet
       exact ⟨by rw [hdec], rfl⟩
    ·by_cases hxa0 : 0 ≤ xa
     ·by_cases hxa1 : xa < (k : Int)
      ·by_cases hxb0 : 0 ≤ xb
       ·by_cases hxb1 : xb < (k : Int)
        ·have hdec : decide (knowA ⟨xl, xa, xb, xc, xd⟩ k) = true := decide_eq_true (.inr ⟨⟨hxa0, hxa1⟩, ⟨hxb0, hxb1⟩⟩)
         go_wp2_with fail
         go_meet
         exact ⟨by rw [hdec], rfl⟩
        ·have hdec : decide (knowA ⟨xl, xa, xb, xc, xd⟩ k) = false := decide_eq_false (fun e => e.elim (fun e => hxl0 e.1) (fun e => (fun e => hxb1 e.2) e.2))
         go_wp2_with fail
         go_meet
         exact ⟨by rw [hdec], rfl⟩
       ·have hdec : decide (knowA ⟨xl, xa, xb, xc, xd⟩ k) = false := decide_eq_false (fun e => e.elim (fun e => hxl0 e.1) (fun e => (fun e => hxb0 e.1) e.2))
        go_wp2_with fail
        go_meet
        exact ⟨by rw [hdec], rfl⟩
      ·have hdec : decide (knowA ⟨xl, xa, xb, xc, xd⟩ k) = false := decide_eq_false (fun e => e.elim (fun e => hxl0 e.1) (fun e => (fun e => hxa1 e.2) e.1))
       go_wp2_with fail
       go_meet
       exact ⟨by rw [hdec], rfl⟩
     ·have hdec : decide (knowA ⟨xl, xa, xb, xc, xd⟩ k) = false := decide_eq_false (fun e => e.elim (fun e => hxl0 e.1) (fun e => (fun e => hxa0 e.1) e.1))
      go_wp2_with fail
      go_meet
      exact ⟨by rw [hdec], rfl⟩
   case rest =>
    obtain ⟨hkv, hwc⟩ := hcut
    obtain ⟨kb, HKB⟩ : ∃ kb, Hid (decide (knowA ⟨xl, xa, xb, xc, xd⟩ k) = kb) := ⟨_, Lib.hid rfl⟩
    rw [HKB.out] at hkv
    subst hkv
    rw [hwc]
    clear hwc g0 g1 g2
    go_wp2_with fail
    go_loopw [16] (fun iv wr => ∃ q : Nat, q ≤ 4 ∧ iv = .int .i64 q ∧ Hid (P3 wr V1.heap.size k Ao co O k Aq cq Q k Am cm M) ∧ Hid (Blk wr ga 32 #[.int .i64 xl, .int .i64 xa, .int .i64 xb, .int .i64 xc, .int .i64 xd]) ∧ Hid (Blk wr gb 36 #[.int .i64 y0, .int .i64 y1, .int .i64 y2]) ∧ Hid (Below V1.heap.size V1 wr)) (fun iv _ => 4 - (intOf iv).toNat)
    case atStart => exact ⟨0, by omega, rfl, PRk, GA2, GB2, HB2⟩
    case round =>
     obtain ⟨q, hq, rfl, PR3, GA3, GB3, HB3⟩ := hrel
     obtain ⟨wC, hwC⟩ : ∃ wC : World, wC = wr := ⟨_, rfl⟩
     rw [← hwC] at PR3 GA3 GB3 HB3 ⊢
     clear hwC PRk GA2 GB2 HB2
     by_cases hq4 : q < 4
     rotate_left
     ·obtain rfl : q = 4 := by omega
      go_wp2_with fail
      go_ret
      exact ⟨rfl, bw_call HB1.out HB3.out⟩
     have hqi : (q : Int) < 4 := by omega
     obtain ⟨M0, M1, M2⟩ := MVk.out.mov l0 l1 l2
     have N0 := moves_law (k := (q : Int)) (A := ⟨xl, xa, xb, xc, xd⟩) ⟨by omega, hqi⟩ M0
     have N1 := moves_law (k := (q : Int)) (A := ⟨xl, xa, xb, xc, xd⟩) ⟨by omega, hqi⟩ M1
     have N2 := moves_law (k := (q : Int)) (A := ⟨xl, xa, xb, xc, xd⟩) ⟨by omega, hqi⟩ M2
     clear M0 M1 M2
     have b0 := point_le (q : Int) ⟨xl, xa, xb, xc, xd⟩ O 0
     obtain ⟨a0, HA0⟩ : ∃ a0, Hid (pointL (q : Int) ⟨xl, xa, xb, xc, xd⟩ O 0 = a0) := ⟨_, Lib.hid rfl⟩
     obtain ⟨s0, HS0⟩ : ∃ s0, Hid (stepM (q : Int) ⟨xl, xa, xb, xc, xd⟩ k (2 * t0) = s0) := ⟨_, Lib.hid rfl⟩
     rw [HA0.out, HS0.out] at N0
     rw [HA0.out] at b0
     have NN0 := Lib.hid N0
     clear N0
     have b1 := point_le (q : Int) ⟨xl, xa, xb, xc, xd⟩ O 1
     obtain ⟨a1, HA1⟩ : ∃ a1, Hid (pointL (q : Int) ⟨xl, xa, xb, xc, xd⟩ O 1 = a1) := ⟨_, Lib.hid rfl⟩
     obtain ⟨s1, HS1⟩ : ∃ s1, Hid (stepM (q : Int) ⟨xl, xa, xb, xc, xd⟩ k (2 * t1) = s1) := ⟨_, Lib.hid rfl⟩
     rw [HA1.out, HS1.out] at N1
     rw [HA1.out] at b1
     have NN1 := Lib.hid N1
     clear N1
     have b2 := point_le (q : Int) ⟨xl, xa, xb, xc, xd⟩ O 2
     obtain ⟨a2, HA2⟩ : ∃ a2, Hid (pointL (q : Int) ⟨xl, xa, xb, xc, xd⟩ O 2 = a2) := ⟨_, Lib.hid rfl⟩
     obtain ⟨s2, HS2⟩ : ∃ s2, Hid (stepM (q : Int) ⟨xl, xa, xb, xc, xd⟩ k (2 * t2) = s2) := ⟨_, Lib.hid rfl⟩
     rw [HA2.out, HS2.out] at N2
     rw [HA2.out] at b2
     have NN2 := Lib.hid N2
     clear N2
     have HCO : Hid (∀ W : World, P3 W V1.heap.size k Ao co O k Aq cq Q k Am cm M → Calls Try.prog 13 #[.int .i64 (q : Int), .agg #[.int .i64 xl, .int .i64 xa, .int .i64 xb, .int .i64 xc, .int .i64 xd], .slice Ao k co] W (Pt3 W a0 a1 a2)) := Lib.hid fun W h => by
      have h1 := point_any (q : Int) xl xa xb xc xd Ao k co O W (by omega) h.o.tris
      unfold PtPost at h1
      rw [HA0.out, HA1.out, HA2.out] at h1
      exact h1
     have HCQ : Hid (∀ W : World, P3 W V1.heap.size k Ao co O k Aq cq Q k Am cm M → Calls Try.prog 13 #[.int .i64 (q : Int), .agg #[.int .i64 xl, .int .i64 xa, .int .i64 xb, .int .i64 xc, .int .i64 xd], .slice Aq k cq] W (Pt3 W (a0 + s0) (a1 + s1) (a2 + s2))) := Lib.hid fun W h => by
      have h1 := point_any (q : Int) xl xa xb xc xd Aq k cq Q W (by omega) h.q.tris
      unfold PtPost at h1
      rw [NN0.out.1, NN1.out.1, NN2.out.1] at h1
      exact h1
     have HCM : Hid (∀ W : World, P3 W V1.heap.size k Ao co O k Aq cq Q k Am cm M → Calls Try.prog 13 #[.int .i64 (q : Int), .agg #[.int .i64 xl, .int .i64 xa, .int .i64 xb, .int .i64 xc, .int .i64 xd], .slice Am k cm] W (Pt3 W (-a0) (-a1) (-a2))) := Lib.hid fun W h => by
      have h1 := point_any (q : Int) xl xa xb xc xd Am k cm M W (by omega) h.m.tris
      unfold PtPost at h1
      rw [NN0.out.2, NN1.out.2, NN2.out.2] at h1
      exact h1
     clear NN0 NN1 NN2
     have HBSC : Hid (BS V1 wC V1.heap.size k Ao co O Aq cq Q Am cm M ga gb #[.int .i64 xl, .int .i64 xa, .int .i64 xb, .int .i64 xc, .int .i64 xd] #[.int .i64 y0, .int .i64 y1, .int .i64 y2]) := Lib.hid ⟨PR3.out, GA3.out, GB3.out, HB3.out, Nat.le_refl _⟩
     clear PR3 GA3 GB3 HB3
     go_upto_region 21 with (fail)
     go_cut [17, 18, 19] (fun xv yv zv wx => ∃ g17 g18 g19 : Nat, xv = .pointer (some ⟨g17, 0, none⟩) ∧ yv = .pointer (some ⟨g18, 0, none⟩) ∧ zv = .pointer (some ⟨g19, 0, none⟩) ∧ Hid (BS V1 wx V1.heap.size k Ao co O Aq cq Q Am cm M ga gb #[.int .i64 xl, .int .i64 xa, .int .i64 xb, .int .i64 xc, .int .i64 xd] #[.int .i64 y0, .int .i64 y1, .int .i64 y2]) ∧ Hid (PB wx g17 ⟨a0, a1, a2⟩ (.slice Ao k co) (.slice Aq k cq) (.slice Am k cm)) ∧ Hid (PB wx g18 ⟨a0 + s0, a1 + s1, a2 + s2⟩ (.slice Ao k co) (.slice Aq k cq) (.slice Am k cm)) ∧ Hid (PB wx g19 ⟨-a0, -a1, -a2⟩ (.slice Ao k co) (.slice Aq k cq) (.slice Am k cm)))
     case first =>
      refine wp_region_till (S := fun w' => w'.cell? ⟨ga, 0, none⟩ = some (.int .i64 xl) ∧ w'.cell? ⟨ga, 1, none⟩ = some (.int .i64 xa) ∧ w'.cell? ⟨ga, 2, none⟩ = some (.int .i64 xb) ∧ w'.cell? ⟨ga, 3, none⟩ = some (.int .i64 xc) ∧ w'.cell? ⟨ga, 4, none⟩ = some (.int .i64 xd)) 17 (by kernel_rfl) ⟨HBSC.out.drew.a.cell 0, HBSC.out.drew.a.cell 1, HBSC.out.drew.a.cell 2, HBSC.out.drew.a.cell 3, HBSC.out.drew.a.cell 4⟩ (fun hh => ?_)
      refine Till.take (i := 0) (v := ?vt1) rfl (by kernel_rfl) (by kernel_rfl) (by kernel_rfl) (by kernel_rfl) (fun _ _ _ h => h) (Or.inl ⟨by rfl, ?ht1⟩) (by assumption) ?restt1
      case ht1 => (intro w hSw; (try dsimp only at hSw); go_simp; try with_reducible rfl)
      (try simp only [Act.put, setIfInBounds_toArray, set_cons_zero, set_cons_succ])
      refine Till.take (i := 1) (v := ?vt2) rfl (by kernel_rfl) (by kernel_rfl) (by kernel_rfl) (by kernel_rfl) (fun _ _ _ h => h) (Or.inl ⟨by rfl, ?ht2⟩) (by assumption) ?restt2
      case ht2 => (intro w hSw; (try dsimp only at hSw); go_simp; try with_reducible rfl)
      (try simp only [Act.put, setIfInBounds_toArray, set_cons_zero, set_cons_succ])
      refine Till.take (i := 2) (v := ?vt3) rfl (by kernel_rfl) (by kernel_rfl) (by kernel_rfl) (by kernel_rfl) (fun _ _ _ h => h) (Or.inl ⟨by rfl, ?ht3⟩) (by assumption) ?restt3
      case ht3 => (intro w hSw; (try dsimp only at hSw); go_simp; try with_reducible rfl)
      (try simp only [Act.put, setIfInBounds_toArray, set_cons_zero, set_cons_succ])
      refine Till.take (i := 4) (v := ?vt4) rfl (by kernel_rfl) (by kernel_rfl) (by kernel_rfl) (by kernel_rfl) (fun _ _ _ h => h) (Or.inl ⟨by rfl, ?ht4⟩) (by assumption) ?restt4
      case ht4 => (intro w hSw; (try dsimp only at hSw); go_simp; try with_reducible rfl)
      (try simp only [Act.put, setIfInBounds_toArray, set_cons_zero, set_cons_succ])
      refine Till.take (i := 5) (v := ?vt5) rfl (by kernel_rfl) (by kernel_rfl) (by kernel_rfl) (by kernel_rfl) (fun _ _ _ h => h) (Or.inl ⟨by rfl, ?ht5⟩) (by assumption) ?restt5
      case ht5 => (intro w hSw; (try dsimp only at hSw); go_simp; try with_reducible rfl)
      (try simp only [Act.put, setIfInBounds_toArray, set_cons_zero, set_cons_succ])
      refine Till.take (i := 6) (v := ?vt6) rfl (by kernel_rfl) (by kernel_rfl) (by kernel_rfl) (by kernel_rfl) (fun _ _ _ h => h) (Or.inl ⟨by rfl, ?ht6⟩) (by assumption) ?restt6
      case ht6 => (intro w hSw; (try dsimp only at hSw); go_simp; try with_reducible rfl)
      (try simp only [Act.put, setIfInBounds_toArray, set_cons_zero, set_cons_succ])
      refine Till.take (i := 8) (v := ?vt7) rfl (by kernel_rfl) (by kernel_rfl) (by kernel_rfl) (by kernel_rfl) (fun _ _ _ h => h) (Or.inl ⟨by rfl, ?ht7⟩) (by assumption) ?restt7
      case ht7 => (intro w hSw; (try dsimp only at hSw); go_simp; try with_reducible rfl)
      (try simp only [Act.put, setIfInBounds_toArray, set_cons_zero, set_cons_succ])
      refine Till.take (i := 9) (v := ?vt8) rfl (by kernel_rfl) (by kernel_rfl) (by kernel_rfl) (by kernel_rfl) (fun _ _ _ h => h) (Or.inl ⟨by rfl, ?ht8⟩) (by assumption) ?restt8
      case ht8 => (intro w hSw; (try dsimp only at hSw); go_simp; try with_reducible rfl)
      (try simp only [Act.put, setIfInBounds_toArray, set_cons_zero, set_cons_succ])
      refine Till.take (i := 10) (v := ?vt9) rfl (by kernel_rfl) (by kernel_rfl) (by kernel_rfl) (by kernel_rfl) (fun _ _ _ h => h) (Or.inl ⟨by rfl, ?ht9⟩) (by assumption) ?restt9
      case ht9 => (intro w hSw; (try dsimp only at hSw); go_simp; try with_reducible rfl)
      (try simp only [Act.put, setIfInBounds_toArray, set_cons_zero, set_cons_succ])
      apply share3 (fun W g17 g18 g19 => BS V1 W V1.heap.size k Ao co O Aq cq Q Am cm M ga gb #[.int .i64 xl, .int .i64 xa, .int .i64 xb, .int .i64 xc, .int .i64 xd] #[.int .i64 y0, .int .i64 y1, .int .i64 y2] ∧ (PB W g17 ⟨0, 0, 0⟩ (.slice Ao k co) (.slice Aq k cq) (.slice Am k cm) ∧ V1.heap.size ≤ g17) ∧ (PB W g18 ⟨0, 0, 0⟩ (.slice Ao k co) (.slice Aq k cq) (.slice Am k cm) ∧ V1.heap.size ≤ g18) ∧ (PB W g19 ⟨0, 0, 0⟩ (.slice Ao k co) (.slice Aq k cq) (.slice Am k cm) ∧ V1.heap.size ≤ g19) ∧ g17 ≠ g18 ∧ g17 ≠ g19 ∧ g18 ≠ g19)
      case' use => intro LEM3012
      apply share2 (fun W g17 g18 => BS V1 W V1.heap.size k Ao co O Aq cq Q Am cm M ga gb #[.int .i64 xl, .int .i64 xa, .int .i64 xb, .int .i64 xc, .int .i64 xd] #[.int .i64 y0, .int .i64 y1, .int .i64 y2] ∧ (PB W g17 ⟨0, 0, 0⟩ (.slice Ao k co) (.slice Aq k cq) (.slice Am k cm) ∧ V1.heap.size ≤ g17) ∧ (PB W g18 ⟨0, 0, 0⟩ (.slice Ao k co) (.slice Aq k cq) (.slice Am k cm) ∧ V1.heap.size ≤ g18) ∧ g17 ≠ g18)
      case' use => intro LEM301
      apply share2 (fun W g17 g19 => BS V1 W V1.heap.size k Ao co O Aq cq Q Am cm M ga gb #[.int .i64 xl, .int .i64 xa, .int .i64 xb, .int .i64 xc, .int .i64 xd] #[.int .i64 y0, .int .i64 y1, .int .i64 y2] ∧ (PB W g17 ⟨0, 0, 0⟩ (.slice Ao k co) (.slice Aq k cq) (.slice Am k cm) ∧ V1.heap.size ≤ g17) ∧ (PB W g19 ⟨0, 0, 0⟩ (.slice Ao k co) (.slice Aq k cq) (.slice Am k cm) ∧ V1.heap.size ≤ g19) ∧ g17 ≠ g19)
      case' use => intro LEM302
      apply share2 (fun W g18 g19 => BS V1 W V1.heap.size k Ao co O Aq cq Q Am cm M ga gb #[.int .i64 xl, .int .i64 xa, .int .i64 xb, .int .i64 xc, .int .i64 xd] #[.int .i64 y0, .int .i64 y1, .int .i64 y2] ∧ (PB W g18 ⟨0, 0, 0⟩ (.slice Ao k co) (.slice Aq k cq) (.slice Am k cm) ∧ V1.heap.size ≤ g18) ∧ (PB W g19 ⟨0, 0, 0⟩ (.slice Ao k co) (.slice Aq k cq) (.slice Am k cm) ∧ V1.heap.size ≤ g19) ∧ g18 ≠ g19)
      case' use => intro LEM312
      apply share1 (fun W g17 => BS V1 W V1.heap.size k Ao co O Aq cq Q Am cm M ga gb #[.int .i64 xl, .int .i64 xa, .int .i64 xb, .int .i64 xc, .int .i64 xd] #[.int .i64 y0, .int .i64 y1, .int .i64 y2] ∧ (PB W g17 ⟨0, 0, 0⟩ (.slice Ao k co) (.slice Aq k cq) (.slice Am k cm) ∧ V1.heap.size ≤ g17))
      case' use => intro LEM30
      apply share1 (fun W g18 => BS V1 W V1.heap.size k Ao co O Aq cq Q Am cm M ga gb #[.int .i64 xl, .int .i64 xa, .int .i64 xb, .int .i64 xc, .int .i64 xd] #[.int .i64 y0, .int .i64 y1, .int .i64 y2] ∧ (PB W g18 ⟨0, 0, 0⟩ (.slice Ao k co) (.slice Aq k cq) (.slice Am k cm) ∧ V1.heap.size ≤ g18))
      case' use => intro LEM31
      apply share1 (fun W g19 => BS V1 W V1.heap.size k Ao co O Aq cq Q Am cm M ga gb #[.int .i64 xl, .int .i64 xa, .int .i64 xb, .int .i64 xc, .int .i64 xd] #[.int .i64 y0, .int .i64 y1, .int .i64 y2] ∧ (PB W g19 ⟨0, 0, 0⟩ (.slice Ao k co) (.slice Aq k cq) (.slice Am k cm) ∧ V1.heap.size ≤ g19))
      case' use => intro LEM32
      apply share0 (fun W  => BS V1 W V1.heap.size k Ao co O Aq cq Q Am cm M ga gb #[.int .i64 xl, .int .i64 xa, .int .i64 xb, .int .i64 xc, .int .i64 xd] #[.int .i64 y0, .int .i64 y1, .int .i64 y2])
      case' use => intro LEM3
      apply share3 (fun W g17 g18 g19 => BS V1 W V1.heap.size k Ao co O Aq cq Q Am cm M ga gb #[.int .i64 xl, .int .i64 xa, .int .i64 xb, .int .i64 xc, .int .i64 xd] #[.int .i64 y0, .int .i64 y1, .int .i64 y2] ∧ (PB W g17 ⟨0, 0, 0⟩ (.slice Ao k co) (.slice Aq k cq) (.slice Am k cm) ∧ V1.heap.size ≤ g17) ∧ (PB W g18 ⟨0, 0, 0⟩ (.slice Ao k co) (.slice Aq k cq) (.slice Am k cm) ∧ V1.heap.size ≤ g18) ∧ (PB W g19 ⟨0, 0, 0⟩ (.slice Ao k co) (.slice Aq k cq) (.slice Am k cm) ∧ V1.heap.size ≤ g19) ∧ g17 ≠ g18 ∧ g17 ≠ g19 ∧ g18 ≠ g19)
      case' use => intro LEM2012
      apply share2 (fun W g17 g18 => BS V1 W V1.heap.size k Ao co O Aq cq Q Am cm M ga gb #[.int .i64 xl, .int .i64 xa, .int .i64 xb, .int .i64 xc, .int .i64 xd] #[.int .i64 y0, .int .i64 y1, .int .i64 y2] ∧ (PB W g17 ⟨0, 0, 0⟩ (.slice Ao k co) (.slice Aq k cq) (.slice Am k cm) ∧ V1.heap.size ≤ g17) ∧ (PB W g18 ⟨0, 0, 0⟩ (.slice Ao k co) (.slice Aq k cq) (.slice Am k cm) ∧ V1.heap.size ≤ g18) ∧ g17 ≠ g18)
      case' use => intro LEM201
      apply share2 (fun W g17 g19 => BS V1 W V1.heap.size k Ao co O Aq cq Q Am cm M ga gb #[.int .i64 xl, .int .i64 xa, .int .i64 xb, .int .i64 xc, .int .i64 xd] #[.int .i64 y0, .int .i64 y1, .int .i64 y2] ∧ (PB W g17 ⟨0, 0, 0⟩ (.slice Ao k co) (.slice Aq k cq) (.slice Am k cm) ∧ V1.heap.size ≤ g17) ∧ (PB W g19 ⟨0, 0, 0⟩ (.slice Ao k co) (.slice Aq k cq) (.slice Am k cm) ∧ V1.heap.size ≤ g19) ∧ g17 ≠ g19)
      case' use => intro LEM202
      apply share2 (fun W g18 g19 => BS V1 W V1.heap.size k Ao co O Aq cq Q Am cm M ga gb #[.int .i64 xl, .int .i64 xa, .int .i64 xb, .int .i64 xc, .int .i64 xd] #[.int .i64 y0, .int .i64 y1, .int .i64 y2] ∧ (PB W g18 ⟨0, 0, 0⟩ (.slice Ao k co) (.slice Aq k cq) (.slice Am k cm) ∧ V1.heap.size ≤ g18) ∧ (PB W g19 ⟨0, 0, 0⟩ (.slice Ao k co) (.slice Aq k cq) (.slice Am k cm) ∧ V1.heap.size ≤ g19) ∧ g18 ≠ g19)
      case' use => intro LEM212
      apply share1 (fun W g17 => BS V1 W V1.heap.size k Ao co O Aq cq Q Am cm M ga gb #[.int .i64 xl, .int .i64 xa, .int .i64 xb, .int .i64 xc, .int .i64 xd] #[.int .i64 y0, .int .i64 y1, .int .i64 y2] ∧ (PB W g17 ⟨0, 0, 0⟩ (.slice Ao k co) (.slice Aq k cq) (.slice Am k cm) ∧ V1.heap.size ≤ g17))
      case' use => intro LEM20
      apply share1 (fun W g18 => BS V1 W V1.heap.size k Ao co O Aq cq Q Am cm M ga gb #[.int .i64 xl, .int .i64 xa, .int .i64 xb, .int .i64 xc, .int .i64 xd] #[.int .i64 y0, .int .i64 y1, .int .i64 y2] ∧ (PB W g18 ⟨0, 0, 0⟩ (.slice Ao k co) (.slice Aq k cq) (.slice Am k cm) ∧ V1.heap.size ≤ g18))
      case' use => intro LEM21
      apply share1 (fun W g19 => BS V1 W V1.heap.size k Ao co O Aq cq Q Am cm M ga gb #[.int .i64 xl, .int .i64 xa, .int .i64 xb, .int .i64 xc, .int .i64 xd] #[.int .i64 y0, .int .i64 y1, .int .i64 y2] ∧ (PB W g19 ⟨0, 0, 0⟩ (.slice Ao k co) (.slice Aq k cq) (.slice Am k cm) ∧ V1.heap.size ≤ g19))
      case' use => intro LEM22
      apply share0 (fun W  => BS V1 W V1.heap.size k Ao co O Aq cq Q Am cm M ga gb #[.int .i64 xl, .int .i64 xa, .int .i64 xb, .int .i64 xc, .int .i64 xd] #[.int .i64 y0, .int .i64 y1, .int .i64 y2])
      case' use => intro LEM2
      apply share3 (fun W g17 g18 g19 => BS V1 W V1.heap.size k Ao co O Aq cq Q Am cm M ga gb #[.int .i64 xl, .int .i64 xa, .int .i64 xb, .int .i64 xc, .int .i64 xd] #[.int .i64 y0, .int .i64 y1, .int .i64 y2] ∧ (PB W g17 ⟨0, 0, 0⟩ (.slice Ao k co) (.slice Aq k cq) (.slice Am k cm) ∧ V1.heap.size ≤ g17) ∧ (PB W g18 ⟨0, 0, 0⟩ (.slice Ao k co) (.slice Aq k cq) (.slice Am k cm) ∧ V1.heap.size ≤ g18) ∧ (PB W g19 ⟨0, 0, 0⟩ (.slice Ao k co) (.slice Aq k cq) (.slice Am k cm) ∧ V1.heap.size ≤ g19) ∧ g17 ≠ g18 ∧ g17 ≠ g19 ∧ g18 ≠ g19)
      case' use => intro LEM1012
      apply share2 (fun W g17 g18 => BS V1 W V1.heap.size k Ao co O Aq cq Q Am cm M ga gb #[.int .i64 xl, .int .i64 xa, .int .i64 xb, .int .i64 xc, .int .i64 xd] #[.int .i64 y0, .int .i64 y1, .int .i64 y2] ∧ (PB W g17 ⟨0, 0, 0⟩ (.slice Ao k co) (.slice Aq k cq) (.slice Am k cm) ∧ V1.heap.size ≤ g17) ∧ (PB W g18 ⟨0, 0, 0⟩ (.slice Ao k co) (.slice Aq k cq) (.slice Am k cm) ∧ V1.heap.size ≤ g18) ∧ g17 ≠ g18)
      case' use => intro LEM101
      apply share2 (fun W g17 g19 => BS V1 W V1.heap.size k Ao co O Aq cq Q Am cm M ga gb #[.int .i64 xl, .int .i64 xa, .int .i64 xb, .int .i64 xc, .int .i64 xd] #[.int .i64 y0, .int .i64 y1, .int .i64 y2] ∧ (PB W g17 ⟨0, 0, 0⟩ (.slice Ao k co) (.slice Aq k cq) (.slice Am k cm) ∧ V1.heap.size ≤ g17) ∧ (PB W g19 ⟨0, 0, 0⟩ (.slice Ao k co) (.slice Aq k cq) (.slice Am k cm) ∧ V1.heap.size ≤ g19) ∧ g17 ≠ g19)
      case' use => intro LEM102
      apply share2 (fun W g18 g19 => BS V1 W V1.heap.size k Ao co O Aq cq Q Am cm M ga gb #[.int .i64 xl, .int .i64 xa, .int .i64 xb, .int .i64 xc, .int .i64 xd] #[.int .i64 y0, .int .i64 y1, .int .i64 y2] ∧ (PB W g18 ⟨0, 0, 0⟩ (.slice Ao k co) (.slice Aq k cq) (.slice Am k cm) ∧ V1.heap.size ≤ g18) ∧ (PB W g19 ⟨0, 0, 0⟩ (.slice Ao k co) (.slice Aq k cq) (.slice Am k cm) ∧ V1.heap.size ≤ g19) ∧ g18 ≠ g19)
      case' use => intro LEM112
      apply share1 (fun W g17 => BS V1 W V1.heap.size k Ao co O Aq cq Q Am cm M ga gb #[.int .i64 xl, .int .i64 xa, .int .i64 xb, .int .i64 xc, .int .i64 xd] #[.int .i64 y0, .int .i64 y1, .int .i64 y2] ∧ (PB W g17 ⟨0, 0, 0⟩ (.slice Ao k co) (.slice Aq k cq) (.slice Am k cm) ∧ V1.heap.size ≤ g17))
      case' use => intro LEM10
      apply share1 (fun W g18 => BS V1 W V1.heap.size k Ao co O Aq cq Q Am cm M ga gb #[.int .i64 xl, .int .i64 xa, .int .i64 xb, .int .i64 xc, .int .i64 xd] #[.int .i64 y0, .int .i64 y1, .int .i64 y2] ∧ (PB W g18 ⟨0, 0, 0⟩ (.slice Ao k co) (.slice Aq k cq) (.slice Am k cm) ∧ V1.heap.size ≤ g18))
      case' use => intro LEM11
      apply share1 (fun W g19 => BS V1 W V1.heap.size k Ao co O Aq cq Q Am cm M ga gb #[.int .i64 xl, .int .i64 xa, .int .i64 xb, .int .i64 xc, .int .i64 xd] #[.int .i64 y0, .int .i64 y1, .int .i64 y2] ∧ (PB W g19 ⟨0, 0, 0⟩ (.slice Ao k co) (.slice Aq k cq) (.slice Am k cm) ∧ V1.heap.size ≤ g19))
      case' use => intro LEM12
      apply share0 (fun W  => BS V1 W V1.heap.size k Ao co O Aq cq Q Am cm M ga gb #[.int .i64 xl, .int .i64 xa, .int .i64 xb, .int .i64 xc, .int .i64 xd] #[.int .i64 y0, .int .i64 y1, .int .i64 y2])
      case' use => intro LEM1
      apply share3 (fun W g17 g18 g19 => BS V1 W V1.heap.size k Ao co O Aq cq Q Am cm M ga gb #[.int .i64 xl, .int .i64 xa, .int .i64 xb, .int .i64 xc, .int .i64 xd] #[.int .i64 y0, .int .i64 y1, .int .i64 y2] ∧ (PB W g17 ⟨0, 0, 0⟩ (.slice Ao k co) (.slice Aq k cq) (.slice Am k cm) ∧ V1.heap.size ≤ g17) ∧ (PB W g18 ⟨0, 0, 0⟩ (.slice Ao k co) (.slice Aq k cq) (.slice Am k cm) ∧ V1.heap.size ≤ g18) ∧ (PB W g19 ⟨0, 0, 0⟩ (.slice Ao k co) (.slice Aq k cq) (.slice Am k cm) ∧ V1.heap.size ≤ g19) ∧ g17 ≠ g18 ∧ g17 ≠ g19 ∧ g18 ≠ g19)
      case' use => intro LEM0012
      apply share2 (fun W g17 g18 => BS V1 W V1.heap.size k Ao co O Aq cq Q Am cm M ga gb #[.int .i64 xl, .int .i64 xa, .int .i64 xb, .int .i64 xc, .int .i64 xd] #[.int .i64 y0, .int .i64 y1, .int .i64 y2] ∧ (PB W g17 ⟨0, 0, 0⟩ (.slice Ao k co) (.slice Aq k cq) (.slice Am k cm) ∧ V1.heap.size ≤ g17) ∧ (PB W g18 ⟨0, 0, 0⟩ (.slice Ao k co) (.slice Aq k cq) (.slice Am k cm) ∧ V1.heap.size ≤ g18) ∧ g17 ≠ g18)
      case' use => intro LEM001
      apply share2 (fun W g17 g19 => BS V1 W V1.heap.size k Ao co O Aq cq Q Am cm M ga gb #[.int .i64 xl, .int .i64 xa, .int .i64 xb, .int .i64 xc, .int .i64 xd] #[.int .i64 y0, .int .i64 y1, .int .i64 y2] ∧ (PB W g17 ⟨0, 0, 0⟩ (.slice Ao k co) (.slice Aq k cq) (.slice Am k cm) ∧ V1.heap.size ≤ g17) ∧ (PB W g19 ⟨0, 0, 0⟩ (.slice Ao k co) (.slice Aq k cq) (.slice Am k cm) ∧ V1.heap.size ≤ g19) ∧ g17 ≠ g19)
      case' use => intro LEM002
      apply share2 (fun W g18 g19 => BS V1 W V1.heap.size k Ao co O Aq cq Q Am cm M ga gb #[.int .i64 xl, .int .i64 xa, .int .i64 xb, .int .i64 xc, .int .i64 xd] #[.int .i64 y0, .int .i64 y1, .int .i64 y2] ∧ (PB W g18 ⟨0, 0, 0⟩ (.slice Ao k co) (.slice Aq k cq) (.slice Am k cm) ∧ V1.heap.size ≤ g18) ∧ (PB W g19 ⟨0, 0, 0⟩ (.slice Ao k co) (.slice Aq k cq) (.slice Am k cm) ∧ V1.heap.size ≤ g19) ∧ g18 ≠ g19)
      case' use => intro LEM012
      apply share1 (fun W g17 => BS V1 W V1.heap.size k Ao co O Aq cq Q Am cm M ga gb #[.int .i64 xl, .int .i64 xa, .int .i64 xb, .int .i64 xc, .int .i64 xd] #[.int .i64 y0, .int .i64 y1, .int .i64 y2] ∧ (PB W g17 ⟨0, 0, 0⟩ (.slice Ao k co) (.slice Aq k cq) (.slice Am k cm) ∧ V1.heap.size ≤ g17))
      case' use => intro LEM00
      apply share1 (fun W g18 => BS V1 W V1.heap.size k Ao co O Aq cq Q Am cm M ga gb #[.int .i64 xl, .int .i64 xa, .int .i64 xb, .int .i64 xc, .int .i64 xd] #[.int .i64 y0, .int .i64 y1, .int .i64 y2] ∧ (PB W g18 ⟨0, 0, 0⟩ (.slice Ao k co) (.slice Aq k cq) (.slice Am k cm) ∧ V1.heap.size ≤ g18))
      case' use => intro LEM01
      apply share1 (fun W g19 => BS V1 W V1.heap.size k Ao co O Aq cq Q Am cm M ga gb #[.int .i64 xl, .int .i64 xa, .int .i64 xb, .int .i64 xc, .int .i64 xd] #[.int .i64 y0, .int .i64 y1, .int .i64 y2] ∧ (PB W g19 ⟨0, 0, 0⟩ (.slice Ao k co) (.slice Aq k cq) (.slice Am k cm) ∧ V1.heap.size ≤ g19))
      case' use => intro LEM02
      refine Till.ready (rs := [3, 12, 13, 14]) (by kernel_rfl) (by simp) ?_
      refine TillEach.cons rfl (fun K hK => ?_) ?_
      ·go_simp
       go_wp2_with (go_at_call 13; refine (HCO.out (wC.drew) (HBSC.out.drew).p).mono ?_; rintro e W2 ⟨rfl, hb⟩)
       have hS2 := (HBSC.out.drew).below hb
       refine hK.out _ _ ?_ (fun hh => ?_)
       ·exact ⟨hS2.a.cell 0, hS2.a.cell 1, hS2.a.cell 2, hS2.a.cell 3, hS2.a.cell 4⟩
       clear hK K hb
       (try simp only [Act.put, setIfInBounds_toArray, set_cons_zero, set_cons_succ])
       exact LEM1 W2 hS2
      refine TillEach.cons rfl (fun K hK => ?_) ?_
      ·go_simp
       obtain ⟨W2, hu⟩ : ∃ u, u = (wC.alloc (.cells #[.int .i64 0, .int .i64 0, .int .i64 0] 36)).drew := ⟨_, rfl⟩
       rw [← hu]
       have hS2 := (HBSC.out.alloc (.cells #[.int .i64 0, .int .i64 0, .int .i64 0] 36)).drew
       have hp02 := (PB.new_ HBSC.out.p ⟨0, 0, 0⟩).drew
       obtain ⟨g17, hg⟩ : ∃ g, g = wC.heap.size := ⟨_, rfl⟩
       have hv0 : V1.heap.size ≤ g17 := by rw [hg]; exact HLE.out _ HBSC.out
       rw [← hg] at hp02 ⊢
       rw [← hu] at hS2 hp02
       refine hK.out _ _ ?_ (fun hh => ?_)
       ·exact ⟨hS2.a.cell 0, hS2.a.cell 1, hS2.a.cell 2, hS2.a.cell 3, hS2.a.cell 4⟩
       clear hK K hu hg
       (try simp only [Act.put, setIfInBounds_toArray, set_cons_zero, set_cons_succ])
       exact LEM00 W2 g17 ⟨hS2, ⟨hp02, hv0⟩⟩
      refine TillEach.cons rfl (fun K hK => ?_) ?_
      ·go_simp
       obtain ⟨W2, hu⟩ : ∃ u, u = (wC.alloc (.cells #[.int .i64 0, .int .i64 0, .int .i64 0] 36)).drew := ⟨_, rfl⟩
       rw [← hu]
       have hS2 := (HBSC.out.alloc (.cells #[.int .i64 0, .int .i64 0, .int .i64 0] 36)).drew
       have hp12 := (PB.new_ HBSC.out.p ⟨0, 0, 0⟩).drew
       obtain ⟨g18, hg⟩ : ∃ g, g = wC.heap.size := ⟨_, rfl⟩
       have hv1 : V1.heap.size ≤ g18 := by rw [hg]; exact HLE.out _ HBSC.out
       rw [← hg] at hp12 ⊢
       rw [← hu] at hS2 hp12
       refine hK.out _ _ ?_ (fun hh => ?_)
       ·exact ⟨hS2.a.cell 0, hS2.a.cell 1, hS2.a.cell 2, hS2.a.cell 3, hS2.a.cell 4⟩
       clear hK K hu hg
       (try simp only [Act.put, setIfInBounds_toArray, set_cons_zero, set_cons_succ])
       exact LEM01 W2 g18 ⟨hS2, ⟨hp12, hv1⟩⟩
      refine TillEach.cons rfl (fun K hK => ?_) ?_
      ·go_simp
       obtain ⟨W2, hu⟩ : ∃ u, u = (wC.alloc (.cells #[.int .i64 0, .int .i64 0, .int .i64 0] 36)).drew := ⟨_, rfl⟩
       rw [← hu]
       have hS2 := (HBSC.out.alloc (.cells #[.int .i64 0, .int .i64 0, .int .i64 0] 36)).drew
       have hp22 := (PB.new_ HBSC.out.p ⟨0, 0, 0⟩).drew
       obtain ⟨g19, hg⟩ : ∃ g, g = wC.heap.size := ⟨_, rfl⟩
       have hv2 : V1.heap.size ≤ g19 := by rw [hg]; exact HLE.out _ HBSC.out
       rw [← hg] at hp22 ⊢
       rw [← hu] at hS2 hp22
       refine hK.out _ _ ?_ (fun hh => ?_)
       ·exact ⟨hS2.a.cell 0, hS2.a.cell 1, hS2.a.cell 2, hS2.a.cell 3, hS2.a.cell 4⟩
       clear hK K hu hg
       (try simp only [Act.put, setIfInBounds_toArray, set_cons_zero, set_cons_succ])
       exact LEM02 W2 g19 ⟨hS2, ⟨hp22, hv2⟩⟩
      exact TillEach.nil
      case pf =>
       intro W g19 hF
       obtain ⟨hS, ⟨hp2, hv2⟩⟩ := hF
       refine Till.ready (rs := [3, 12, 13]) (by kernel_rfl) (by simp) ?_
       refine TillEach.cons rfl (fun K hK => ?_) ?_
       ·go_simp
        go_wp2_with (go_at_call 13; refine (HCO.out (W) (hS).p).mono ?_; rintro e W2 ⟨rfl, hb⟩)
        have hS2 := (hS).below hb
        have hp22 := hp2.below hb
        refine hK.out _ _ ?_ (fun hh => ?_)
        ·exact ⟨hS2.a.cell 0, hS2.a.cell 1, hS2.a.cell 2, hS2.a.cell 3, hS2.a.cell 4⟩
        clear hK K hb
        (try simp only [Act.put, setIfInBounds_toArray, set_cons_zero, set_cons_succ])
        exact LEM12 W2 g19 ⟨hS2, ⟨hp22, hv2⟩⟩
       refine TillEach.cons rfl (fun K hK => ?_) ?_
       ·go_simp
        obtain ⟨W2, hu⟩ : ∃ u, u = W.alloc (.cells #[.int .i64 0, .int .i64 0, .int .i64 0] 36) := ⟨_, rfl⟩
        rw [← hu]
        have hS2 := (hS.alloc (.cells #[.int .i64 0, .int .i64 0, .int .i64 0] 36))
        have hp22 := (hp2.alloc (.cells #[.int .i64 0, .int .i64 0, .int .i64 0] 36))
        have hp02 := (PB.new_ hS.p ⟨0, 0, 0⟩)
        obtain ⟨g17, hg⟩ : ∃ g, g = W.heap.size := ⟨_, rfl⟩
        have hn02 : g17 ≠ g19 := Ne.symm (by rw [hg]; exact Nat.ne_of_lt hp2.b.lt)
        have hv0 : V1.heap.size ≤ g17 := by rw [hg]; exact HLE.out _ hS
        rw [← hg] at hp02 ⊢
        rw [← hu] at hS2 hp02 hp22
        refine hK.out _ _ ?_ (fun hh => ?_)
        ·exact ⟨hS2.a.cell 0, hS2.a.cell 1, hS2.a.cell 2, hS2.a.cell 3, hS2.a.cell 4⟩
        clear hK K hu hg
        (try simp only [Act.put, setIfInBounds_toArray, set_cons_zero, set_cons_succ])
        exact LEM002 W2 g17 g19 ⟨hS2, ⟨hp02, hv0⟩, ⟨hp22, hv2⟩, hn02⟩
       refine TillEach.cons rfl (fun K hK => ?_) ?_
       ·go_simp
        obtain ⟨W2, hu⟩ : ∃ u, u = W.alloc (.cells #[.int .i64 0, .int .i64 0, .int .i64 0] 36) := ⟨_, rfl⟩
        rw [← hu]
        have hS2 := (hS.alloc (.cells #[.int .i64 0, .int .i64 0, .int .i64 0] 36))
        have hp22 := (hp2.alloc (.cells #[.int .i64 0, .int .i64 0, .int .i64 0] 36))
        have hp12 := (PB.new_ hS.p ⟨0, 0, 0⟩)
        obtain ⟨g18, hg⟩ : ∃ g, g = W.heap.size := ⟨_, rfl⟩
        have hn12 : g18 ≠ g19 := Ne.symm (by rw [hg]; exact Nat.ne_of_lt hp2.b.lt)
        have hv1 : V1.heap.size ≤ g18 := by rw [hg]; exact HLE.out _ hS
        rw [← hg] at hp12 ⊢
        rw [← hu] at hS2 hp12 hp22
        refine hK.out _ _ ?_ (fun hh => ?_)
        ·exact ⟨hS2.a.cell 0, hS2.a.cell 1, hS2.a.cell 2, hS2.a.cell 3, hS2.a.cell 4⟩
        clear hK K hu hg
        (try simp only [Act.put, setIfInBounds_toArray, set_cons_zero, set_cons_succ])
        exact LEM012 W2 g18 g19 ⟨hS2, ⟨hp12, hv1⟩, ⟨hp22, hv2⟩, hn12⟩
       exact TillEach.nil
      case pf =>
       intro W g18 hF
       obtain ⟨hS, ⟨hp1, hv1⟩⟩ := hF
       refine Till.ready (rs := [3, 12, 14]) (by kernel_rfl) (by simp) ?_
       refine TillEach.cons rfl (fun K hK => ?_) ?_
       ·go_simp
        go_wp2_with (go_at_call 13; refine (HCO.out (W) (hS).p).mono ?_; rintro e W2 ⟨rfl, hb⟩)
        have hS2 := (hS).below hb
        have hp12 := hp1.below hb
        refine hK.out _ _ ?_ (fun hh => ?_)
        ·exact ⟨hS2.a.cell 0, hS2.a.cell 1, hS2.a.cell 2, hS2.a.cell 3, hS2.a.cell 4⟩
        clear hK K hb
        (try simp only [Act.put, setIfInBounds_toArray, set_cons_zero, set_cons_succ])
        exact LEM11 W2 g18 ⟨hS2, ⟨hp12, hv1⟩⟩
       refine TillEach.cons rfl (fun K hK => ?_) ?_
       ·go_simp
        obtain ⟨W2, hu⟩ : ∃ u, u = W.alloc (.cells #[.int .i64 0, .int .i64 0, .int .i64 0] 36) := ⟨_, rfl⟩
        rw [← hu]
        have hS2 := (hS.alloc (.cells #[.int .i64 0, .int .i64 0, .int .i64 0] 36))
        have hp12 := (hp1.alloc (.cells #[.int .i64 0, .int .i64 0, .int .i64 0] 36))
        have hp02 := (PB.new_ hS.p ⟨0, 0, 0⟩)
        obtain ⟨g17, hg⟩ : ∃ g, g = W.heap.size := ⟨_, rfl⟩
        have hn01 : g17 ≠ g18 := Ne.symm (by rw [hg]; exact Nat.ne_of_lt hp1.b.lt)
        have hv0 : V1.heap.size ≤ g17 := by rw [hg]; exact HLE.out _ hS
        rw [← hg] at hp02 ⊢
        rw [← hu] at hS2 hp02 hp12
        refine hK.out _ _ ?_ (fun hh => ?_)
        ·exact ⟨hS2.a.cell 0, hS2.a.cell 1, hS2.a.cell 2, hS2.a.cell 3, hS2.a.cell 4⟩
        clear hK K hu hg
        (try simp only [Act.put, setIfInBounds_toArray, set_cons_zero, set_cons_succ])
        exact LEM001 W2 g17 g18 ⟨hS2, ⟨hp02, hv0⟩, ⟨hp12, hv1⟩, hn01⟩
       refine TillEach.cons rfl (fun K hK => ?_) ?_
       ·go_simp
        obtain ⟨W2, hu⟩ : ∃ u, u = W.alloc (.cells #[.int .i64 0, .int .i64 0, .int .i64 0] 36) := ⟨_, rfl⟩
        rw [← hu]
        have hS2 := (hS.alloc (.cells #[.int .i64 0, .int .i64 0, .int .i64 0] 36))
        have hp12 := (hp1.alloc (.cells #[.int .i64 0, .int .i64 0, .int .i64 0] 36))
        have hp22 := (PB.new_ hS.p ⟨0, 0, 0⟩)
        obtain ⟨g19, hg⟩ : ∃ g, g = W.heap.size := ⟨_, rfl⟩
        have hn12 : g18 ≠ g19 := by rw [hg]; exact Nat.ne_of_lt hp1.b.lt
        have hv2 : V1.heap.size ≤ g19 := by rw [hg]; exact HLE.out _ hS
        rw [← hg] at hp22 ⊢
        rw [← hu] at hS2 hp12 hp22
        refine hK.out _ _ ?_ (fun hh => ?_)
        ·exact ⟨hS2.a.cell 0, hS2.a.cell 1, hS2.a.cell 2, hS2.a.cell 3, hS2.a.cell 4⟩
        clear hK K hu hg
        (try simp only [Act.put, setIfInBounds_toArray, set_cons_zero, set_cons_succ])
        exact LEM012 W2 g18 g19 ⟨hS2, ⟨hp12, hv1⟩, ⟨hp22, hv2⟩, hn12⟩
       exact TillEach.nil
      case pf =>
       intro W g17 hF
       obtain ⟨hS, ⟨hp0, hv0⟩⟩ := hF
       refine Till.ready (rs := [3, 13, 14]) (by kernel_rfl) (by simp) ?_
       refine TillEach.cons rfl (fun K hK => ?_) ?_
       ·go_simp
        go_wp2_with (go_at_call 13; refine (HCO.out (W) (hS).p).mono ?_; rintro e W2 ⟨rfl, hb⟩)
        have hS2 := (hS).below hb
        have hp02 := hp0.below hb
        refine hK.out _ _ ?_ (fun hh => ?_)
        ·exact ⟨hS2.a.cell 0, hS2.a.cell 1, hS2.a.cell 2, hS2.a.cell 3, hS2.a.cell 4⟩
        clear hK K hb
        (try simp only [Act.put, setIfInBounds_toArray, set_cons_zero, set_cons_succ])
        exact LEM10 W2 g17 ⟨hS2, ⟨hp02, hv0⟩⟩
       refine TillEach.cons rfl (fun K hK => ?_) ?_
       ·go_simp
        obtain ⟨W2, hu⟩ : ∃ u, u = W.alloc (.cells #[.int .i64 0, .int .i64 0, .int .i64 0] 36) := ⟨_, rfl⟩
        rw [← hu]
        have hS2 := (hS.alloc (.cells #[.int .i64 0, .int .i64 0, .int .i64 0] 36))
        have hp02 := (hp0.alloc (.cells #[.int .i64 0, .int .i64 0, .int .i64 0] 36))
        have hp12 := (PB.new_ hS.p ⟨0, 0, 0⟩)
        obtain ⟨g18, hg⟩ : ∃ g, g = W.heap.size := ⟨_, rfl⟩
        have hn01 : g17 ≠ g18 := by rw [hg]; exact Nat.ne_of_lt hp0.b.lt
        have hv1 : V1.heap.size ≤ g18 := by rw [hg]; exact HLE.out _ hS
        rw [← hg] at hp12 ⊢
        rw [← hu] at hS2 hp02 hp12
        refine hK.out _ _ ?_ (fun hh => ?_)
        ·exact ⟨hS2.a.cell 0, hS2.a.cell 1, hS2.a.cell 2, hS2.a.cell 3, hS2.a.cell 4⟩
        clear hK K hu hg
        (try simp only [Act.put, setIfInBounds_toArray, set_cons_zero, set_cons_succ])
        exact LEM001 W2 g17 g18 ⟨hS2, ⟨hp02, hv0⟩, ⟨hp12, hv1⟩, hn01⟩
       refine TillEach.cons rfl (fun K hK => ?_) ?_
       ·go_simp
        obtain ⟨W2, hu⟩ : ∃ u, u = W.alloc (.cells #[.int .i64 0, .int .i64 0, .int .i64 0] 36) := ⟨_, rfl⟩
        rw [← hu]
        have hS2 := (hS.alloc (.cells #[.int .i64 0, .int .i64 0, .int .i64 0] 36))
        have hp02 := (hp0.alloc (.cells #[.int .i64 0, .int .i64 0, .int .i64 0] 36))
        have hp22 := (PB.new_ hS.p ⟨0, 0, 0⟩)
        obtain ⟨g19, hg⟩ : ∃ g, g = W.heap.size := ⟨_, rfl⟩
        have hn02 : g17 ≠ g19 := by rw [hg]; exact Nat.ne_of_lt hp0.b.lt
        have hv2 : V1.heap.size ≤ g19 := by rw [hg]; exact HLE.out _ hS
        rw [← hg] at hp22 ⊢
        rw [← hu] at hS2 hp02 hp22
        refine hK.out _ _ ?_ (fun hh => ?_)
        ·exact ⟨hS2.a.cell 0, hS2.a.cell 1, hS2.a.cell 2, hS2.a.cell 3, hS2.a.cell 4⟩
        clear hK K hu hg
        (try simp only [Act.put, setIfInBounds_toArray, set_cons_zero, set_cons_succ])
        exact LEM002 W2 g17 g19 ⟨hS2, ⟨hp02, hv0⟩, ⟨hp22, hv2⟩, hn02⟩
       exact TillEach.nil
      case pf =>
       intro W g18 g19 hF
       obtain ⟨hS, ⟨hp1, hv1⟩, ⟨hp2, hv2⟩, hn12⟩ := hF
       refine Till.ready (rs := [3, 12]) (by kernel_rfl) (by simp) ?_
       refine TillEach.cons rfl (fun K hK => ?_) ?_
       ·go_simp
        go_wp2_with (go_at_call 13; refine (HCO.out (W) (hS).p).mono ?_; rintro e W2 ⟨rfl, hb⟩)
        have hS2 := (hS).below hb
        have hp12 := hp1.below hb
        have hp22 := hp2.below hb
        refine hK.out _ _ ?_ (fun hh => ?_)
        ·exact ⟨hS2.a.cell 0, hS2.a.cell 1, hS2.a.cell 2, hS2.a.cell 3, hS2.a.cell 4⟩
        clear hK K hb
        (try simp only [Act.put, setIfInBounds_toArray, set_cons_zero, set_cons_succ])
        exact LEM112 W2 g18 g19 ⟨hS2, ⟨hp12, hv1⟩, ⟨hp22, hv2⟩, hn12⟩
       refine TillEach.cons rfl (fun K hK => ?_) ?_
       ·go_simp
        obtain ⟨W2, hu⟩ : ∃ u, u = W.alloc (.cells #[.int .i64 0, .int .i64 0, .int .i64 0] 36) := ⟨_, rfl⟩
        rw [← hu]
        have hS2 := (hS.alloc (.cells #[.int .i64 0, .int .i64 0, .int .i64 0] 36))
        have hp12 := (hp1.alloc (.cells #[.int .i64 0, .int .i64 0, .int .i64 0] 36))
        have hp22 := (hp2.alloc (.cells #[.int .i64 0, .int .i64 0, .int .i64 0] 36))
        have hp02 := (PB.new_ hS.p ⟨0, 0, 0⟩)
        obtain ⟨g17, hg⟩ : ∃ g, g = W.heap.size := ⟨_, rfl⟩
        have hn01 : g17 ≠ g18 := Ne.symm (by rw [hg]; exact Nat.ne_of_lt hp1.b.lt)
        have hn02 : g17 ≠ g19 := Ne.symm (by rw [hg]; exact Nat.ne_of_lt hp2.b.lt)
        have hv0 : V1.heap.size ≤ g17 := by rw [hg]; exact HLE.out _ hS
        rw [← hg] at hp02 ⊢
        rw [← hu] at hS2 hp02 hp12 hp22
        refine hK.out _ _ ?_ (fun hh => ?_)
        ·exact ⟨hS2.a.cell 0, hS2.a.cell 1, hS2.a.cell 2, hS2.a.cell 3, hS2.a.cell 4⟩
        clear hK K hu hg
        (try simp only [Act.put, setIfInBounds_toArray, set_cons_zero, set_cons_succ])
        exact LEM0012 W2 g17 g18 g19 ⟨hS2, ⟨hp02, hv0⟩, ⟨hp12, hv1⟩, ⟨hp22, hv2⟩, hn01, hn02, hn12⟩
       exact TillEach.nil
      case pf =>
       intro W g17 g19 hF
       obtain ⟨hS, ⟨hp0, hv0⟩, ⟨hp2, hv2⟩, hn02⟩ := hF
       refine Till.ready (rs := [3, 13]) (by kernel_rfl) (by simp) ?_
       refine TillEach.cons rfl (fun K hK => ?_) ?_
       ·go_simp
        go_wp2_with (go_at_call 13; refine (HCO.out (W) (hS).p).mono ?_; rintro e W2 ⟨rfl, hb⟩)
        have hS2 := (hS).below hb
        have hp02 := hp0.below hb
        have hp22 := hp2.below hb
        refine hK.out _ _ ?_ (fun hh => ?_)
        ·exact ⟨hS2.a.cell 0, hS2.a.cell 1, hS2.a.cell 2, hS2.a.cell 3, hS2.a.cell 4⟩
        clear hK K hb
        (try simp only [Act.put, setIfInBounds_toArray, set_cons_zero, set_cons_succ])
        exact LEM102 W2 g17 g19 ⟨hS2, ⟨hp02, hv0⟩, ⟨hp22, hv2⟩, hn02⟩
       refine TillEach.cons rfl (fun K hK => ?_) ?_
       ·go_simp
        obtain ⟨W2, hu⟩ : ∃ u, u = W.alloc (.cells #[.int .i64 0, .int .i64 0, .int .i64 0] 36) := ⟨_, rfl⟩
        rw [← hu]
        have hS2 := (hS.alloc (.cells #[.int .i64 0, .int .i64 0, .int .i64 0] 36))
        have hp02 := (hp0.alloc (.cells #[.int .i64 0, .int .i64 0, .int .i64 0] 36))
        have hp22 := (hp2.alloc (.cells #[.int .i64 0, .int .i64 0, .int .i64 0] 36))
        have hp12 := (PB.new_ hS.p ⟨0, 0, 0⟩)
        obtain ⟨g18, hg⟩ : ∃ g, g = W.heap.size := ⟨_, rfl⟩
        have hn01 : g17 ≠ g18 := by rw [hg]; exact Nat.ne_of_lt hp0.b.lt
        have hn12 : g18 ≠ g19 := Ne.symm (by rw [hg]; exact Nat.ne_of_lt hp2.b.lt)
        have hv1 : V1.heap.size ≤ g18 := by rw [hg]; exact HLE.out _ hS
        rw [← hg] at hp12 ⊢
        rw [← hu] at hS2 hp02 hp12 hp22
        refine hK.out _ _ ?_ (fun hh => ?_)
        ·exact ⟨hS2.a.cell 0, hS2.a.cell 1, hS2.a.cell 2, hS2.a.cell 3, hS2.a.cell 4⟩
        clear hK K hu hg
        (try simp only [Act.put, setIfInBounds_toArray, set_cons_zero, set_cons_succ])
        exact LEM0012 W2 g17 g18 g19 ⟨hS2, ⟨hp02, hv0⟩, ⟨hp12, hv1⟩, ⟨hp22, hv2⟩, hn01, hn02, hn12⟩
       exact TillEach.nil
      case pf =>
       intro W g17 g18 hF
       obtain ⟨hS, ⟨hp0, hv0⟩, ⟨hp1, hv1⟩, hn01⟩ := hF
       refine Till.ready (rs := [3, 14]) (by kernel_rfl) (by simp) ?_
       refine TillEach.cons rfl (fun K hK => ?_) ?_
       ·go_simp
        go_wp2_with (go_at_call 13; refine (HCO.out (W) (hS).p).mono ?_; rintro e W2 ⟨rfl, hb⟩)
        have hS2 := (hS).below hb
        have hp02 := hp0.below hb
        have hp12 := hp1.below hb
        refine hK.out _ _ ?_ (fun hh => ?_)
        ·exact ⟨hS2.a.cell 0, hS2.a.cell 1, hS2.a.cell 2, hS2.a.cell 3, hS2.a.cell 4⟩
        clear hK K hb
        (try simp only [Act.put, setIfInBounds_toArray, set_cons_zero, set_cons_succ])
        exact LEM101 W2 g17 g18 ⟨hS2, ⟨hp02, hv0⟩, ⟨hp12, hv1⟩, hn01⟩
       refine TillEach.cons rfl (fun K hK => ?_) ?_
       ·go_simp
        obtain ⟨W2, hu⟩ : ∃ u, u = W.alloc (.cells #[.int .i64 0, .int .i64 0, .int .i64 0] 36) := ⟨_, rfl⟩
        rw [← hu]
        have hS2 := (hS.alloc (.cells #[.int .i64 0, .int .i64 0, .int .i64 0] 36))
        have hp02 := (hp0.alloc (.cells #[.int .i64 0, .int .i64 0, .int .i64 0] 36))
        have hp12 := (hp1.alloc (.cells #[.int .i64 0, .int .i64 0, .int .i64 0] 36))
        have hp22 := (PB.new_ hS.p ⟨0, 0, 0⟩)
        obtain ⟨g19, hg⟩ : ∃ g, g = W.heap.size := ⟨_, rfl⟩
        have hn02 : g17 ≠ g19 := by rw [hg]; exact Nat.ne_of_lt hp0.b.lt
        have hn12 : g18 ≠ g19 := by rw [hg]; exact Nat.ne_of_lt hp1.b.lt
        have hv2 : V1.heap.size ≤ g19 := by rw [hg]; exact HLE.out _ hS
        rw [← hg] at hp22 ⊢
        rw [← hu] at hS2 hp02 hp12 hp22
        refine hK.out _ _ ?_ (fun hh => ?_)
        ·exact ⟨hS2.a.cell 0, hS2.a.cell 1, hS2.a.cell 2, hS2.a.cell 3, hS2.a.cell 4⟩
        clear hK K hu hg
        (try simp only [Act.put, setIfInBounds_toArray, set_cons_zero, set_cons_succ])
        exact LEM0012 W2 g17 g18 g19 ⟨hS2, ⟨hp02, hv0⟩, ⟨hp12, hv1⟩, ⟨hp22, hv2⟩, hn01, hn02, hn12⟩
       exact TillEach.nil
      case pf =>
       intro W g17 g18 g19 hF
       obtain ⟨hS, ⟨hp0, hv0⟩, ⟨hp1, hv1⟩, ⟨hp2, hv2⟩, hn01, hn02, hn12⟩ := hF
       refine Till.ready (rs := [3]) (by kernel_rfl) (by simp) ?_
       refine TillEach.cons rfl (fun K hK => ?_) ?_
       ·go_simp
        go_wp2_with (go_at_call 13; refine (HCO.out (W) (hS).p).mono ?_; rintro e W2 ⟨rfl, hb⟩)
        have hS2 := (hS).below hb
        have hp02 := hp0.below hb
        have hp12 := hp1.below hb
        have hp22 := hp2.below hb
        refine hK.out _ _ ?_ (fun hh => ?_)
        ·exact ⟨hS2.a.cell 0, hS2.a.cell 1, hS2.a.cell 2, hS2.a.cell 3, hS2.a.cell 4⟩
        clear hK K hb
        (try simp only [Act.put, setIfInBounds_toArray, set_cons_zero, set_cons_succ])
        exact LEM1012 W2 g17 g18 g19 ⟨hS2, ⟨hp02, hv0⟩, ⟨hp12, hv1⟩, ⟨hp22, hv2⟩, hn01, hn02, hn12⟩
       exact TillEach.nil
      case pf =>
       intro W hS
       refine Till.ready (rs := [7, 12, 13, 14]) (by kernel_rfl) (by simp) ?_
       refine TillEach.cons rfl (fun K hK => ?_) ?_
       ·go_simp
        go_wp2_with (go_at_call 13; refine (HCQ.out (W) (hS).p).mono ?_; rintro e W2 ⟨rfl, hb⟩)
        have hS2 := (hS).below hb
        refine hK.out _ _ ?_ (fun hh => ?_)
        ·exact ⟨hS2.a.cell 0, hS2.a.cell 1, hS2.a.cell 2, hS2.a.cell 3, hS2.a.cell 4⟩
        clear hK K hb
        (try simp only [Act.put, setIfInBounds_toArray, set_cons_zero, set_cons_succ])
        exact LEM2 W2 hS2
       refine TillEach.cons rfl (fun K hK => ?_) ?_
       ·go_simp
        obtain ⟨W2, hu⟩ : ∃ u, u = W.alloc (.cells #[.int .i64 0, .int .i64 0, .int .i64 0] 36) := ⟨_, rfl⟩
        rw [← hu]
        have hS2 := (hS.alloc (.cells #[.int .i64 0, .int .i64 0, .int .i64 0] 36))
        have hp02 := (PB.new_ hS.p ⟨0, 0, 0⟩)
        obtain ⟨g17, hg⟩ : ∃ g, g = W.heap.size := ⟨_, rfl⟩
        have hv0 : V1.heap.size ≤ g17 := by rw [hg]; exact HLE.out _ hS
        rw [← hg] at hp02 ⊢
        rw [← hu] at hS2 hp02
        refine hK.out _ _ ?_ (fun hh => ?_)
        ·exact ⟨hS2.a.cell 0, hS2.a.cell 1, hS2.a.cell 2, hS2.a.cell 3, hS2.a.cell 4⟩
        clear hK K hu hg
        (try simp only [Act.put, setIfInBounds_toArray, set_cons_zero, set_cons_succ])
        exact LEM10 W2 g17 ⟨hS2, ⟨hp02, hv0⟩⟩
       refine TillEach.cons rfl (fun K hK => ?_) ?_
       ·go_simp
        obtain ⟨W2, hu⟩ : ∃ u, u = W.alloc (.cells #[.int .i64 0, .int .i64 0, .int .i64 0] 36) := ⟨_, rfl⟩
        rw [← hu]
        have hS2 := (hS.alloc (.cells #[.int .i64 0, .int .i64 0, .int .i64 0] 36))
        have hp12 := (PB.new_ hS.p ⟨0, 0, 0⟩)
        obtain ⟨g18, hg⟩ : ∃ g, g = W.heap.size := ⟨_, rfl⟩
        have hv1 : V1.heap.size ≤ g18 := by rw [hg]; exact HLE.out _ hS
        rw [← hg] at hp12 ⊢
        rw [← hu] at hS2 hp12
        refine hK.out _ _ ?_ (fun hh => ?_)
        ·exact ⟨hS2.a.cell 0, hS2.a.cell 1, hS2.a.cell 2, hS2.a.cell 3, hS2.a.cell 4⟩
        clear hK K hu hg
        (try simp only [Act.put, setIfInBounds_toArray, set_cons_zero, set_cons_succ])
        exact LEM11 W2 g18 ⟨hS2, ⟨hp12, hv1⟩⟩
       refine TillEach.cons rfl (fun K hK => ?_) ?_
       ·go_simp
        obtain ⟨W2, hu⟩ : ∃ u, u = W.alloc (.cells #[.int .i64 0, .int .i64 0, .int .i64 0] 36) := ⟨_, rfl⟩
        rw [← hu]
        have hS2 := (hS.alloc (.cells #[.int .i64 0, .int .i64 0, .int .i64 0] 36))
        have hp22 := (PB.new_ hS.p ⟨0, 0, 0⟩)
        obtain ⟨g19, hg⟩ : ∃ g, g = W.heap.size := ⟨_, rfl⟩
        have hv2 : V1.heap.size ≤ g19 := by rw [hg]; exact HLE.out _ hS
        rw [← hg] at hp22 ⊢
        rw [← hu] at hS2 hp22
        refine hK.out _ _ ?_ (fun hh => ?_)
        ·exact ⟨hS2.a.cell 0, hS2.a.cell 1, hS2.a.cell 2, hS2.a.cell 3, hS2.a.cell 4⟩
        clear hK K hu hg
        (try simp only [Act.put, setIfInBounds_toArray, set_cons_zero, set_cons_succ])
        exact LEM12 W2 g19 ⟨hS2, ⟨hp22, hv2⟩⟩
       exact TillEach.nil
      case pf =>
       intro W g19 hF
       obtain ⟨hS, ⟨hp2, hv2⟩⟩ := hF
       refine Till.ready (rs := [7, 12, 13]) (by kernel_rfl) (by simp) ?_
       refine TillEach.cons rfl (fun K hK => ?_) ?_
       ·go_simp
        go_wp2_with (go_at_call 13; refine (HCQ.out (W) (hS).p).mono ?_; rintro e W2 ⟨rfl, hb⟩)
        have hS2 := (hS).below hb
        have hp22 := hp2.below hb
        refine hK.out _ _ ?_ (fun hh => ?_)
        ·exact ⟨hS2.a.cell 0, hS2.a.cell 1, hS2.a.cell 2, hS2.a.cell 3, hS2.a.cell 4⟩
        clear hK K hb
        (try simp only [Act.put, setIfInBounds_toArray, set_cons_zero, set_cons_succ])
        exact LEM22 W2 g19 ⟨hS2, ⟨hp22, hv2⟩⟩
       refine TillEach.cons rfl (fun K hK => ?_) ?_
       ·go_simp
        obtain ⟨W2, hu⟩ : ∃ u, u = W.alloc (.cells #[.int .i64 0, .int .i64 0, .int .i64 0] 36) := ⟨_, rfl⟩
        rw [← hu]
        have hS2 := (hS.alloc (.cells #[.int .i64 0, .int .i64 0, .int .i64 0] 36))
        have hp22 := (hp2.alloc (.cells #[.int .i64 0, .int .i64 0, .int .i64 0] 36))
        have hp02 := (PB.new_ hS.p ⟨0, 0, 0⟩)
        obtain ⟨g17, hg⟩ : ∃ g, g = W.heap.size := ⟨_, rfl⟩
        have hn02 : g17 ≠ g19 := Ne.symm (by rw [hg]; exact Nat.ne_of_lt hp2.b.lt)
        have hv0 : V1.heap.size ≤ g17 := by rw [hg]; exact HLE.out _ hS
        rw [← hg] at hp02 ⊢
        rw [← hu] at hS2 hp02 hp22
        refine hK.out _ _ ?_ (fun hh => ?_)
        ·exact ⟨hS2.a.cell 0, hS2.a.cell 1, hS2.a.cell 2, hS2.a.cell 3, hS2.a.cell 4⟩
        clear hK K hu hg
        (try simp only [Act.put, setIfInBounds_toArray, set_cons_zero, set_cons_succ])
        exact LEM102 W2 g17 g19 ⟨hS2, ⟨hp02, hv0⟩, ⟨hp22, hv2⟩, hn02⟩
       refine TillEach.cons rfl (fun K hK => ?_) ?_
       ·go_simp
        obtain ⟨W2, hu⟩ : ∃ u, u = W.alloc (.cells #[.int .i64 0, .int .i64 0, .int .i64 0] 36) := ⟨_, rfl⟩
        rw [← hu]
        have hS2 := (hS.alloc (.cells #[.int .i64 0, .int .i64 0, .int .i64 0] 36))
        have hp22 := (hp2.alloc (.cells #[.int .i64 0, .int .i64 0, .int .i64 0] 36))
        have hp12 := (PB.new_ hS.p ⟨0, 0, 0⟩)
        obtain ⟨g18, hg⟩ : ∃ g, g = W.heap.size := ⟨_, rfl⟩
        have hn12 : g18 ≠ g19 := Ne.symm (by rw [hg]; exact Nat.ne_of_lt hp2.b.lt)
        have hv1 : V1.heap.size ≤ g18 := by rw [hg]; exact HLE.out _ hS
        rw [← hg] at hp12 ⊢
        rw [← hu] at hS2 hp12 hp22
        refine hK.out _ _ ?_ (fun hh => ?_)
        ·exact ⟨hS2.a.cell 0, hS2.a.cell 1, hS2.a.cell 2, hS2.a.cell 3, hS2.a.cell 4⟩
        clear hK K hu hg
        (try simp only [Act.put, setIfInBounds_toArray, set_cons_zero, set_cons_succ])
        exact LEM112 W2 g18 g19 ⟨hS2, ⟨hp12, hv1⟩, ⟨hp22, hv2⟩, hn12⟩
       exact TillEach.nil
      case pf =>
       intro W g18 hF
       obtain ⟨hS, ⟨hp1, hv1⟩⟩ := hF
       refine Till.ready (rs := [7, 12, 14]) (by kernel_rfl) (by simp) ?_
       refine TillEach.cons rfl (fun K hK => ?_) ?_
       ·go_simp
        go_wp2_with (go_at_call 13; refine (HCQ.out (W) (hS).p).mono ?_; rintro e W2 ⟨rfl, hb⟩)
        have hS2 := (hS).below hb
        have hp12 := hp1.below hb
        refine hK.out _ _ ?_ (fun hh => ?_)
        ·exact ⟨hS2.a.cell 0, hS2.a.cell 1, hS2.a.cell 2, hS2.a.cell 3, hS2.a.cell 4⟩
        clear hK K hb
        (try simp only [Act.put, setIfInBounds_toArray, set_cons_zero, set_cons_succ])
        exact LEM21 W2 g18 ⟨hS2, ⟨hp12, hv1⟩⟩
       refine TillEach.cons rfl (fun K hK => ?_) ?_
       ·go_simp
        obtain ⟨W2, hu⟩ : ∃ u, u = W.alloc (.cells #[.int .i64 0, .int .i64 0, .int .i64 0] 36) := ⟨_, rfl⟩
        rw [← hu]
        have hS2 := (hS.alloc (.cells #[.int .i64 0, .int .i64 0, .int .i64 0] 36))
        have hp12 := (hp1.alloc (.cells #[.int .i64 0, .int .i64 0, .int .i64 0] 36))
        have hp02 := (PB.new_ hS.p ⟨0, 0, 0⟩)
        obtain ⟨g17, hg⟩ : ∃ g, g = W.heap.size := ⟨_, rfl⟩
        have hn01 : g17 ≠ g18 := Ne.symm (by rw [hg]; exact Nat.ne_of_lt hp1.b.lt)
        have hv0 : V1.heap.size ≤ g17 := by rw [hg]; exact HLE.out _ hS
        rw [← hg] at hp02 ⊢
        rw [← hu] at hS2 hp02 hp12
        refine hK.out _ _ ?_ (fun hh => ?_)
        ·exact ⟨hS2.a.cell 0, hS2.a.cell 1, hS2.a.cell 2, hS2.a.cell 3, hS2.a.cell 4⟩
        clear hK K hu hg
        (try simp only [Act.put, setIfInBounds_toArray, set_cons_zero, set_cons_succ])
        exact LEM101 W2 g17 g18 ⟨hS2, ⟨hp02, hv0⟩, ⟨hp12, hv1⟩, hn01⟩
       refine TillEach.cons rfl (fun K hK => ?_) ?_
       ·go_simp
        obtain ⟨W2, hu⟩ : ∃ u, u = W.alloc (.cells #[.int .i64 0, .int .i64 0, .int .i64 0] 36) := ⟨_, rfl⟩
        rw [← hu]
        have hS2 := (hS.alloc (.cells #[.int .i64 0, .int .i64 0, .int .i64 0] 36))
        have hp12 := (hp1.alloc (.cells #[.int .i64 0, .int .i64 0, .int .i64 0] 36))
        have hp22 := (PB.new_ hS.p ⟨0, 0, 0⟩)
        obtain ⟨g19, hg⟩ : ∃ g, g = W.heap.size := ⟨_, rfl⟩
        have hn12 : g18 ≠ g19 := by rw [hg]; exact Nat.ne_of_lt hp1.b.lt
        have hv2 : V1.heap.size ≤ g19 := by rw [hg]; exact HLE.out _ hS
        rw [← hg] at hp22 ⊢
        rw [← hu] at hS2 hp12 hp22
        refine hK.out _ _ ?_ (fun hh => ?_)
        ·exact ⟨hS2.a.cell 0, hS2.a.cell 1, hS2.a.cell 2, hS2.a.cell 3, hS2.a.cell 4⟩
        clear hK K hu hg
        (try simp only [Act.put, setIfInBounds_toArray, set_cons_zero, set_cons_succ])
        exact LEM112 W2 g18 g19 ⟨hS2, ⟨hp12, hv1⟩, ⟨hp22, hv2⟩, hn12⟩
       exact TillEach.nil
      case pf =>
       intro W g17 hF
       obtain ⟨hS, ⟨hp0, hv0⟩⟩ := hF
       refine Till.ready (rs := [7, 13, 14]) (by kernel_rfl) (by simp) ?_
       refine TillEach.cons rfl (fun K hK => ?_) ?_
       ·go_simp
        go_wp2_with (go_at_call 13; refine (HCQ.out (W) (hS).p).mono ?_; rintro e W2 ⟨rfl, hb⟩)
        have hS2 := (hS).below hb
        have hp02 := hp0.below hb
        refine hK.out _ _ ?_ (fun hh => ?_)
        ·exact ⟨hS2.a.cell 0, hS2.a.cell 1, hS2.a.cell 2, hS2.a.cell 3, hS2.a.cell 4⟩
        clear hK K hb
        (try simp only [Act.put, setIfInBounds_toArray, set_cons_zero, set_cons_succ])
        exact LEM20 W2 g17 ⟨hS2, ⟨hp02, hv0⟩⟩
       refine TillEach.cons rfl (fun K hK => ?_) ?_
       ·go_simp
        obtain ⟨W2, hu⟩ : ∃ u, u = W.alloc (.cells #[.int .i64 0, .int .i64 0, .int .i64 0] 36) := ⟨_, rfl⟩
        rw [← hu]
        have hS2 := (hS.alloc (.cells #[.int .i64 0, .int .i64 0, .int .i64 0] 36))
        have hp02 := (hp0.alloc (.cells #[.int .i64 0, .int .i64 0, .int .i64 0] 36))
        have hp12 := (PB.new_ hS.p ⟨0, 0, 0⟩)
        obtain ⟨g18, hg⟩ : ∃ g, g = W.heap.size := ⟨_, rfl⟩
        have hn01 : g17 ≠ g18 := by rw [hg]; exact Nat.ne_of_lt hp0.b.lt
        have hv1 : V1.heap.size ≤ g18 := by rw [hg]; exact HLE.out _ hS
        rw [← hg] at hp12 ⊢
        rw [← hu] at hS2 hp02 hp12
        refine hK.out _ _ ?_ (fun hh => ?_)
        ·exact ⟨hS2.a.cell 0, hS2.a.cell 1, hS2.a.cell 2, hS2.a.cell 3, hS2.a.cell 4⟩
        clear hK K hu hg
        (try simp only [Act.put, setIfInBounds_toArray, set_cons_zero, set_cons_succ])
        exact LEM101 W2 g17 g18 ⟨hS2, ⟨hp02, hv0⟩, ⟨hp12, hv1⟩, hn01⟩
       refine TillEach.cons rfl (fun K hK => ?_) ?_
       ·go_simp
        obtain ⟨W2, hu⟩ : ∃ u, u = W.alloc (.cells #[.int .i64 0, .int .i64 0, .int .i64 0] 36) := ⟨_, rfl⟩
        rw [← hu]
        have hS2 := (hS.alloc (.cells #[.int .i64 0, .int .i64 0, .int .i64 0] 36))
        have hp02 := (hp0.alloc (.cells #[.int .i64 0, .int .i64 0, .int .i64 0] 36))
        have hp22 := (PB.new_ hS.p ⟨0, 0, 0⟩)
        obtain ⟨g19, hg⟩ : ∃ g, g = W.heap.size := ⟨_, rfl⟩
        have hn02 : g17 ≠ g19 := by rw [hg]; exact Nat.ne_of_lt hp0.b.lt
        have hv2 : V1.heap.size ≤ g19 := by rw [hg]; exact HLE.out _ hS
        rw [← hg] at hp22 ⊢
        rw [← hu] at hS2 hp02 hp22
        refine hK.out _ _ ?_ (fun hh => ?_)
        ·exact ⟨hS2.a.cell 0, hS2.a.cell 1, hS2.a.cell 2, hS2.a.cell 3, hS2.a.cell 4⟩
        clear hK K hu hg
        (try simp only [Act.put, setIfInBounds_toArray, set_cons_zero, set_cons_succ])
        exact LEM102 W2 g17 g19 ⟨hS2, ⟨hp02, hv0⟩, ⟨hp22, hv2⟩, hn02⟩
       exact TillEach.nil
      case pf =>
       intro W g18 g19 hF
       obtain ⟨hS, ⟨hp1, hv1⟩, ⟨hp2, hv2⟩, hn12⟩ := hF
       refine Till.ready (rs := [7, 12]) (by kernel_rfl) (by simp) ?_
       refine TillEach.cons rfl (fun K hK => ?_) ?_
       ·go_simp
        go_wp2_with (go_at_call 13; refine (HCQ.out (W) (hS).p).mono ?_; rintro e W2 ⟨rfl, hb⟩)
        have hS2 := (hS).below hb
        have hp12 := hp1.below hb
        have hp22 := hp2.below hb
        refine hK.out _ _ ?_ (fun hh => ?_)
        ·exact ⟨hS2.a.cell 0, hS2.a.cell 1, hS2.a.cell 2, hS2.a.cell 3, hS2.a.cell 4⟩
        clear hK K hb
        (try simp only [Act.put, setIfInBounds_toArray, set_cons_zero, set_cons_succ])
        exact LEM212 W2 g18 g19 ⟨hS2, ⟨hp12, hv1⟩, ⟨hp22, hv2⟩, hn12⟩
       refine TillEach.cons rfl (fun K hK => ?_) ?_
       ·go_simp
        obtain ⟨W2, hu⟩ : ∃ u, u = W.alloc (.cells #[.int .i64 0, .int .i64 0, .int .i64 0] 36) := ⟨_, rfl⟩
        rw [← hu]
        have hS2 := (hS.alloc (.cells #[.int .i64 0, .int .i64 0, .int .i64 0] 36))
        have hp12 := (hp1.alloc (.cells #[.int .i64 0, .int .i64 0, .int .i64 0] 36))
        have hp22 := (hp2.alloc (.cells #[.int .i64 0, .int .i64 0, .int .i64 0] 36))
        have hp02 := (PB.new_ hS.p ⟨0, 0, 0⟩)
        obtain ⟨g17, hg⟩ : ∃ g, g = W.heap.size := ⟨_, rfl⟩
        have hn01 : g17 ≠ g18 := Ne.symm (by rw [hg]; exact Nat.ne_of_lt hp1.b.lt)
        have hn02 : g17 ≠ g19 := Ne.symm (by rw [hg]; exact Nat.ne_of_lt hp2.b.lt)
        have hv0 : V1.heap.size ≤ g17 := by rw [hg]; exact HLE.out _ hS
        rw [← hg] at hp02 ⊢
        rw [← hu] at hS2 hp02 hp12 hp22
        refine hK.out _ _ ?_ (fun hh => ?_)
        ·exact ⟨hS2.a.cell 0, hS2.a.cell 1, hS2.a.cell 2, hS2.a.cell 3, hS2.a.cell 4⟩
        clear hK K hu hg
        (try simp only [Act.put, setIfInBounds_toArray, set_cons_zero, set_cons_succ])
        exact LEM1012 W2 g17 g18 g19 ⟨hS2, ⟨hp02, hv0⟩, ⟨hp12, hv1⟩, ⟨hp22, hv2⟩, hn01, hn02, hn12⟩
       exact TillEach.nil
      case pf =>
       intro W g17 g19 hF
       obtain ⟨hS, ⟨hp0, hv0⟩, ⟨hp2, hv2⟩, hn02⟩ := hF
       refine Till.ready (rs := [7, 13]) (by kernel_rfl) (by simp) ?_
       refine TillEach.cons rfl (fun K hK => ?_) ?_
       ·go_simp
        go_wp2_with (go_at_call 13; refine (HCQ.out (W) (hS).p).mono ?_; rintro e W2 ⟨rfl, hb⟩)
        have hS2 := (hS).below hb
        have hp02 := hp0.below hb
        have hp22 := hp2.below hb
        refine hK.out _ _ ?_ (fun hh => ?_)
        ·exact ⟨hS2.a.cell 0, hS2.a.cell 1, hS2.a.cell 2, hS2.a.cell 3, hS2.a.cell 4⟩
        clear hK K hb
        (try simp only [Act.put, setIfInBounds_toArray, set_cons_zero, set_cons_succ])
        exact LEM202 W2 g17 g19 ⟨hS2, ⟨hp02, hv0⟩, ⟨hp22, hv2⟩, hn02⟩
       refine TillEach.cons rfl (fun K hK => ?_) ?_
       ·go_simp
        obtain ⟨W2, hu⟩ : ∃ u, u = W.alloc (.cells #[.int .i64 0, .int .i64 0, .int .i64 0] 36) := ⟨_, rfl⟩
        rw [← hu]
        have hS2 := (hS.alloc (.cells #[.int .i64 0, .int .i64 0, .int .i64 0] 36))
        have hp02 := (hp0.alloc (.cells #[.int .i64 0, .int .i64 0, .int .i64 0] 36))
        have hp22 := (hp2.alloc (.cells #[.int .i64 0, .int .i64 0, .int .i64 0] 36))
        have hp12 := (PB.new_ hS.p ⟨0, 0, 0⟩)
        obtain ⟨g18, hg⟩ : ∃ g, g = W.heap.size := ⟨_, rfl⟩
        have hn01 : g17 ≠ g18 := by rw [hg]; exact Nat.ne_of_lt hp0.b.lt
        have hn12 : g18 ≠ g19 := Ne.symm (by rw [hg]; exact Nat.ne_of_lt hp2.b.lt)
        have hv1 : V1.heap.size ≤ g18 := by rw [hg]; exact HLE.out _ hS
        rw [← hg] at hp12 ⊢
        rw [← hu] at hS2 hp02 hp12 hp22
        refine hK.out _ _ ?_ (fun hh => ?_)
        ·exact ⟨hS2.a.cell 0, hS2.a.cell 1, hS2.a.cell 2, hS2.a.cell 3, hS2.a.cell 4⟩
        clear hK K hu hg
        (try simp only [Act.put, setIfInBounds_toArray, set_cons_zero, set_cons_succ])
        exact LEM1012 W2 g17 g18 g19 ⟨hS2, ⟨hp02, hv0⟩, ⟨hp12, hv1⟩, ⟨hp22, hv2⟩, hn01, hn02, hn12⟩
       exact TillEach.nil
      case pf =>
       intro W g17 g18 hF
       obtain ⟨hS, ⟨hp0, hv0⟩, ⟨hp1, hv1⟩, hn01⟩ := hF
       refine Till.ready (rs := [7, 14]) (by kernel_rfl) (by simp) ?_
       refine TillEach.cons rfl (fun K hK => ?_) ?_
       ·go_simp
        go_wp2_with (go_at_call 13; refine (HCQ.out (W) (hS).p).mono ?_; rintro e W2 ⟨rfl, hb⟩)
        have hS2 := (hS).below hb
        have hp02 := hp0.below hb
        have hp12 := hp1.below hb
        refine hK.out _ _ ?_ (fun hh => ?_)
        ·exact ⟨hS2.a.cell 0, hS2.a.cell 1, hS2.a.cell 2, hS2.a.cell 3, hS2.a.cell 4⟩
        clear hK K hb
        (try simp only [Act.put, setIfInBounds_toArray, set_cons_zero, set_cons_succ])
        exact LEM201 W2 g17 g18 ⟨hS2, ⟨hp02, hv0⟩, ⟨hp12, hv1⟩, hn01⟩
       refine TillEach.cons rfl (fun K hK => ?_) ?_
       ·go_simp
        obtain ⟨W2, hu⟩ : ∃ u, u = W.alloc (.cells #[.int .i64 0, .int .i64 0, .int .i64 0] 36) := ⟨_, rfl⟩
        rw [← hu]
        have hS2 := (hS.alloc (.cells #[.int .i64 0, .int .i64 0, .int .i64 0] 36))
        have hp02 := (hp0.alloc (.cells #[.int .i64 0, .int .i64 0, .int .i64 0] 36))
        have hp12 := (hp1.alloc (.cells #[.int .i64 0, .int .i64 0, .int .i64 0] 36))
        have hp22 := (PB.new_ hS.p ⟨0, 0, 0⟩)
        obtain ⟨g19, hg⟩ : ∃ g, g = W.heap.size := ⟨_, rfl⟩
        have hn02 : g17 ≠ g19 := by rw [hg]; exact Nat.ne_of_lt hp0.b.lt
        have hn12 : g18 ≠ g19 := by rw [hg]; exact Nat.ne_of_lt hp1.b.lt
        have hv2 : V1.heap.size ≤ g19 := by rw [hg]; exact HLE.out _ hS
        rw [← hg] at hp22 ⊢
        rw [← hu] at hS2 hp02 hp12 hp22
        refine hK.out _ _ ?_ (fun hh => ?_)
        ·exact ⟨hS2.a.cell 0, hS2.a.cell 1, hS2.a.cell 2, hS2.a.cell 3, hS2.a.cell 4⟩
        clear hK K hu hg
        (try simp only [Act.put, setIfInBounds_toArray, set_cons_zero, set_cons_succ])
        exact LEM1012 W2 g17 g18 g19 ⟨hS2, ⟨hp02, hv0⟩, ⟨hp12, hv1⟩, ⟨hp22, hv2⟩, hn01, hn02, hn12⟩
       exact TillEach.nil
      case pf =>
       intro W g17 g18 g19 hF
       obtain ⟨hS, ⟨hp0, hv0⟩, ⟨hp1, hv1⟩, ⟨hp2, hv2⟩, hn01, hn02, hn12⟩ := hF
       refine Till.ready (rs := [7]) (by kernel_rfl) (by simp) ?_
       refine TillEach.cons rfl (fun K hK => ?_) ?_
       ·go_simp
        go_wp2_with (go_at_call 13; refine (HCQ.out (W) (hS).p).mono ?_; rintro e W2 ⟨rfl, hb⟩)
        have hS2 := (hS).below hb
        have hp02 := hp0.below hb
        have hp12 := hp1.below hb
        have hp22 := hp2.below hb
        refine hK.out _ _ ?_ (fun hh => ?_)
        ·exact ⟨hS2.a.cell 0, hS2.a.cell 1, hS2.a.cell 2, hS2.a.cell 3, hS2.a.cell 4⟩
        clear hK K hb
        (try simp only [Act.put, setIfInBounds_toArray, set_cons_zero, set_cons_succ])
        exact LEM2012 W2 g17 g18 g19 ⟨hS2, ⟨hp02, hv0⟩, ⟨hp12, hv1⟩, ⟨hp22, hv2⟩, hn01, hn02, hn12⟩
       exact TillEach.nil
      case pf =>
       intro W hS
       refine Till.ready (rs := [11, 12, 13, 14]) (by kernel_rfl) (by simp) ?_
       refine TillEach.cons rfl (fun K hK => ?_) ?_
       ·go_simp
        go_wp2_with (go_at_call 13; refine (HCM.out (W) (hS).p).mono ?_; rintro e W2 ⟨rfl, hb⟩)
        have hS2 := (hS).below hb
        refine hK.out _ _ ?_ (fun hh => ?_)
        ·exact ⟨hS2.a.cell 0, hS2.a.cell 1, hS2.a.cell 2, hS2.a.cell 3, hS2.a.cell 4⟩
        clear hK K hb
        (try simp only [Act.put, setIfInBounds_toArray, set_cons_zero, set_cons_succ])
        exact LEM3 W2 hS2
       refine TillEach.cons rfl (fun K hK => ?_) ?_
       ·go_simp
        obtain ⟨W2, hu⟩ : ∃ u, u = W.alloc (.cells #[.int .i64 0, .int .i64 0, .int .i64 0] 36) := ⟨_, rfl⟩
        rw [← hu]
        have hS2 := (hS.alloc (.cells #[.int .i64 0, .int .i64 0, .int .i64 0] 36))
        have hp02 := (PB.new_ hS.p ⟨0, 0, 0⟩)
        obtain ⟨g17, hg⟩ : ∃ g, g = W.heap.size := ⟨_, rfl⟩
        have hv0 : V1.heap.size ≤ g17 := by rw [hg]; exact HLE.out _ hS
        rw [← hg] at hp02 ⊢
        rw [← hu] at hS2 hp02
        refine hK.out _ _ ?_ (fun hh => ?_)
        ·exact ⟨hS2.a.cell 0, hS2.a.cell 1, hS2.a.cell 2, hS2.a.cell 3, hS2.a.cell 4⟩
        clear hK K hu hg
        (try simp only [Act.put, setIfInBounds_toArray, set_cons_zero, set_cons_succ])
        exact LEM20 W2 g17 ⟨hS2, ⟨hp02, hv0⟩⟩
       refine TillEach.cons rfl (fun K hK => ?_) ?_
       ·go_simp
        obtain ⟨W2, hu⟩ : ∃ u, u = W.alloc (.cells #[.int .i64 0, .int .i64 0, .int .i64 0] 36) := ⟨_, rfl⟩
        rw [← hu]
        have hS2 := (hS.alloc (.cells #[.int .i64 0, .int .i64 0, .int .i64 0] 36))
        have hp12 := (PB.new_ hS.p ⟨0, 0, 0⟩)
        obtain ⟨g18, hg⟩ : ∃ g, g = W.heap.size := ⟨_, rfl⟩
        have hv1 : V1.heap.size ≤ g18 := by rw [hg]; exact HLE.out _ hS
        rw [← hg] at hp12 ⊢
        rw [← hu] at hS2 hp12
        refine hK.out _ _ ?_ (fun hh => ?_)
        ·exact ⟨hS2.a.cell 0, hS2.a.cell 1, hS2.a.cell 2, hS2.a.cell 3, hS2.a.cell 4⟩
        clear hK K hu hg
        (try simp only [Act.put, setIfInBounds_toArray, set_cons_zero, set_cons_succ])
        exact LEM21 W2 g18 ⟨hS2, ⟨hp12, hv1⟩⟩
       refine TillEach.cons rfl (fun K hK => ?_) ?_
       ·go_simp
        obtain ⟨W2, hu⟩ : ∃ u, u = W.alloc (.cells #[.int .i64 0, .int .i64 0, .int .i64 0] 36) := ⟨_, rfl⟩
        rw [← hu]
        have hS2 := (hS.alloc (.cells #[.int .i64 0, .int .i64 0, .int .i64 0] 36))
        have hp22 := (PB.new_ hS.p ⟨0, 0, 0⟩)
        obtain ⟨g19, hg⟩ : ∃ g, g = W.heap.size := ⟨_, rfl⟩
        have hv2 : V1.heap.size ≤ g19 := by rw [hg]; exact HLE.out _ hS
        rw [← hg] at hp22 ⊢
        rw [← hu] at hS2 hp22
        refine hK.out _ _ ?_ (fun hh => ?_)
        ·exact ⟨hS2.a.cell 0, hS2.a.cell 1, hS2.a.cell 2, hS2.a.cell 3, hS2.a.cell 4⟩
        clear hK K hu hg
        (try simp only [Act.put, setIfInBounds_toArray, set_cons_zero, set_cons_succ])
        exact LEM22 W2 g19 ⟨hS2, ⟨hp22, hv2⟩⟩
       exact TillEach.nil
      case pf =>
       intro W g19 hF
       obtain ⟨hS, ⟨hp2, hv2⟩⟩ := hF
       refine Till.ready (rs := [11, 12, 13]) (by kernel_rfl) (by simp) ?_
       refine TillEach.cons rfl (fun K hK => ?_) ?_
       ·go_simp
        go_wp2_with (go_at_call 13; refine (HCM.out (W) (hS).p).mono ?_; rintro e W2 ⟨rfl, hb⟩)
        have hS2 := (hS).below hb
        have hp22 := hp2.below hb
        refine hK.out _ _ ?_ (fun hh => ?_)
        ·exact ⟨hS2.a.cell 0, hS2.a.cell 1, hS2.a.cell 2, hS2.a.cell 3, hS2.a.cell 4⟩
        clear hK K hb
        (try simp only [Act.put, setIfInBounds_toArray, set_cons_zero, set_cons_succ])
        exact LEM32 W2 g19 ⟨hS2, ⟨hp22, hv2⟩⟩
       refine TillEach.cons rfl (fun K hK => ?_) ?_
       ·go_simp
        obtain ⟨W2, hu⟩ : ∃ u, u = W.alloc (.cells #[.int .i64 0, .int .i64 0, .int .i64 0] 36) := ⟨_, rfl⟩
        rw [← hu]
        have hS2 := (hS.alloc (.cells #[.int .i64 0, .int .i64 0, .int .i64 0] 36))
        have hp22 := (hp2.alloc (.cells #[.int .i64 0, .int .i64 0, .int .i64 0] 36))
        have hp02 := (PB.new_ hS.p ⟨0, 0, 0⟩)
        obtain ⟨g17, hg⟩ : ∃ g, g = W.heap.size := ⟨_, rfl⟩
        have hn02 : g17 ≠ g19 := Ne.symm (by rw [hg]; exact Nat.ne_of_lt hp2.b.lt)
        have hv0 : V1.heap.size ≤ g17 := by rw [hg]; exact HLE.out _ hS
        rw [← hg] at hp02 ⊢
        rw [← hu] at hS2 hp02 hp22
        refine hK.out _ _ ?_ (fun hh => ?_)
        ·exact ⟨hS2.a.cell 0, hS2.a.cell 1, hS2.a.cell 2, hS2.a.cell 3, hS2.a.cell 4⟩
        clear hK K hu hg
        (try simp only [Act.put, setIfInBounds_toArray, set_cons_zero, set_cons_succ])
        exact LEM202 W2 g17 g19 ⟨hS2, ⟨hp02, hv0⟩, ⟨hp22, hv2⟩, hn02⟩
       refine TillEach.cons rfl (fun K hK => ?_) ?_
       ·go_simp
        obtain ⟨W2, hu⟩ : ∃ u, u = W.alloc (.cells #[.int .i64 0, .int .i64 0, .int .i64 0] 36) := ⟨_, rfl⟩
        rw [← hu]
        have hS2 := (hS.alloc (.cells #[.int .i64 0, .int .i64 0, .int .i64 0] 36))
        have hp22 := (hp2.alloc (.cells #[.int .i64 0, .int .i64 0, .int .i64 0] 36))
        have hp12 := (PB.new_ hS.p ⟨0, 0, 0⟩)
        obtain ⟨g18, hg⟩ : ∃ g, g = W.heap.size := ⟨_, rfl⟩
        have hn12 : g18 ≠ g19 := Ne.symm (by rw [hg]; exact Nat.ne_of_lt hp2.b.lt)
        have hv1 : V1.heap.size ≤ g18 := by rw [hg]; exact HLE.out _ hS
        rw [← hg] at hp12 ⊢
        rw [← hu] at hS2 hp12 hp22
        refine hK.out _ _ ?_ (fun hh => ?_)
        ·exact ⟨hS2.a.cell 0, hS2.a.cell 1, hS2.a.cell 2, hS2.a.cell 3, hS2.a.cell 4⟩
        clear hK K hu hg
        (try simp only [Act.put, setIfInBounds_toArray, set_cons_zero, set_cons_succ])
        exact LEM212 W2 g18 g19 ⟨hS2, ⟨hp12, hv1⟩, ⟨hp22, hv2⟩, hn12⟩
       exact TillEach.nil
      case pf =>
       intro W g18 hF
       obtain ⟨hS, ⟨hp1, hv1⟩⟩ := hF
       refine Till.ready (rs := [11, 12, 14]) (by kernel_rfl) (by simp) ?_
       refine TillEach.cons rfl (fun K hK => ?_) ?_
       ·go_simp
        go_wp2_with (go_at_call 13; refine (HCM.out (W) (hS).p).mono ?_; rintro e W2 ⟨rfl, hb⟩)
        have hS2 := (hS).below hb
        have hp12 := hp1.below hb
        refine hK.out _ _ ?_ (fun hh => ?_)
        ·exact ⟨hS2.a.cell 0, hS2.a.cell 1, hS2.a.cell 2, hS2.a.cell 3, hS2.a.cell 4⟩
        clear hK K hb
        (try simp only [Act.put, setIfInBounds_toArray, set_cons_zero, set_cons_succ])
        exact LEM31 W2 g18 ⟨hS2, ⟨hp12, hv1⟩⟩
       refine TillEach.cons rfl (fun K hK => ?_) ?_
       ·go_simp
        obtain ⟨W2, hu⟩ : ∃ u, u = W.alloc (.cells #[.int .i64 0, .int .i64 0, .int .i64 0] 36) := ⟨_, rfl⟩
        rw [← hu]
        have hS2 := (hS.alloc (.cells #[.int .i64 0, .int .i64 0, .int .i64 0] 36))
        have hp12 := (hp1.alloc (.cells #[.int .i64 0, .int .i64 0, .int .i64 0] 36))
        have hp02 := (PB.new_ hS.p ⟨0, 0, 0⟩)
        obtain ⟨g17, hg⟩ : ∃ g, g = W.heap.size := ⟨_, rfl⟩
        have hn01 : g17 ≠ g18 := Ne.symm (by rw [hg]; exact Nat.ne_of_lt hp1.b.lt)
        have hv0 : V1.heap.size ≤ g17 := by rw [hg]; exact HLE.out _ hS
        rw [← hg] at hp02 ⊢
        rw [← hu] at hS2 hp02 hp12
        refine hK.out _ _ ?_ (fun hh => ?_)
        ·exact ⟨hS2.a.cell 0, hS2.a.cell 1, hS2.a.cell 2, hS2.a.cell 3, hS2.a.cell 4⟩
        clear hK K hu hg
        (try simp only [Act.put, setIfInBounds_toArray, set_cons_zero, set_cons_succ])
        exact LEM201 W2 g17 g18 ⟨hS2, ⟨hp02, hv0⟩, ⟨hp12, hv1⟩, hn01⟩
       refine TillEach.cons rfl (fun K hK => ?_) ?_
       ·go_simp
        obtain ⟨W2, hu⟩ : ∃ u, u = W.alloc (.cells #[.int .i64 0, .int .i64 0, .int .i64 0] 36) := ⟨_, rfl⟩
        rw [← hu]
        have hS2 := (hS.alloc (.cells #[.int .i64 0, .int .i64 0, .int .i64 0] 36))
        have hp12 := (hp1.alloc (.cells #[.int .i64 0, .int .i64 0, .int .i64 0] 36))
        have hp22 := (PB.new_ hS.p ⟨0, 0, 0⟩)
        obtain ⟨g19, hg⟩ : ∃ g, g = W.heap.size := ⟨_, rfl⟩
        have hn12 : g18 ≠ g19 := by rw [hg]; exact Nat.ne_of_lt hp1.b.lt
        have hv2 : V1.heap.size ≤ g19 := by rw [hg]; exact HLE.out _ hS
        rw [← hg] at hp22 ⊢
        rw [← hu] at hS2 hp12 hp22
        refine hK.out _ _ ?_ (fun hh => ?_)
        ·exact ⟨hS2.a.cell 0, hS2.a.cell 1, hS2.a.cell 2, hS2.a.cell 3, hS2.a.cell 4⟩
        clear hK K hu hg
        (try simp only [Act.put, setIfInBounds_toArray, set_cons_zero, set_cons_succ])
        exact LEM212 W2 g18 g19 ⟨hS2, ⟨hp12, hv1⟩, ⟨hp22, hv2⟩, hn12⟩
       exact TillEach.nil
      case pf =>
       intro W g17 hF
       obtain ⟨hS, ⟨hp0, hv0⟩⟩ := hF
       refine Till.ready (rs := [11, 13, 14]) (by kernel_rfl) (by simp) ?_
       refine TillEach.cons rfl (fun K hK => ?_) ?_
       ·go_simp
        go_wp2_with (go_at_call 13; refine (HCM.out (W) (hS).p).mono ?_; rintro e W2 ⟨rfl, hb⟩)
        have hS2 := (hS).below hb
        have hp02 := hp0.below hb
        refine hK.out _ _ ?_ (fun hh => ?_)
        ·exact ⟨hS2.a.cell 0, hS2.a.cell 1, hS2.a.cell 2, hS2.a.cell 3, hS2.a.cell 4⟩
        clear hK K hb
        (try simp only [Act.put, setIfInBounds_toArray, set_cons_zero, set_cons_succ])
        exact LEM30 W2 g17 ⟨hS2, ⟨hp02, hv0⟩⟩
       refine TillEach.cons rfl (fun K hK => ?_) ?_
       ·go_simp
        obtain ⟨W2, hu⟩ : ∃ u, u = W.alloc (.cells #[.int .i64 0, .int .i64 0, .int .i64 0] 36) := ⟨_, rfl⟩
        rw [← hu]
        have hS2 := (hS.alloc (.cells #[.int .i64 0, .int .i64 0, .int .i64 0] 36))
        have hp02 := (hp0.alloc (.cells #[.int .i64 0, .int .i64 0, .int .i64 0] 36))
        have hp12 := (PB.new_ hS.p ⟨0, 0, 0⟩)
        obtain ⟨g18, hg⟩ : ∃ g, g = W.heap.size := ⟨_, rfl⟩
        have hn01 : g17 ≠ g18 := by rw [hg]; exact Nat.ne_of_lt hp0.b.lt
        have hv1 : V1.heap.size ≤ g18 := by rw [hg]; exact HLE.out _ hS
        rw [← hg] at hp12 ⊢
        rw [← hu] at hS2 hp02 hp12
        refine hK.out _ _ ?_ (fun hh => ?_)
        ·exact ⟨hS2.a.cell 0, hS2.a.cell 1, hS2.a.cell 2, hS2.a.cell 3, hS2.a.cell 4⟩
        clear hK K hu hg
        (try simp only [Act.put, setIfInBounds_toArray, set_cons_zero, set_cons_succ])
        exact LEM201 W2 g17 g18 ⟨hS2, ⟨hp02, hv0⟩, ⟨hp12, hv1⟩, hn01⟩
       refine TillEach.cons rfl (fun K hK => ?_) ?_
       ·go_simp
        obtain ⟨W2, hu⟩ : ∃ u, u = W.alloc (.cells #[.int .i64 0, .int .i64 0, .int .i64 0] 36) := ⟨_, rfl⟩
        rw [← hu]
        have hS2 := (hS.alloc (.cells #[.int .i64 0, .int .i64 0, .int .i64 0] 36))
        have hp02 := (hp0.alloc (.cells #[.int .i64 0, .int .i64 0, .int .i64 0] 36))
        have hp22 := (PB.new_ hS.p ⟨0, 0, 0⟩)
        obtain ⟨g19, hg⟩ : ∃ g, g = W.heap.size := ⟨_, rfl⟩
        have hn02 : g17 ≠ g19 := by rw [hg]; exact Nat.ne_of_lt hp0.b.lt
        have hv2 : V1.heap.size ≤ g19 := by rw [hg]; exact HLE.out _ hS
        rw [← hg] at hp22 ⊢
        rw [← hu] at hS2 hp02 hp22
        refine hK.out _ _ ?_ (fun hh => ?_)
        ·exact ⟨hS2.a.cell 0, hS2.a.cell 1, hS2.a.cell 2, hS2.a.cell 3, hS2.a.cell 4⟩
        clear hK K hu hg
        (try simp only [Act.put, setIfInBounds_toArray, set_cons_zero, set_cons_succ])
        exact LEM202 W2 g17 g19 ⟨hS2, ⟨hp02, hv0⟩, ⟨hp22, hv2⟩, hn02⟩
       exact TillEach.nil
      case pf =>
       intro W g18 g19 hF
       obtain ⟨hS, ⟨hp1, hv1⟩, ⟨hp2, hv2⟩, hn12⟩ := hF
       refine Till.ready (rs := [11, 12]) (by kernel_rfl) (by simp) ?_
       refine TillEach.cons rfl (fun K hK => ?_) ?_
       ·go_simp
        go_wp2_with (go_at_call 13; refine (HCM.out (W) (hS).p).mono ?_; rintro e W2 ⟨rfl, hb⟩)
        have hS2 := (hS).below hb
        have hp12 := hp1.below hb
        have hp22 := hp2.below hb
        refine hK.out _ _ ?_ (fun hh => ?_)
        ·exact ⟨hS2.a.cell 0, hS2.a.cell 1, hS2.a.cell 2, hS2.a.cell 3, hS2.a.cell 4⟩
        clear hK K hb
        (try simp only [Act.put, setIfInBounds_toArray, set_cons_zero, set_cons_succ])
        exact LEM312 W2 g18 g19 ⟨hS2, ⟨hp12, hv1⟩, ⟨hp22, hv2⟩, hn12⟩
       refine TillEach.cons rfl (fun K hK => ?_) ?_
       ·go_simp
        obtain ⟨W2, hu⟩ : ∃ u, u = W.alloc (.cells #[.int .i64 0, .int .i64 0, .int .i64 0] 36) := ⟨_, rfl⟩
        rw [← hu]
        have hS2 := (hS.alloc (.cells #[.int .i64 0, .int .i64 0, .int .i64 0] 36))
        have hp12 := (hp1.alloc (.cells #[.int .i64 0, .int .i64 0, .int .i64 0] 36))
        have hp22 := (hp2.alloc (.cells #[.int .i64 0, .int .i64 0, .int .i64 0] 36))
        have hp02 := (PB.new_ hS.p ⟨0, 0, 0⟩)
        obtain ⟨g17, hg⟩ : ∃ g, g = W.heap.size := ⟨_, rfl⟩
        have hn01 : g17 ≠ g18 := Ne.symm (by rw [hg]; exact Nat.ne_of_lt hp1.b.lt)
        have hn02 : g17 ≠ g19 := Ne.symm (by rw [hg]; exact Nat.ne_of_lt hp2.b.lt)
        have hv0 : V1.heap.size ≤ g17 := by rw [hg]; exact HLE.out _ hS
        rw [← hg] at hp02 ⊢
        rw [← hu] at hS2 hp02 hp12 hp22
        refine hK.out _ _ ?_ (fun hh => ?_)
        ·exact ⟨hS2.a.cell 0, hS2.a.cell 1, hS2.a.cell 2, hS2.a.cell 3, hS2.a.cell 4⟩
        clear hK K hu hg
        (try simp only [Act.put, setIfInBounds_toArray, set_cons_zero, set_cons_succ])
        exact LEM2012 W2 g17 g18 g19 ⟨hS2, ⟨hp02, hv0⟩, ⟨hp12, hv1⟩, ⟨hp22, hv2⟩, hn01, hn02, hn12⟩
       exact TillEach.nil
      case pf =>
       intro W g17 g19 hF
       obtain ⟨hS, ⟨hp0, hv0⟩, ⟨hp2, hv2⟩, hn02⟩ := hF
       refine Till.ready (rs := [11, 13]) (by kernel_rfl) (by simp) ?_
       refine TillEach.cons rfl (fun K hK => ?_) ?_
       ·go_simp
        go_wp2_with (go_at_call 13; refine (HCM.out (W) (hS).p).mono ?_; rintro e W2 ⟨rfl, hb⟩)
        have hS2 := (hS).below hb
        have hp02 := hp0.below hb
        have hp22 := hp2.below hb
        refine hK.out _ _ ?_ (fun hh => ?_)
        ·exact ⟨hS2.a.cell 0, hS2.a.cell 1, hS2.a.cell 2, hS2.a.cell 3, hS2.a.cell 4⟩
        clear hK K hb
        (try simp only [Act.put, setIfInBounds_toArray, set_cons_zero, set_cons_succ])
        exact LEM302 W2 g17 g19 ⟨hS2, ⟨hp02, hv0⟩, ⟨hp22, hv2⟩, hn02⟩
       refine TillEach.cons rfl (fun K hK => ?_) ?_
       ·go_simp
        obtain ⟨W2, hu⟩ : ∃ u, u = W.alloc (.cells #[.int .i64 0, .int .i64 0, .int .i64 0] 36) := ⟨_, rfl⟩
        rw [← hu]
        have hS2 := (hS.alloc (.cells #[.int .i64 0, .int .i64 0, .int .i64 0] 36))
        have hp02 := (hp0.alloc (.cells #[.int .i64 0, .int .i64 0, .int .i64 0] 36))
        have hp22 := (hp2.alloc (.cells #[.int .i64 0, .int .i64 0, .int .i64 0] 36))
        have hp12 := (PB.new_ hS.p ⟨0, 0, 0⟩)
        obtain ⟨g18, hg⟩ : ∃ g, g = W.heap.size := ⟨_, rfl⟩
        have hn01 : g17 ≠ g18 := by rw [hg]; exact Nat.ne_of_lt hp0.b.lt
        have hn12 : g18 ≠ g19 := Ne.symm (by rw [hg]; exact Nat.ne_of_lt hp2.b.lt)
        have hv1 : V1.heap.size ≤ g18 := by rw [hg]; exact HLE.out _ hS
        rw [← hg] at hp12 ⊢
        rw [← hu] at hS2 hp02 hp12 hp22
        refine hK.out _ _ ?_ (fun hh => ?_)
        ·exact ⟨hS2.a.cell 0, hS2.a.cell 1, hS2.a.cell 2, hS2.a.cell 3, hS2.a.cell 4⟩
        clear hK K hu hg
        (try simp only [Act.put, setIfInBounds_toArray, set_cons_zero, set_cons_succ])
        exact LEM2012 W2 g17 g18 g19 ⟨hS2, ⟨hp02, hv0⟩, ⟨hp12, hv1⟩, ⟨hp22, hv2⟩, hn01, hn02, hn12⟩
       exact TillEach.nil
      case pf =>
       intro W g17 g18 hF
       obtain ⟨hS, ⟨hp0, hv0⟩, ⟨hp1, hv1⟩, hn01⟩ := hF
       refine Till.ready (rs := [11, 14]) (by kernel_rfl) (by simp) ?_
       refine TillEach.cons rfl (fun K hK => ?_) ?_
       ·go_simp
        go_wp2_with (go_at_call 13; refine (HCM.out (W) (hS).p).mono ?_; rintro e W2 ⟨rfl, hb⟩)
        have hS2 := (hS).below hb
        have hp02 := hp0.below hb
        have hp12 := hp1.below hb
        refine hK.out _ _ ?_ (fun hh => ?_)
        ·exact ⟨hS2.a.cell 0, hS2.a.cell 1, hS2.a.cell 2, hS2.a.cell 3, hS2.a.cell 4⟩
        clear hK K hb
        (try simp only [Act.put, setIfInBounds_toArray, set_cons_zero, set_cons_succ])
        exact LEM301 W2 g17 g18 ⟨hS2, ⟨hp02, hv0⟩, ⟨hp12, hv1⟩, hn01⟩
       refine TillEach.cons rfl (fun K hK => ?_) ?_
       ·go_simp
        obtain ⟨W2, hu⟩ : ∃ u, u = W.alloc (.cells #[.int .i64 0, .int .i64 0, .int .i64 0] 36) := ⟨_, rfl⟩
        rw [← hu]
        have hS2 := (hS.alloc (.cells #[.int .i64 0, .int .i64 0, .int .i64 0] 36))
        have hp02 := (hp0.alloc (.cells #[.int .i64 0, .int .i64 0, .int .i64 0] 36))
        have hp12 := (hp1.alloc (.cells #[.int .i64 0, .int .i64 0, .int .i64 0] 36))
        have hp22 := (PB.new_ hS.p ⟨0, 0, 0⟩)
        obtain ⟨g19, hg⟩ : ∃ g, g = W.heap.size := ⟨_, rfl⟩
        have hn02 : g17 ≠ g19 := by rw [hg]; exact Nat.ne_of_lt hp0.b.lt
        have hn12 : g18 ≠ g19 := by rw [hg]; exact Nat.ne_of_lt hp1.b.lt
        have hv2 : V1.heap.size ≤ g19 := by rw [hg]; exact HLE.out _ hS
        rw [← hg] at hp22 ⊢
        rw [← hu] at hS2 hp02 hp12 hp22
        refine hK.out _ _ ?_ (fun hh => ?_)
        ·exact ⟨hS2.a.cell 0, hS2.a.cell 1, hS2.a.cell 2, hS2.a.cell 3, hS2.a.cell 4⟩
        clear hK K hu hg
        (try simp only [Act.put, setIfInBounds_toArray, set_cons_zero, set_cons_succ])
        exact LEM2012 W2 g17 g18 g19 ⟨hS2, ⟨hp02, hv0⟩, ⟨hp12, hv1⟩, ⟨hp22, hv2⟩, hn01, hn02, hn12⟩
       exact TillEach.nil
      case pf =>
       intro W g17 g18 g19 hF
       obtain ⟨hS, ⟨hp0, hv0⟩, ⟨hp1, hv1⟩, ⟨hp2, hv2⟩, hn01, hn02, hn12⟩ := hF
       refine Till.ready (rs := [11]) (by kernel_rfl) (by simp) ?_
       refine TillEach.cons rfl (fun K hK => ?_) ?_
       ·go_simp
        go_wp2_with (go_at_call 13; refine (HCM.out (W) (hS).p).mono ?_; rintro e W2 ⟨rfl, hb⟩)
        have hS2 := (hS).below hb
        have hp02 := hp0.below hb
        have hp12 := hp1.below hb
        have hp22 := hp2.below hb
        refine hK.out _ _ ?_ (fun hh => ?_)
        ·exact ⟨hS2.a.cell 0, hS2.a.cell 1, hS2.a.cell 2, hS2.a.cell 3, hS2.a.cell 4⟩
        clear hK K hb
        (try simp only [Act.put, setIfInBounds_toArray, set_cons_zero, set_cons_succ])
        exact LEM3012 W2 g17 g18 g19 ⟨hS2, ⟨hp02, hv0⟩, ⟨hp12, hv1⟩, ⟨hp22, hv2⟩, hn01, hn02, hn12⟩
       exact TillEach.nil
      case pf =>
       intro W hS
       refine Till.ready (rs := [12, 13, 14]) (by kernel_rfl) (by simp) ?_
       refine TillEach.cons rfl (fun K hK => ?_) ?_
       ·go_simp
        obtain ⟨W2, hu⟩ : ∃ u, u = W.alloc (.cells #[.int .i64 0, .int .i64 0, .int .i64 0] 36) := ⟨_, rfl⟩
        rw [← hu]
        have hS2 := (hS.alloc (.cells #[.int .i64 0, .int .i64 0, .int .i64 0] 36))
        have hp02 := (PB.new_ hS.p ⟨0, 0, 0⟩)
        obtain ⟨g17, hg⟩ : ∃ g, g = W.heap.size := ⟨_, rfl⟩
        have hv0 : V1.heap.size ≤ g17 := by rw [hg]; exact HLE.out _ hS
        rw [← hg] at hp02 ⊢
        rw [← hu] at hS2 hp02
        refine hK.out _ _ ?_ (fun hh => ?_)
        ·exact ⟨hS2.a.cell 0, hS2.a.cell 1, hS2.a.cell 2, hS2.a.cell 3, hS2.a.cell 4⟩
        clear hK K hu hg
        (try simp only [Act.put, setIfInBounds_toArray, set_cons_zero, set_cons_succ])
        exact LEM30 W2 g17 ⟨hS2, ⟨hp02, hv0⟩⟩
       refine TillEach.cons rfl (fun K hK => ?_) ?_
       ·go_simp
        obtain ⟨W2, hu⟩ : ∃ u, u = W.alloc (.cells #[.int .i64 0, .int .i64 0, .int .i64 0] 36) := ⟨_, rfl⟩
        rw [← hu]
        have hS2 := (hS.alloc (.cells #[.int .i64 0, .int .i64 0, .int .i64 0] 36))
        have hp12 := (PB.new_ hS.p ⟨0, 0, 0⟩)
        obtain ⟨g18, hg⟩ : ∃ g, g = W.heap.size := ⟨_, rfl⟩
        have hv1 : V1.heap.size ≤ g18 := by rw [hg]; exact HLE.out _ hS
        rw [← hg] at hp12 ⊢
        rw [← hu] at hS2 hp12
        refine hK.out _ _ ?_ (fun hh => ?_)
        ·exact ⟨hS2.a.cell 0, hS2.a.cell 1, hS2.a.cell 2, hS2.a.cell 3, hS2.a.cell 4⟩
        clear hK K hu hg
        (try simp only [Act.put, setIfInBounds_toArray, set_cons_zero, set_cons_succ])
        exact LEM31 W2 g18 ⟨hS2, ⟨hp12, hv1⟩⟩
       refine TillEach.cons rfl (fun K hK => ?_) ?_
       ·go_simp
        obtain ⟨W2, hu⟩ : ∃ u, u = W.alloc (.cells #[.int .i64 0, .int .i64 0, .int .i64 0] 36) := ⟨_, rfl⟩
        rw [← hu]
        have hS2 := (hS.alloc (.cells #[.int .i64 0, .int .i64 0, .int .i64 0] 36))
        have hp22 := (PB.new_ hS.p ⟨0, 0, 0⟩)
        obtain ⟨g19, hg⟩ : ∃ g, g = W.heap.size := ⟨_, rfl⟩
        have hv2 : V1.heap.size ≤ g19 := by rw [hg]; exact HLE.out _ hS
        rw [← hg] at hp22 ⊢
        rw [← hu] at hS2 hp22
        refine hK.out _ _ ?_ (fun hh => ?_)
        ·exact ⟨hS2.a.cell 0, hS2.a.cell 1, hS2.a.cell 2, hS2.a.cell 3, hS2.a.cell 4⟩
        clear hK K hu hg
        (try simp only [Act.put, setIfInBounds_toArray, set_cons_zero, set_cons_succ])
        exact LEM32 W2 g19 ⟨hS2, ⟨hp22, hv2⟩⟩
       exact TillEach.nil
      case pf =>
       intro W g19 hF
       obtain ⟨hS, ⟨hp2, hv2⟩⟩ := hF
       refine Till.ready (rs := [12, 13]) (by kernel_rfl) (by simp) ?_
       refine TillEach.cons rfl (fun K hK => ?_) ?_
       ·go_simp
        obtain ⟨W2, hu⟩ : ∃ u, u = W.alloc (.cells #[.int .i64 0, .int .i64 0, .int .i64 0] 36) := ⟨_, rfl⟩
        rw [← hu]
        have hS2 := (hS.alloc (.cells #[.int .i64 0, .int .i64 0, .int .i64 0] 36))
        have hp22 := (hp2.alloc (.cells #[.int .i64 0, .int .i64 0, .int .i64 0] 36))
        have hp02 := (PB.new_ hS.p ⟨0, 0, 0⟩)
        obtain ⟨g17, hg⟩ : ∃ g, g = W.heap.size := ⟨_, rfl⟩
        have hn02 : g17 ≠ g19 := Ne.symm (by rw [hg]; exact Nat.ne_of_lt hp2.b.lt)
        have hv0 : V1.heap.size ≤ g17 := by rw [hg]; exact HLE.out _ hS
        rw [← hg] at hp02 ⊢
        rw [← hu] at hS2 hp02 hp22
        refine hK.out _ _ ?_ (fun hh => ?_)
        ·exact ⟨hS2.a.cell 0, hS2.a.cell 1, hS2.a.cell 2, hS2.a.cell 3, hS2.a.cell 4⟩
        clear hK K hu hg
        (try simp only [Act.put, setIfInBounds_toArray, set_cons_zero, set_cons_succ])
        exact LEM302 W2 g17 g19 ⟨hS2, ⟨hp02, hv0⟩, ⟨hp22, hv2⟩, hn02⟩
       refine TillEach.cons rfl (fun K hK => ?_) ?_
       ·go_simp
        obtain ⟨W2, hu⟩ : ∃ u, u = W.alloc (.cells #[.int .i64 0, .int .i64 0, .int .i64 0] 36) := ⟨_, rfl⟩
        rw [← hu]
        have hS2 := (hS.alloc (.cells #[.int .i64 0, .int .i64 0, .int .i64 0] 36))
        have hp22 := (hp2.alloc (.cells #[.int .i64 0, .int .i64 0, .int .i64 0] 36))
        have hp12 := (PB.new_ hS.p ⟨0, 0, 0⟩)
        obtain ⟨g18, hg⟩ : ∃ g, g = W.heap.size := ⟨_, rfl⟩
        have hn12 : g18 ≠ g19 := Ne.symm (by rw [hg]; exact Nat.ne_of_lt hp2.b.lt)
        have hv1 : V1.heap.size ≤ g18 := by rw [hg]; exact HLE.out _ hS
        rw [← hg] at hp12 ⊢
        rw [← hu] at hS2 hp12 hp22
        refine hK.out _ _ ?_ (fun hh => ?_)
        ·exact ⟨hS2.a.cell 0, hS2.a.cell 1, hS2.a.cell 2, hS2.a.cell 3, hS2.a.cell 4⟩
        clear hK K hu hg
        (try simp only [Act.put, setIfInBounds_toArray, set_cons_zero, set_cons_succ])
        exact LEM312 W2 g18 g19 ⟨hS2, ⟨hp12, hv1⟩, ⟨hp22, hv2⟩, hn12⟩
       exact TillEach.nil
      case pf =>
       intro W g18 hF
       obtain ⟨hS, ⟨hp1, hv1⟩⟩ := hF
       refine Till.ready (rs := [12, 14]) (by kernel_rfl) (by simp) ?_
       refine TillEach.cons rfl (fun K hK => ?_) ?_
       ·go_simp
        obtain ⟨W2, hu⟩ : ∃ u, u = W.alloc (.cells #[.int .i64 0, .int .i64 0, .int .i64 0] 36) := ⟨_, rfl⟩
        rw [← hu]
        have hS2 := (hS.alloc (.cells #[.int .i64 0, .int .i64 0, .int .i64 0] 36))
        have hp12 := (hp1.alloc (.cells #[.int .i64 0, .int .i64 0, .int .i64 0] 36))
        have hp02 := (PB.new_ hS.p ⟨0, 0, 0⟩)
        obtain ⟨g17, hg⟩ : ∃ g, g = W.heap.size := ⟨_, rfl⟩
        have hn01 : g17 ≠ g18 := Ne.symm (by rw [hg]; exact Nat.ne_of_lt hp1.b.lt)
        have hv0 : V1.heap.size ≤ g17 := by rw [hg]; exact HLE.out _ hS
        rw [← hg] at hp02 ⊢
        rw [← hu] at hS2 hp02 hp12
        refine hK.out _ _ ?_ (fun hh => ?_)
        ·exact ⟨hS2.a.cell 0, hS2.a.cell 1, hS2.a.cell 2, hS2.a.cell 3, hS2.a.cell 4⟩
        clear hK K hu hg
        (try simp only [Act.put, setIfInBounds_toArray, set_cons_zero, set_cons_succ])
        exact LEM301 W2 g17 g18 ⟨hS2, ⟨hp02, hv0⟩, ⟨hp12, hv1⟩, hn01⟩
       refine TillEach.cons rfl (fun K hK => ?_) ?_
       ·go_simp
        obtain ⟨W2, hu⟩ : ∃ u, u = W.alloc (.cells #[.int .i64 0, .int .i64 0, .int .i64 0] 36) := ⟨_, rfl⟩
        rw [← hu]
        have hS2 := (hS.alloc (.cells #[.int .i64 0, .int .i64 0, .int .i64 0] 36))
        have hp12 := (hp1.alloc (.cells #[.int .i64 0, .int .i64 0, .int .i64 0] 36))
        have hp22 := (PB.new_ hS.p ⟨0, 0, 0⟩)
        obtain ⟨g19, hg⟩ : ∃ g, g = W.heap.size := ⟨_, rfl⟩
        have hn12 : g18 ≠ g19 := by rw [hg]; exact Nat.ne_of_lt hp1.b.lt
        have hv2 : V1.heap.size ≤ g19 := by rw [hg]; exact HLE.out _ hS
        rw [← hg] at hp22 ⊢
        rw [← hu] at hS2 hp12 hp22
        refine hK.out _ _ ?_ (fun hh => ?_)
        ·exact ⟨hS2.a.cell 0, hS2.a.cell 1, hS2.a.cell 2, hS2.a.cell 3, hS2.a.cell 4⟩
        clear hK K hu hg
        (try simp only [Act.put, setIfInBounds_toArray, set_cons_zero, set_cons_succ])
        exact LEM312 W2 g18 g19 ⟨hS2, ⟨hp12, hv1⟩, ⟨hp22, hv2⟩, hn12⟩
       exact TillEach.nil
      case pf =>
       intro W g17 hF
       obtain ⟨hS, ⟨hp0, hv0⟩⟩ := hF
       refine Till.ready (rs := [13, 14]) (by kernel_rfl) (by simp) ?_
       refine TillEach.cons rfl (fun K hK => ?_) ?_
       ·go_simp
        obtain ⟨W2, hu⟩ : ∃ u, u = W.alloc (.cells #[.int .i64 0, .int .i64 0, .int .i64 0] 36) := ⟨_, rfl⟩
        rw [← hu]
        have hS2 := (hS.alloc (.cells #[.int .i64 0, .int .i64 0, .int .i64 0] 36))
        have hp02 := (hp0.alloc (.cells #[.int .i64 0, .int .i64 0, .int .i64 0] 36))
        have hp12 := (PB.new_ hS.p ⟨0, 0, 0⟩)
        obtain ⟨g18, hg⟩ : ∃ g, g = W.heap.size := ⟨_, rfl⟩
        have hn01 : g17 ≠ g18 := by rw [hg]; exact Nat.ne_of_lt hp0.b.lt
        have hv1 : V1.heap.size ≤ g18 := by rw [hg]; exact HLE.out _ hS
        rw [← hg] at hp12 ⊢
        rw [← hu] at hS2 hp02 hp12
        refine hK.out _ _ ?_ (fun hh => ?_)
        ·exact ⟨hS2.a.cell 0, hS2.a.cell 1, hS2.a.cell 2, hS2.a.cell 3, hS2.a.cell 4⟩
        clear hK K hu hg
        (try simp only [Act.put, setIfInBounds_toArray, set_cons_zero, set_cons_succ])
        exact LEM301 W2 g17 g18 ⟨hS2, ⟨hp02, hv0⟩, ⟨hp12, hv1⟩, hn01⟩
       refine TillEach.cons rfl (fun K hK => ?_) ?_
       ·go_simp
        obtain ⟨W2, hu⟩ : ∃ u, u = W.alloc (.cells #[.int .i64 0, .int .i64 0, .int .i64 0] 36) := ⟨_, rfl⟩
        rw [← hu]
        have hS2 := (hS.alloc (.cells #[.int .i64 0, .int .i64 0, .int .i64 0] 36))
        have hp02 := (hp0.alloc (.cells #[.int .i64 0, .int .i64 0, .int .i64 0] 36))
        have hp22 := (PB.new_ hS.p ⟨0, 0, 0⟩)
        obtain ⟨g19, hg⟩ : ∃ g, g = W.heap.size := ⟨_, rfl⟩
        have hn02 : g17 ≠ g19 := by rw [hg]; exact Nat.ne_of_lt hp0.b.lt
        have hv2 : V1.heap.size ≤ g19 := by rw [hg]; exact HLE.out _ hS
        rw [← hg] at hp22 ⊢
        rw [← hu] at hS2 hp02 hp22
        refine hK.out _ _ ?_ (fun hh => ?_)
        ·exact ⟨hS2.a.cell 0, hS2.a.cell 1, hS2.a.cell 2, hS2.a.cell 3, hS2.a.cell 4⟩
        clear hK K hu hg
        (try simp only [Act.put, setIfInBounds_toArray, set_cons_zero, set_cons_succ])
        exact LEM302 W2 g17 g19 ⟨hS2, ⟨hp02, hv0⟩, ⟨hp22, hv2⟩, hn02⟩
       exact TillEach.nil
      case pf =>
       intro W g18 g19 hF
       obtain ⟨hS, ⟨hp1, hv1⟩, ⟨hp2, hv2⟩, hn12⟩ := hF
       refine Till.ready (rs := [12]) (by kernel_rfl) (by simp) ?_
       refine TillEach.cons rfl (fun K hK => ?_) ?_
       ·go_simp
        obtain ⟨W2, hu⟩ : ∃ u, u = W.alloc (.cells #[.int .i64 0, .int .i64 0, .int .i64 0] 36) := ⟨_, rfl⟩
        rw [← hu]
        have hS2 := (hS.alloc (.cells #[.int .i64 0, .int .i64 0, .int .i64 0] 36))
        have hp12 := (hp1.alloc (.cells #[.int .i64 0, .int .i64 0, .int .i64 0] 36))
        have hp22 := (hp2.alloc (.cells #[.int .i64 0, .int .i64 0, .int .i64 0] 36))
        have hp02 := (PB.new_ hS.p ⟨0, 0, 0⟩)
        obtain ⟨g17, hg⟩ : ∃ g, g = W.heap.size := ⟨_, rfl⟩
        have hn01 : g17 ≠ g18 := Ne.symm (by rw [hg]; exact Nat.ne_of_lt hp1.b.lt)
        have hn02 : g17 ≠ g19 := Ne.symm (by rw [hg]; exact Nat.ne_of_lt hp2.b.lt)
        have hv0 : V1.heap.size ≤ g17 := by rw [hg]; exact HLE.out _ hS
        rw [← hg] at hp02 ⊢
        rw [← hu] at hS2 hp02 hp12 hp22
        refine hK.out _ _ ?_ (fun hh => ?_)
        ·exact ⟨hS2.a.cell 0, hS2.a.cell 1, hS2.a.cell 2, hS2.a.cell 3, hS2.a.cell 4⟩
        clear hK K hu hg
        (try simp only [Act.put, setIfInBounds_toArray, set_cons_zero, set_cons_succ])
        exact LEM3012 W2 g17 g18 g19 ⟨hS2, ⟨hp02, hv0⟩, ⟨hp12, hv1⟩, ⟨hp22, hv2⟩, hn01, hn02, hn12⟩
       exact TillEach.nil
      case pf =>
       intro W g17 g19 hF
       obtain ⟨hS, ⟨hp0, hv0⟩, ⟨hp2, hv2⟩, hn02⟩ := hF
       refine Till.ready (rs := [13]) (by kernel_rfl) (by simp) ?_
       refine TillEach.cons rfl (fun K hK => ?_) ?_
       ·go_simp
        obtain ⟨W2, hu⟩ : ∃ u, u = W.alloc (.cells #[.int .i64 0, .int .i64 0, .int .i64 0] 36) := ⟨_, rfl⟩
        rw [← hu]
        have hS2 := (hS.alloc (.cells #[.int .i64 0, .int .i64 0, .int .i64 0] 36))
        have hp02 := (hp0.alloc (.cells #[.int .i64 0, .int .i64 0, .int .i64 0] 36))
        have hp22 := (hp2.alloc (.cells #[.int .i64 0, .int .i64 0, .int .i64 0] 36))
        have hp12 := (PB.new_ hS.p ⟨0, 0, 0⟩)
        obtain ⟨g18, hg⟩ : ∃ g, g = W.heap.size := ⟨_, rfl⟩
        have hn01 : g17 ≠ g18 := by rw [hg]; exact Nat.ne_of_lt hp0.b.lt
        have hn12 : g18 ≠ g19 := Ne.symm (by rw [hg]; exact Nat.ne_of_lt hp2.b.lt)
        have hv1 : V1.heap.size ≤ g18 := by rw [hg]; exact HLE.out _ hS
        rw [← hg] at hp12 ⊢
        rw [← hu] at hS2 hp02 hp12 hp22
        refine hK.out _ _ ?_ (fun hh => ?_)
        ·exact ⟨hS2.a.cell 0, hS2.a.cell 1, hS2.a.cell 2, hS2.a.cell 3, hS2.a.cell 4⟩
        clear hK K hu hg
        (try simp only [Act.put, setIfInBounds_toArray, set_cons_zero, set_cons_succ])
        exact LEM3012 W2 g17 g18 g19 ⟨hS2, ⟨hp02, hv0⟩, ⟨hp12, hv1⟩, ⟨hp22, hv2⟩, hn01, hn02, hn12⟩
       exact TillEach.nil
      case pf =>
       intro W g17 g18 hF
       obtain ⟨hS, ⟨hp0, hv0⟩, ⟨hp1, hv1⟩, hn01⟩ := hF
       refine Till.ready (rs := [14]) (by kernel_rfl) (by simp) ?_
       refine TillEach.cons rfl (fun K hK => ?_) ?_
       ·go_simp
        obtain ⟨W2, hu⟩ : ∃ u, u = W.alloc (.cells #[.int .i64 0, .int .i64 0, .int .i64 0] 36) := ⟨_, rfl⟩
        rw [← hu]
        have hS2 := (hS.alloc (.cells #[.int .i64 0, .int .i64 0, .int .i64 0] 36))
        have hp02 := (hp0.alloc (.cells #[.int .i64 0, .int .i64 0, .int .i64 0] 36))
        have hp12 := (hp1.alloc (.cells #[.int .i64 0, .int .i64 0, .int .i64 0] 36))
        have hp22 := (PB.new_ hS.p ⟨0, 0, 0⟩)
        obtain ⟨g19, hg⟩ : ∃ g, g = W.heap.size := ⟨_, rfl⟩
        have hn02 : g17 ≠ g19 := by rw [hg]; exact Nat.ne_of_lt hp0.b.lt
        have hn12 : g18 ≠ g19 := by rw [hg]; exact Nat.ne_of_lt hp1.b.lt
        have hv2 : V1.heap.size ≤ g19 := by rw [hg]; exact HLE.out _ hS
        rw [← hg] at hp22 ⊢
        rw [← hu] at hS2 hp02 hp12 hp22
        refine hK.out _ _ ?_ (fun hh => ?_)
        ·exact ⟨hS2.a.cell 0, hS2.a.cell 1, hS2.a.cell 2, hS2.a.cell 3, hS2.a.cell 4⟩
        clear hK K hu hg
        (try simp only [Act.put, setIfInBounds_toArray, set_cons_zero, set_cons_succ])
        exact LEM3012 W2 g17 g18 g19 ⟨hS2, ⟨hp02, hv0⟩, ⟨hp12, hv1⟩, ⟨hp22, hv2⟩, hn01, hn02, hn12⟩
       exact TillEach.nil
      case pf =>
       intro W g17 g18 g19 hF
       obtain ⟨hS, ⟨hp0, hv0⟩, ⟨hp1, hv1⟩, ⟨hp2, hv2⟩, hn01, hn02, hn12⟩ := hF
       have hga0 : ga ≠ g17 := hS.a.ne_ hp0.b (by decide)
       have hgb0 : gb ≠ g17 := by have := HGB.out; omega
       have hga1 : ga ≠ g18 := hS.a.ne_ hp1.b (by decide)
       have hgb1 : gb ≠ g18 := by have := HGB.out; omega
       have hga2 : ga ≠ g19 := hS.a.ne_ hp2.b (by decide)
       have hgb2 : gb ≠ g19 := by have := HGB.out; omega
       have cc0 := hp0.b.cell 0
       have cf0 := hp0.b.frozen 0
       have cc1 := hp0.b.cell 1
       have cf1 := hp0.b.frozen 1
       have cc2 := hp0.b.cell 2
       have cf2 := hp0.b.frozen 2
       simp at cc0 cc1 cc2
       refine Till.ready (rs := [15]) (by kernel_rfl) (by simp) ?_
       refine TillEach.cons rfl (fun K hK => ?_) ?_
       ·go_simp
        obtain ⟨W2, hu⟩ : ∃ u, u = ((W.setCell ⟨g17, 0, none⟩ (.int .i64 a0)).setCell ⟨g17, 1, none⟩ (.int .i64 a1)).setCell ⟨g17, 2, none⟩ (.int .i64 a2) := ⟨_, rfl⟩
        rw [← hu]
        have hS2 : BS V1 W2 V1.heap.size k Ao co O Aq cq Q Am cm M ga gb #[.int .i64 xl, .int .i64 xa, .int .i64 xb, .int .i64 xc, .int .i64 xd] #[.int .i64 y0, .int .i64 y1, .int .i64 y2] := by rw [hu]; exact hS.st hp0 hv0 hga0 hgb0 a0 a1 a2
        have hp02 : PB W2 g17 ⟨a0, a1, a2⟩ (.slice Ao k co) (.slice Aq k cq) (.slice Am k cm) := by rw [hu]; exact hp0.st a0 a1 a2
        have hp12 : PB W2 g18 ⟨0, 0, 0⟩ (.slice Ao k co) (.slice Aq k cq) (.slice Am k cm) := by rw [hu]; exact hp1.stf (Ne.symm hn01) a0 a1 a2
        have hp22 : PB W2 g19 ⟨0, 0, 0⟩ (.slice Ao k co) (.slice Aq k cq) (.slice Am k cm) := by rw [hu]; exact hp2.stf (Ne.symm hn02) a0 a1 a2
        refine hK.out _ _ ?_ (fun hh => ?_)
        ·exact ⟨hS2.a.cell 0, hS2.a.cell 1, hS2.a.cell 2, hS2.a.cell 3, hS2.a.cell 4⟩
        clear hK K hu cc0 cc1 cc2 cf0 cf1 cf2
        (try simp only [Act.put, setIfInBounds_toArray, set_cons_zero, set_cons_succ])
        have cc0 := hp12.b.cell 0
        have cf0 := hp12.b.frozen 0
        have cc1 := hp12.b.cell 1
        have cf1 := hp12.b.frozen 1
        have cc2 := hp12.b.cell 2
        have cf2 := hp12.b.frozen 2
        simp at cc0 cc1 cc2
        refine Till.ready (rs := [16]) (by kernel_rfl) (by simp) ?_
        refine TillEach.cons rfl (fun K hK => ?_) ?_
        ·go_simp
         obtain ⟨W22, hu⟩ : ∃ u, u = ((W2.setCell ⟨g18, 0, none⟩ (.int .i64 (a0 + s0))).setCell ⟨g18, 1, none⟩ (.int .i64 (a1 + s1))).setCell ⟨g18, 2, none⟩ (.int .i64 (a2 + s2)) := ⟨_, rfl⟩
         rw [← hu]
         have hS22 : BS V1 W22 V1.heap.size k Ao co O Aq cq Q Am cm M ga gb #[.int .i64 xl, .int .i64 xa, .int .i64 xb, .int .i64 xc, .int .i64 xd] #[.int .i64 y0, .int .i64 y1, .int .i64 y2] := by rw [hu]; exact hS2.st hp12 hv1 hga1 hgb1 (a0 + s0) (a1 + s1) (a2 + s2)
         have hp022 : PB W22 g17 ⟨a0, a1, a2⟩ (.slice Ao k co) (.slice Aq k cq) (.slice Am k cm) := by rw [hu]; exact hp02.stf hn01 (a0 + s0) (a1 + s1) (a2 + s2)
         have hp122 : PB W22 g18 ⟨(a0 + s0), (a1 + s1), (a2 + s2)⟩ (.slice Ao k co) (.slice Aq k cq) (.slice Am k cm) := by rw [hu]; exact hp12.st (a0 + s0) (a1 + s1) (a2 + s2)
         have hp222 : PB W22 g19 ⟨0, 0, 0⟩ (.slice Ao k co) (.slice Aq k cq) (.slice Am k cm) := by rw [hu]; exact hp22.stf (Ne.symm hn12) (a0 + s0) (a1 + s1) (a2 + s2)
         refine hK.out _ _ ?_ (fun hh => ?_)
         ·exact ⟨hS22.a.cell 0, hS22.a.cell 1, hS22.a.cell 2, hS22.a.cell 3, hS22.a.cell 4⟩
         clear hK K hu cc0 cc1 cc2 cf0 cf1 cf2
         (try simp only [Act.put, setIfInBounds_toArray, set_cons_zero, set_cons_succ])
         have cc0 := hp222.b.cell 0
         have cf0 := hp222.b.frozen 0
         have cc1 := hp222.b.cell 1
         have cf1 := hp222.b.frozen 1
         have cc2 := hp222.b.cell 2
         have cf2 := hp222.b.frozen 2
         simp at cc0 cc1 cc2
         refine Till.ready (rs := [17]) (by kernel_rfl) (by simp) ?_
         refine TillEach.last rfl (fun K hK => ?_)
         ·go_simp
          obtain ⟨W222, hu⟩ : ∃ u, u = ((W22.setCell ⟨g19, 0, none⟩ (.int .i64 (-a0))).setCell ⟨g19, 1, none⟩ (.int .i64 (-a1))).setCell ⟨g19, 2, none⟩ (.int .i64 (-a2)) := ⟨_, rfl⟩
          rw [← hu]
          have hS222 : BS V1 W222 V1.heap.size k Ao co O Aq cq Q Am cm M ga gb #[.int .i64 xl, .int .i64 xa, .int .i64 xb, .int .i64 xc, .int .i64 xd] #[.int .i64 y0, .int .i64 y1, .int .i64 y2] := by rw [hu]; exact hS22.st hp222 hv2 hga2 hgb2 (-a0) (-a1) (-a2)
          have hp0222 : PB W222 g17 ⟨a0, a1, a2⟩ (.slice Ao k co) (.slice Aq k cq) (.slice Am k cm) := by rw [hu]; exact hp022.stf hn02 (-a0) (-a1) (-a2)
          have hp1222 : PB W222 g18 ⟨(a0 + s0), (a1 + s1), (a2 + s2)⟩ (.slice Ao k co) (.slice Aq k cq) (.slice Am k cm) := by rw [hu]; exact hp122.stf hn12 (-a0) (-a1) (-a2)
          have hp2222 : PB W222 g19 ⟨(-a0), (-a1), (-a2)⟩ (.slice Ao k co) (.slice Aq k cq) (.slice Am k cm) := by rw [hu]; exact hp222.st (-a0) (-a1) (-a2)
          refine hK.out _ _ ?_
          clear hK K hu cc0 cc1 cc2 cf0 cf1 cf2
          (try simp only [Act.put, setIfInBounds_toArray, set_cons_zero, set_cons_succ])
          refine Till.done (by kernel_rfl) ?_ _
          go_wp2_with fail
          go_meet
          exact ⟨g17, g18, g19, rfl, rfl, rfl, Lib.hid hS222, Lib.hid hp0222, Lib.hid hp1222, Lib.hid hp2222⟩
        exact TillEach.nil
       exact TillEach.nil
     case rest =>
      obtain ⟨g17, g18, g19, rfl, rfl, rfl, HSD, HX, HY, HZ⟩ := hcut
      obtain ⟨wD, hwD⟩ : ∃ wD : World, wD = wc := ⟨_, rfl⟩
      rw [← hwD] at HSD HX HY HZ ⊢
      clear hwD HBSC HCO HCQ HCM
      have hl0 := HSD.out.a.cell 0
      simp at hl0
      go_wp2_with fail
      go_loopw [20] (fun iv wr => ∃ j d : Nat, j ≤ 3 ∧ iv = .int .i64 j ∧ wr = wD.drewN d) (fun iv _ => 3 - (intOf iv).toNat)
      case atStart => exact ⟨0, 0, by omega, rfl, rfl⟩
      case round =>
       obtain ⟨j, d, hj, hjv, hwr⟩ := hrel
       rw [hwr]
       clear hwr
       by_cases hj3 : j = 3
       ·subst hj3
        have hjv' : _ = Value.int .i64 3 := hjv
        subst hjv'
        clear hjv
        go_wp2_with fail
        exact ⟨⟨q + 1, by omega, by go_num, Lib.hid (HSD.out.p.drewN _), Lib.hid (HSD.out.a.drewN _), Lib.hid (HSD.out.b.drewN _), Lib.hid (below_drewN HSD.out.h _)⟩, by simp [intOf]; omega⟩
       ·have hjv' : _ = Value.int .i64 (j : Int) := hjv
        subst hjv'
        clear hjv
        have hji : (j : Int) < 3 := by omega
        obtain ⟨yy, tt, aa, ss, yb, HTj, ltj, xj, yj, zj, baj, hsj⟩ : ∃ yy tt aa ss : Int, wD.cell? ⟨gb, j, none⟩ = some (.int .i64 yy) ∧ Int.tmod yy 500 = tt ∧ (-499 ≤ tt ∧ tt ≤ 499) ∧ wD.cell? ⟨g17, j, none⟩ = some (.int .i64 aa) ∧ wD.cell? ⟨g18, j, none⟩ = some (.int .i64 (aa + ss)) ∧ wD.cell? ⟨g19, j, none⟩ = some (.int .i64 (-aa)) ∧ (-4000000000000000000 ≤ aa ∧ aa ≤ 4000000000000000000) ∧ stepM (q : Int) ⟨xl, xa, xb, xc, xd⟩ k (2 * tt) = ss := by
         rcases (by omega : j = 0 ∨ j = 1 ∨ j = 2) with rfl | rfl | rfl
         ·exact ⟨y0, t0, a0, s0, HSD.out.b.cell 0, HT0, l0, HX.out.b.cell 0, HY.out.b.cell 0, HZ.out.b.cell 0, by omega, HS0.out⟩
         ·exact ⟨y1, t1, a1, s1, HSD.out.b.cell 1, HT1, l1, HX.out.b.cell 1, HY.out.b.cell 1, HZ.out.b.cell 1, by omega, HS1.out⟩
         ·exact ⟨y2, t2, a2, s2, HSD.out.b.cell 2, HT2, l2, HX.out.b.cell 2, HY.out.b.cell 2, HZ.out.b.cell 2, by omega, HS2.out⟩
        have hsb := step_le (q : Int) ⟨xl, xa, xb, xc, xd⟩ k tt
        rw [hsj] at hsb
        have HSJ := Lib.hid hsj
        clear hsj
        have wt : IntKind.i64.wrap tt = tt := IntWalk.i64_in _ (by omega)
        have wu : IntKind.i64.wrap (2 * tt) = 2 * tt := IntWalk.i64_in _ (by omega)
        have hwn : IntKind.i64.wrap (-aa) = -aa := IntWalk.i64_in _ (by omega)
        have hb2 : (-aa != -aa) = false := by simp
        have hwa : IntKind.i64.wrap (aa + ss) = aa + ss := IntWalk.i64_in _ (by omega)
        have hb1 : (aa + ss != aa + ss) = false := by simp
        go_upto_if 136 with (fail)
        clear yb
        go_cut [21] (fun sv wx => sv = .int .i64 (if knowA ⟨xl, xa, xb, xc, xd⟩ k then 2 * tt else 0) ∧ wx = wD.drewN d)
        case first =>
         cases kb
         ·have hkn := of_decide_eq_false HKB.out
          go_wp2_with fail
          go_meet
          exact ⟨by rw [if_neg hkn], rfl⟩
         ·have hkn := of_decide_eq_true HKB.out
          go_wp2_with fail
          go_meet
          exact ⟨by rw [if_pos hkn], rfl⟩
        case rest =>
         obtain ⟨hsv, hwc⟩ := hcut
         rw [hwc, hsv]
         clear hwc hsv
         obtain ⟨u, HU⟩ : ∃ u, Hid ((if knowA ⟨xl, xa, xb, xc, xd⟩ k then 2 * tt else 0) = u) := ⟨_, Lib.hid rfl⟩
         rw [HU.out]
         go_upto_region 28 with (fail)
         go_cut [151] (fun bv wx => bv = .bool (decide ((q : Int) = 0 ∧ ¬ hasP k xl)) ∧ wx = wD.drewN d)
         case first =>
          by_cases hq0 : (q : Int) = 0
          ·have hqb : ((q : Int) == 0) = true := by simpa using hq0
           by_cases hl : 0 ≤ xl
           ·by_cases hl1 : xl < (k : Int)
            ·have hdc : decide ((q : Int) = 0 ∧ ¬ hasP k xl) = false := decide_eq_false (fun e => e.2 ⟨hl, hl1⟩)
             clear hq0
             go_wp2_with fail
             go_meet
             exact ⟨by rw [hdc], rfl⟩
            ·have hdc : decide ((q : Int) = 0 ∧ ¬ hasP k xl) = true := decide_eq_true ⟨hq0, fun e => hl1 e.2⟩
             clear hq0
             go_wp2_with fail
             go_meet
             exact ⟨by rw [hdc], rfl⟩
           ·have hdc : decide ((q : Int) = 0 ∧ ¬ hasP k xl) = true := decide_eq_true ⟨hq0, fun e => hl e.1⟩
            clear hq0
            go_wp2_with fail
            go_meet
            exact ⟨by rw [hdc], rfl⟩
          ·have hqb : ((q : Int) == 0) = false := by simpa using hq0
           have hdc : decide ((q : Int) = 0 ∧ ¬ hasP k xl) = false := decide_eq_false (fun e => hq0 e.1)
           clear hq0
           go_wp2_with fail
           go_meet
           exact ⟨by rw [hdc], rfl⟩
         case rest =>
          obtain ⟨hbv, hwc⟩ := hcut
          obtain ⟨bb, HBB⟩ : ∃ bb, Hid (decide ((q : Int) = 0 ∧ ¬ hasP k xl) = bb) := ⟨_, Lib.hid rfl⟩
          rw [HBB.out] at hbv
          subst hbv
          rw [hwc]
          clear hwc
          go_upto_if 151 with (fail)
          go_cut [21] (fun sv wx => sv = .int .i64 ss ∧ wx = wD.drewN d)
          case first =>
           have hsj : ss = if bb = true then 0 else u := by
            rw [← HSJ.out, ← HU.out]
            unfold stepM
            by_cases hkn : knowA ⟨xl, xa, xb, xc, xd⟩ k
            ·rw [if_neg (fun f => f hkn), if_pos hkn]
             cases bb
             ·rw [if_neg (of_decide_eq_false HBB.out)]; rfl
             ·rw [if_pos (of_decide_eq_true HBB.out)]; rfl
            ·rw [if_pos hkn, if_neg hkn]
             cases bb <;> rfl
           cases bb
           ·go_wp2_with fail
            go_meet
            exact ⟨by rw [hsj]; rfl, rfl⟩
           ·go_wp2_with fail
            go_meet
            exact ⟨by rw [hsj]; rfl, rfl⟩
          case rest =>
           obtain ⟨hsv, hwc⟩ := hcut
           rw [hwc, hsv]
           clear hwc hsv HU
           go_upto_region 30 with (fail)
           go_quiet (fail)
           go_wp2_with fail
           exact ⟨⟨j + 1, _, by omega, by go_num, rfl⟩, by simp [intOf]; omega⟩

  have hkn : (k : Int) < (n : Int) := by omega
  obtain ⟨r0, hr0⟩ : ∃ r0, r0 = ((wB.alloc (.cells #[.int .i64 0, .int .i64 0, .int .i64 0] 36)).alloc (.cells #[.int .i64 0, .int .i64 0, .int .i64 0] 36)).alloc (.cells #[.int .i64 0, .int .i64 0, .int .i64 0] 36) := ⟨_, rfl⟩
  have GXr0 : Hid (Blk r0 wB.heap.size 36 #[.int .i64 0, .int .i64 0, .int .i64 0]) := by subst hr0; exact Lib.hid (((Blk.new _ _ _).alloc _).alloc _)
  have GYr0 : Hid (Blk r0 (wB.heap.size + 1) 36 #[.int .i64 0, .int .i64 0, .int .i64 0]) := by subst hr0; exact Lib.hid ((blk_new1 _ _ _ _).alloc _)
  have GZr0 : Hid (Blk r0 (wB.heap.size + 1 + 1) 36 #[.int .i64 0, .int .i64 0, .int .i64 0]) := by subst hr0; exact Lib.hid (Blk.new_ (by simp) _ _)
  have HCr0 : Hid (Below wB.heap.size wB r0) := by subst hr0; exact Lib.hid (bw_alloc (bw_alloc (bw_alloc (Below.refl _ _) _) _) _)
  have HPB := Lib.hid (HP1.out.below HCk.out)
  have HVB : Hid (V1.heap.size ≤ wB.heap.size) := Lib.hid HCk.out.size
  obtain ⟨ad, hAd, HTB⟩ := ((HP1.out.below HCk.out).more HCk.out.size).triQ (Nat.le_refl _) hlt
  subst hAd
  have HTQ := Lib.hid HTB
  have GBB := Lib.hid (blk_call GB1.out HCk.out)
  clear HTB
  generalize tri P k = pk at *
  obtain ⟨p0, p1, p2⟩ := pk
  go_upto_region 10 with (fail)
  rw [← hr0]
  have HNE : Hid (wB.heap.size ≠ wB.heap.size + 1 ∧ wB.heap.size ≠ wB.heap.size + 1 + 1 ∧ wB.heap.size + 1 ≠ wB.heap.size + 1 + 1 ∧ wB.heap.size ≤ wB.heap.size + 1 ∧ wB.heap.size ≤ wB.heap.size + 1 + 1) := Lib.hid (by omega)
  obtain ⟨gx, hgx⟩ : ∃ g, g = wB.heap.size := ⟨_, rfl⟩
  obtain ⟨gy, hgy⟩ : ∃ g, g = wB.heap.size + 1 := ⟨_, rfl⟩
  obtain ⟨gz, hgz⟩ : ∃ g, g = wB.heap.size + 1 + 1 := ⟨_, rfl⟩
  rw [← hgz] at GZr0 HNE ⊢
  rw [← hgy] at GYr0 HNE ⊢
  have HGX : Hid (wB.heap.size ≤ gx) := Lib.hid (by omega)
  have HGY : Hid (wB.heap.size ≤ gy) := Lib.hid (by omega)
  have HGZ : Hid (wB.heap.size ≤ gz) := Lib.hid (by omega)
  rw [← hgx] at GXr0
  simp only [← hgx] at HNE ⊢
  clear hgx hgy hgz hr0
  obtain ⟨e0, HE0⟩ : ∃ e0, Int.tmod p0 500 = e0 := ⟨_, rfl⟩
  have m0 := tmod_le5 p0
  rw [HE0] at m0
  have we0 : IntKind.i64.wrap e0 = e0 := IntWalk.i64_in _ (by omega)
  have wf0 : IntKind.i64.wrap (2 * e0) = 2 * e0 := IntWalk.i64_in _ (by omega)
  have wg0 : IntKind.i64.wrap (2 * e0 + 2 * t0) = 2 * e0 + 2 * t0 := IntWalk.i64_in _ (by omega)
  have wh0 : IntKind.i64.wrap (-(2 * e0)) = -(2 * e0) := IntWalk.i64_in _ (by omega)
  obtain ⟨e1, HE1⟩ : ∃ e1, Int.tmod p1 500 = e1 := ⟨_, rfl⟩
  have m1 := tmod_le5 p1
  rw [HE1] at m1
  have we1 : IntKind.i64.wrap e1 = e1 := IntWalk.i64_in _ (by omega)
  have wf1 : IntKind.i64.wrap (2 * e1) = 2 * e1 := IntWalk.i64_in _ (by omega)
  have wg1 : IntKind.i64.wrap (2 * e1 + 2 * t1) = 2 * e1 + 2 * t1 := IntWalk.i64_in _ (by omega)
  have wh1 : IntKind.i64.wrap (-(2 * e1)) = -(2 * e1) := IntWalk.i64_in _ (by omega)
  obtain ⟨e2, HE2⟩ : ∃ e2, Int.tmod p2 500 = e2 := ⟨_, rfl⟩
  have m2 := tmod_le5 p2
  rw [HE2] at m2
  have we2 : IntKind.i64.wrap e2 = e2 := IntWalk.i64_in _ (by omega)
  have wf2 : IntKind.i64.wrap (2 * e2) = 2 * e2 := IntWalk.i64_in _ (by omega)
  have wg2 : IntKind.i64.wrap (2 * e2 + 2 * t2) = 2 * e2 + 2 * t2 := IntWalk.i64_in _ (by omega)
  have wh2 : IntKind.i64.wrap (-(2 * e2)) = -(2 * e2) := IntWalk.i64_in _ (by omega)
  go_wp2_with fail
  refine wp_loop_rounds 4 ?_
  rw [rounds_succ]
  go_upto_region 13 with (fail)
  have pq0 := HTQ.out.below HCr0.out
  have pc0 := pq0.c.c0
  have pd0 := pq0.c.f0
  have xf := GXr0.out.frozen 0
  have xc := GXr0.out.cell 0
  simp at xc
  clear pq0
  have hx' := GXr0.out.set_ 0 (.int .i64 (2 * e0))
  simp only [setIfInBounds_toArray, set_cons_zero, set_cons_succ] at hx'
  obtain ⟨a0, ha0⟩ : ∃ a0, a0 = r0.setCell ⟨gx, 0, none⟩ (.int .i64 (2 * e0)) := ⟨_, rfl⟩
  rw [← ha0] at hx'
  have GXa0 : Hid (Blk a0 gx 36 #[.int .i64 (2 * e0), .int .i64 0, .int .i64 0]) := Lib.hid hx'
  have GYa0 : Hid (Blk a0 gy 36 #[.int .i64 0, .int .i64 0, .int .i64 0]) := by subst ha0; exact Lib.hid (GYr0.out.far (Ne.symm HNE.out.1) _)
  have GZa0 : Hid (Blk a0 gz 36 #[.int .i64 0, .int .i64 0, .int .i64 0]) := by subst ha0; exact Lib.hid (GZr0.out.far (Ne.symm HNE.out.2.1) _)
  have HCa0 : Hid (Below wB.heap.size wB a0) := by subst ha0; exact Lib.hid (bw_set HCr0.out HGX.out _)
  go_upto_region 14 with (fail)
  rw [← ha0]
  clear ha0 hx' xf xc pc0 pd0 GXr0 GYr0 GZr0 HCr0
  have GBa0 := Lib.hid (blk_call GBB.out HCa0.out)
  have yf := GYa0.out.frozen 0
  have yc := GYa0.out.cell 0
  simp at yc
  have hy' := (GYa0.out.set_ 0 (.int .i64 (2 * e0 + 2 * t0))).drew
  simp only [setIfInBounds_toArray, set_cons_zero, set_cons_succ] at hy'
  refine wp_region_till (S := fun w' => w'.cell? ⟨gx, 0, none⟩ = some (.int .i64 (2 * e0)) ∧ w'.cell? ⟨gb, 0, none⟩ = some (.int .i64 y0)) 11 (by kernel_rfl) ⟨(GXa0.out.drew.cell 0), (GBa0.out.drew.cell 0)⟩ (fun hh => ?_)
  refine Till.take (i := 0) (v := ?vt38) rfl (by kernel_rfl) (by kernel_rfl) (by kernel_rfl) (by kernel_rfl) (fun _ _ _ h => h) (Or.inl ⟨by rfl, ?ht38⟩) (by assumption) ?restt38
  case ht38 => (intro w hSw; (try dsimp only at hSw); go_simp; try with_reducible rfl)
  (try simp only [Act.put, setIfInBounds_toArray, set_cons_zero, set_cons_succ])
  refine Till.take (i := 1) (v := ?vt39) rfl (by kernel_rfl) (by kernel_rfl) (by kernel_rfl) (by kernel_rfl) (fun _ _ _ h => h) (Or.inl ⟨by rfl, ?ht39⟩) (by assumption) ?restt39
  case ht39 => (intro w hSw; (try dsimp only at hSw); go_simp; try with_reducible rfl)
  (try simp only [Act.put, setIfInBounds_toArray, set_cons_zero, set_cons_succ])
  refine Till.take (i := 2) (v := ?vt40) rfl (by kernel_rfl) (by kernel_rfl) (by kernel_rfl) (by kernel_rfl) (fun _ _ _ h => h) (Or.inl ⟨by rfl, ?ht40⟩) (by assumption) ?restt40
  case ht40 => (intro w hSw; (try dsimp only at hSw); go_simp; try with_reducible rfl)
  (try simp only [Act.put, setIfInBounds_toArray, set_cons_zero, set_cons_succ])
  refine Till.take (i := 3) (v := ?vt41) rfl (by kernel_rfl) (by kernel_rfl) (by kernel_rfl) (by kernel_rfl) (fun _ _ _ h => h) (Or.inl ⟨by rfl, ?ht41⟩) (by assumption) ?restt41
  case ht41 => (intro w hSw; (try dsimp only at hSw); go_simp; try with_reducible rfl)
  (try simp only [Act.put, setIfInBounds_toArray, set_cons_zero, set_cons_succ])
  refine Till.take (i := 4) (v := ?vt42) rfl (by kernel_rfl) (by kernel_rfl) (by kernel_rfl) (by kernel_rfl) (fun _ _ _ h => h) (Or.inl ⟨by rfl, ?ht42⟩) (by assumption) ?restt42
  case ht42 => (intro w hSw; (try dsimp only at hSw); go_simp; try with_reducible rfl)
  (try simp only [Act.put, setIfInBounds_toArray, set_cons_zero, set_cons_succ])
  refine Till.take (i := 5) (v := ?vt43) rfl (by kernel_rfl) (by kernel_rfl) (by kernel_rfl) (by kernel_rfl) (fun _ _ _ h => h) (Or.inl ⟨by rfl, ?ht43⟩) (by assumption) ?restt43
  case ht43 => (intro w hSw; (try dsimp only at hSw); go_simp; try with_reducible rfl)
  (try simp only [Act.put, setIfInBounds_toArray, set_cons_zero, set_cons_succ])
  refine Till.take (i := 6) (v := ?vt44) rfl (by kernel_rfl) (by kernel_rfl) (by kernel_rfl) (by kernel_rfl) (fun _ _ _ h => h) (Or.inl ⟨by rfl, ?ht44⟩) (by assumption) ?restt44
  case ht44 => (intro w hSw; (try dsimp only at hSw); go_simp; try with_reducible rfl)
  (try simp only [Act.put, setIfInBounds_toArray, set_cons_zero, set_cons_succ])
  refine Till.take (i := 7) (v := ?vt45) rfl (by kernel_rfl) (by kernel_rfl) (by kernel_rfl) (by kernel_rfl) (fun _ _ _ h => h) (Or.inl ⟨by rfl, ?ht45⟩) (by assumption) ?restt45
  case ht45 => (intro w hSw; (try dsimp only at hSw); go_simp; try with_reducible rfl)
  (try simp only [Act.put, setIfInBounds_toArray, set_cons_zero, set_cons_succ])
  refine Till.take (i := 8) (v := ?vt46) rfl (by kernel_rfl) (by kernel_rfl) (by kernel_rfl) (by kernel_rfl) (fun _ _ _ h => h) (Or.inl ⟨by rfl, ?ht46⟩) (by assumption) ?restt46
  case ht46 => (intro w hSw; (try dsimp only at hSw); go_simp; try with_reducible rfl)
  (try simp only [Act.put, setIfInBounds_toArray, set_cons_zero, set_cons_succ])
  refine Till.take (i := 9) (v := ?vt47) rfl (by kernel_rfl) (by kernel_rfl) (by kernel_rfl) (by kernel_rfl) (fun _ _ _ h => h) (Or.inl ⟨by rfl, ?ht47⟩) (by assumption) ?restt47
  case ht47 => (intro w hSw; (try dsimp only at hSw); go_simp; try with_reducible rfl)
  (try simp only [Act.put, setIfInBounds_toArray, set_cons_zero, set_cons_succ])
  refine Till.take (i := 10) (v := ?vt48) rfl (by kernel_rfl) (by kernel_rfl) (by kernel_rfl) (by kernel_rfl) (fun _ _ _ h => h) (Or.inl ⟨by rfl, ?ht48⟩) (by assumption) ?restt48
  case ht48 => (intro w hSw; (try dsimp only at hSw); go_simp; try with_reducible rfl)
  (try simp only [Act.put, setIfInBounds_toArray, set_cons_zero, set_cons_succ])
  refine Till.ready (rs := [11]) (by kernel_rfl) (by simp) ?_
  refine TillEach.last rfl (fun K hK => ?_)
  ·go_simp
   refine hK.out _ _ ?_
   clear hK K
   (try simp only [Act.put, setIfInBounds_toArray, set_cons_zero, set_cons_succ])
   refine Till.done (by kernel_rfl) ?_ _
   obtain ⟨b0, hb0⟩ : ∃ b0, b0 = (a0.setCell ⟨gy, 0, none⟩ (.int .i64 (2 * e0 + 2 * t0))).drew := ⟨_, rfl⟩
   rw [← hb0] at hy' ⊢
   have GXb0 : Hid (Blk b0 gx 36 #[.int .i64 (2 * e0), .int .i64 0, .int .i64 0]) := by subst hb0; exact Lib.hid (GXa0.out.far HNE.out.1 _).drew
   have GYb0 : Hid (Blk b0 gy 36 #[.int .i64 (2 * e0 + 2 * t0), .int .i64 0, .int .i64 0]) := Lib.hid hy'
   have GZb0 : Hid (Blk b0 gz 36 #[.int .i64 0, .int .i64 0, .int .i64 0]) := by subst hb0; exact Lib.hid (GZa0.out.far (Ne.symm HNE.out.2.2.1) _).drew
   have HCb0 : Hid (Below wB.heap.size wB b0) := by subst hb0; exact Lib.hid (bw_drew (bw_set HCa0.out HGY.out _))
   clear hb0 hy' yf yc GXa0 GYa0 GZa0 HCa0 GBa0
   have zf := GZb0.out.frozen 0
   have zc := GZb0.out.cell 0
   have xc := GXb0.out.cell 0
   simp at zc xc
   have hz' := GZb0.out.set_ 0 (.int .i64 (-(2 * e0)))
   simp only [setIfInBounds_toArray, set_cons_zero, set_cons_succ] at hz'
   obtain ⟨r1, hr1⟩ : ∃ r1, r1 = b0.setCell ⟨gz, 0, none⟩ (.int .i64 (-(2 * e0))) := ⟨_, rfl⟩
   rw [← hr1] at hz'
   have GXr1 : Hid (Blk r1 gx 36 #[.int .i64 (2 * e0), .int .i64 0, .int .i64 0]) := by subst hr1; exact Lib.hid (GXb0.out.far HNE.out.2.1 _)
   have GYr1 : Hid (Blk r1 gy 36 #[.int .i64 (2 * e0 + 2 * t0), .int .i64 0, .int .i64 0]) := by subst hr1; exact Lib.hid (GYb0.out.far HNE.out.2.2.1 _)
   have GZr1 : Hid (Blk r1 gz 36 #[.int .i64 (-(2 * e0)), .int .i64 0, .int .i64 0]) := Lib.hid hz'
   have HCr1 : Hid (Below wB.heap.size wB r1) := by subst hr1; exact Lib.hid (bw_set HCb0.out HGZ.out _)
   go_wp2_with fail
   rw [rounds_succ]
   go_upto_region 13 with (fail)
   rw [← hr1]
   clear hr1 hz' zf zc xc GXb0 GYb0 GZb0 HCb0
   have pq1 := HTQ.out.below HCr1.out
   have pc1 := pq1.c.c1
   have pd1 := pq1.c.f1
   have xf := GXr1.out.frozen 1
   have xc := GXr1.out.cell 1
   simp at xc
   clear pq1
   have hx' := GXr1.out.set_ 1 (.int .i64 (2 * e1))
   simp only [setIfInBounds_toArray, set_cons_zero, set_cons_succ] at hx'
   obtain ⟨a1, ha1⟩ : ∃ a1, a1 = r1.setCell ⟨gx, 1, none⟩ (.int .i64 (2 * e1)) := ⟨_, rfl⟩
   rw [← ha1] at hx'
   have GXa1 : Hid (Blk a1 gx 36 #[.int .i64 (2 * e0), .int .i64 (2 * e1), .int .i64 0]) := Lib.hid hx'
   have GYa1 : Hid (Blk a1 gy 36 #[.int .i64 (2 * e0 + 2 * t0), .int .i64 0, .int .i64 0]) := by subst ha1; exact Lib.hid (GYr1.out.far (Ne.symm HNE.out.1) _)
   have GZa1 : Hid (Blk a1 gz 36 #[.int .i64 (-(2 * e0)), .int .i64 0, .int .i64 0]) := by subst ha1; exact Lib.hid (GZr1.out.far (Ne.symm HNE.out.2.1) _)
   have HCa1 : Hid (Below wB.heap.size wB a1) := by subst ha1; exact Lib.hid (bw_set HCr1.out HGX.out _)
   go_upto_region 14 with (fail)
   rw [← ha1]
   clear ha1 hx' xf xc pc1 pd1 GXr1 GYr1 GZr1 HCr1
   have GBa1 := Lib.hid (blk_call GBB.out HCa1.out)
   have yf := GYa1.out.frozen 1
   have yc := GYa1.out.cell 1
   simp at yc
   have hy' := (GYa1.out.set_ 1 (.int .i64 (2 * e1 + 2 * t1))).drew
   simp only [setIfInBounds_toArray, set_cons_zero, set_cons_succ] at hy'
   refine wp_region_till (S := fun w' => w'.cell? ⟨gx, 1, none⟩ = some (.int .i64 (2 * e1)) ∧ w'.cell? ⟨gb, 1, none⟩ = some (.int .i64 y1)) 11 (by kernel_rfl) ⟨(GXa1.out.drew.cell 1), (GBa1.out.drew.cell 1)⟩ (fun hh => ?_)
   refine Till.take (i := 0) (v := ?vt27) rfl (by kernel_rfl) (by kernel_rfl) (by kernel_rfl) (by kernel_rfl) (fun _ _ _ h => h) (Or.inl ⟨by rfl, ?ht27⟩) (by assumption) ?restt27
   case ht27 => (intro w hSw; (try dsimp only at hSw); go_simp; try with_reducible rfl)
   (try simp only [Act.put, setIfInBounds_toArray, set_cons_zero, set_cons_succ])
   refine Till.take (i := 1) (v := ?vt28) rfl (by kernel_rfl) (by kernel_rfl) (by kernel_rfl) (by kernel_rfl) (fun _ _ _ h => h) (Or.inl ⟨by rfl, ?ht28⟩) (by assumption) ?restt28
   case ht28 => (intro w hSw; (try dsimp only at hSw); go_simp; try with_reducible rfl)
   (try simp only [Act.put, setIfInBounds_toArray, set_cons_zero, set_cons_succ])
   refine Till.take (i := 2) (v := ?vt29) rfl (by kernel_rfl) (by kernel_rfl) (by kernel_rfl) (by kernel_rfl) (fun _ _ _ h => h) (Or.inl ⟨by rfl, ?ht29⟩) (by assumption) ?restt29
   case ht29 => (intro w hSw; (try dsimp only at hSw); go_simp; try with_reducible rfl)
   (try simp only [Act.put, setIfInBounds_toArray, set_cons_zero, set_cons_succ])
   refine Till.take (i := 3) (v := ?vt30) rfl (by kernel_rfl) (by kernel_rfl) (by kernel_rfl) (by kernel_rfl) (fun _ _ _ h => h) (Or.inl ⟨by rfl, ?ht30⟩) (by assumption) ?restt30
   case ht30 => (intro w hSw; (try dsimp only at hSw); go_simp; try with_reducible rfl)
   (try simp only [Act.put, setIfInBounds_toArray, set_cons_zero, set_cons_succ])
   refine Till.take (i := 4) (v := ?vt31) rfl (by kernel_rfl) (by kernel_rfl) (by kernel_rfl) (by kernel_rfl) (fun _ _ _ h => h) (Or.inl ⟨by rfl, ?ht31⟩) (by assumption) ?restt31
   case ht31 => (intro w hSw; (try dsimp only at hSw); go_simp; try with_reducible rfl)
   (try simp only [Act.put, setIfInBounds_toArray, set_cons_zero, set_cons_succ])
   refine Till.take (i := 5) (v := ?vt32) rfl (by kernel_rfl) (by kernel_rfl) (by kernel_rfl) (by kernel_rfl) (fun _ _ _ h => h) (Or.inl ⟨by rfl, ?ht32⟩) (by assumption) ?restt32
   case ht32 => (intro w hSw; (try dsimp only at hSw); go_simp; try with_reducible rfl)
   (try simp only [Act.put, setIfInBounds_toArray, set_cons_zero, set_cons_succ])
   refine Till.take (i := 6) (v := ?vt33) rfl (by kernel_rfl) (by kernel_rfl) (by kernel_rfl) (by kernel_rfl) (fun _ _ _ h => h) (Or.inl ⟨by rfl, ?ht33⟩) (by assumption) ?restt33
   case ht33 => (intro w hSw; (try dsimp only at hSw); go_simp; try with_reducible rfl)
   (try simp only [Act.put, setIfInBounds_toArray, set_cons_zero, set_cons_succ])
   refine Till.take (i := 7) (v := ?vt34) rfl (by kernel_rfl) (by kernel_rfl) (by kernel_rfl) (by kernel_rfl) (fun _ _ _ h => h) (Or.inl ⟨by rfl, ?ht34⟩) (by assumption) ?restt34
   case ht34 => (intro w hSw; (try dsimp only at hSw); go_simp; try with_reducible rfl)
   (try simp only [Act.put, setIfInBounds_toArray, set_cons_zero, set_cons_succ])
   refine Till.take (i := 8) (v := ?vt35) rfl (by kernel_rfl) (by kernel_rfl) (by kernel_rfl) (by kernel_rfl) (fun _ _ _ h => h) (Or.inl ⟨by rfl, ?ht35⟩) (by assumption) ?restt35
   case ht35 => (intro w hSw; (try dsimp only at hSw); go_simp; try with_reducible rfl)
   (try simp only [Act.put, setIfInBounds_toArray, set_cons_zero, set_cons_succ])
   refine Till.take (i := 9) (v := ?vt36) rfl (by kernel_rfl) (by kernel_rfl) (by kernel_rfl) (by kernel_rfl) (fun _ _ _ h => h) (Or.inl ⟨by rfl, ?ht36⟩) (by assumption) ?restt36
   case ht36 => (intro w hSw; (try dsimp only at hSw); go_simp; try with_reducible rfl)
   (try simp only [Act.put, setIfInBounds_toArray, set_cons_zero, set_cons_succ])
   refine Till.take (i := 10) (v := ?vt37) rfl (by kernel_rfl) (by kernel_rfl) (by kernel_rfl) (by kernel_rfl) (fun _ _ _ h => h) (Or.inl ⟨by rfl, ?ht37⟩) (by assumption) ?restt37
   case ht37 => (intro w hSw; (try dsimp only at hSw); go_simp; try with_reducible rfl)
   (try simp only [Act.put, setIfInBounds_toArray, set_cons_zero, set_cons_succ])
   refine Till.ready (rs := [11]) (by kernel_rfl) (by simp) ?_
   refine TillEach.last rfl (fun K hK => ?_)
   ·go_simp
    refine hK.out _ _ ?_
    clear hK K
    (try simp only [Act.put, setIfInBounds_toArray, set_cons_zero, set_cons_succ])
    refine Till.done (by kernel_rfl) ?_ _
    obtain ⟨b1, hb1⟩ : ∃ b1, b1 = (a1.setCell ⟨gy, 1, none⟩ (.int .i64 (2 * e1 + 2 * t1))).drew := ⟨_, rfl⟩
    rw [← hb1] at hy' ⊢
    have GXb1 : Hid (Blk b1 gx 36 #[.int .i64 (2 * e0), .int .i64 (2 * e1), .int .i64 0]) := by subst hb1; exact Lib.hid (GXa1.out.far HNE.out.1 _).drew
    have GYb1 : Hid (Blk b1 gy 36 #[.int .i64 (2 * e0 + 2 * t0), .int .i64 (2 * e1 + 2 * t1), .int .i64 0]) := Lib.hid hy'
    have GZb1 : Hid (Blk b1 gz 36 #[.int .i64 (-(2 * e0)), .int .i64 0, .int .i64 0]) := by subst hb1; exact Lib.hid (GZa1.out.far (Ne.symm HNE.out.2.2.1) _).drew
    have HCb1 : Hid (Below wB.heap.size wB b1) := by subst hb1; exact Lib.hid (bw_drew (bw_set HCa1.out HGY.out _))
    clear hb1 hy' yf yc GXa1 GYa1 GZa1 HCa1 GBa1
    have zf := GZb1.out.frozen 1
    have zc := GZb1.out.cell 1
    have xc := GXb1.out.cell 1
    simp at zc xc
    have hz' := GZb1.out.set_ 1 (.int .i64 (-(2 * e1)))
    simp only [setIfInBounds_toArray, set_cons_zero, set_cons_succ] at hz'
    obtain ⟨r2, hr2⟩ : ∃ r2, r2 = b1.setCell ⟨gz, 1, none⟩ (.int .i64 (-(2 * e1))) := ⟨_, rfl⟩
    rw [← hr2] at hz'
    have GXr2 : Hid (Blk r2 gx 36 #[.int .i64 (2 * e0), .int .i64 (2 * e1), .int .i64 0]) := by subst hr2; exact Lib.hid (GXb1.out.far HNE.out.2.1 _)
    have GYr2 : Hid (Blk r2 gy 36 #[.int .i64 (2 * e0 + 2 * t0), .int .i64 (2 * e1 + 2 * t1), .int .i64 0]) := by subst hr2; exact Lib.hid (GYb1.out.far HNE.out.2.2.1 _)
    have GZr2 : Hid (Blk r2 gz 36 #[.int .i64 (-(2 * e0)), .int .i64 (-(2 * e1)), .int .i64 0]) := Lib.hid hz'
    have HCr2 : Hid (Below wB.heap.size wB r2) := by subst hr2; exact Lib.hid (bw_set HCb1.out HGZ.out _)
    go_wp2_with fail
    rw [rounds_succ]
    go_upto_region 13 with (fail)
    rw [← hr2]
    clear hr2 hz' zf zc xc GXb1 GYb1 GZb1 HCb1
    have pq2 := HTQ.out.below HCr2.out
    have pc2 := pq2.c.c2
    have pd2 := pq2.c.f2
    have xf := GXr2.out.frozen 2
    have xc := GXr2.out.cell 2
    simp at xc
    clear pq2
    have hx' := GXr2.out.set_ 2 (.int .i64 (2 * e2))
    simp only [setIfInBounds_toArray, set_cons_zero, set_cons_succ] at hx'
    obtain ⟨a2, ha2⟩ : ∃ a2, a2 = r2.setCell ⟨gx, 2, none⟩ (.int .i64 (2 * e2)) := ⟨_, rfl⟩
    rw [← ha2] at hx'
    have GXa2 : Hid (Blk a2 gx 36 #[.int .i64 (2 * e0), .int .i64 (2 * e1), .int .i64 (2 * e2)]) := Lib.hid hx'
    have GYa2 : Hid (Blk a2 gy 36 #[.int .i64 (2 * e0 + 2 * t0), .int .i64 (2 * e1 + 2 * t1), .int .i64 0]) := by subst ha2; exact Lib.hid (GYr2.out.far (Ne.symm HNE.out.1) _)
    have GZa2 : Hid (Blk a2 gz 36 #[.int .i64 (-(2 * e0)), .int .i64 (-(2 * e1)), .int .i64 0]) := by subst ha2; exact Lib.hid (GZr2.out.far (Ne.symm HNE.out.2.1) _)
    have HCa2 : Hid (Below wB.heap.size wB a2) := by subst ha2; exact Lib.hid (bw_set HCr2.out HGX.out _)
    go_upto_region 14 with (fail)
    rw [← ha2]
    clear ha2 hx' xf xc pc2 pd2 GXr2 GYr2 GZr2 HCr2
    have GBa2 := Lib.hid (blk_call GBB.out HCa2.out)
    have yf := GYa2.out.frozen 2
    have yc := GYa2.out.cell 2
    simp at yc
    have hy' := (GYa2.out.set_ 2 (.int .i64 (2 * e2 + 2 * t2))).drew
    simp only [setIfInBounds_toArray, set_cons_zero, set_cons_succ] at hy'
    refine wp_region_till (S := fun w' => w'.cell? ⟨gx, 2, none⟩ = some (.int .i64 (2 * e2)) ∧ w'.cell? ⟨gb, 2, none⟩ = some (.int .i64 y2)) 11 (by kernel_rfl) ⟨(GXa2.out.drew.cell 2), (GBa2.out.drew.cell 2)⟩ (fun hh => ?_)
    refine Till.take (i := 0) (v := ?vt16) rfl (by kernel_rfl) (by kernel_rfl) (by kernel_rfl) (by kernel_rfl) (fun _ _ _ h => h) (Or.inl ⟨by rfl, ?ht16⟩) (by assumption) ?restt16
    case ht16 => (intro w hSw; (try dsimp only at hSw); go_simp; try with_reducible rfl)
    (try simp only [Act.put, setIfInBounds_toArray, set_cons_zero, set_cons_succ])
    refine Till.take (i := 1) (v := ?vt17) rfl (by kernel_rfl) (by kernel_rfl) (by kernel_rfl) (by kernel_rfl) (fun _ _ _ h => h) (Or.inl ⟨by rfl, ?ht17⟩) (by assumption) ?restt17
    case ht17 => (intro w hSw; (try dsimp only at hSw); go_simp; try with_reducible rfl)
    (try simp only [Act.put, setIfInBounds_toArray, set_cons_zero, set_cons_succ])
    refine Till.take (i := 2) (v := ?vt18) rfl (by kernel_rfl) (by kernel_rfl) (by kernel_rfl) (by kernel_rfl) (fun _ _ _ h => h) (Or.inl ⟨by rfl, ?ht18⟩) (by assumption) ?restt18
    case ht18 => (intro w hSw; (try dsimp only at hSw); go_simp; try with_reducible rfl)
    (try simp only [Act.put, setIfInBounds_toArray, set_cons_zero, set_cons_succ])
    refine Till.take (i := 3) (v := ?vt19) rfl (by kernel_rfl) (by kernel_rfl) (by kernel_rfl) (by kernel_rfl) (fun _ _ _ h => h) (Or.inl ⟨by rfl, ?ht19⟩) (by assumption) ?restt19
    case ht19 => (intro w hSw; (try dsimp only at hSw); go_simp; try with_reducible rfl)
    (try simp only [Act.put, setIfInBounds_toArray, set_cons_zero, set_cons_succ])
    refine Till.take (i := 4) (v := ?vt20) rfl (by kernel_rfl) (by kernel_rfl) (by kernel_rfl) (by kernel_rfl) (fun _ _ _ h => h) (Or.inl ⟨by rfl, ?ht20⟩) (by assumption) ?restt20
    case ht20 => (intro w hSw; (try dsimp only at hSw); go_simp; try with_reducible rfl)
    (try simp only [Act.put, setIfInBounds_toArray, set_cons_zero, set_cons_succ])
    refine Till.take (i := 5) (v := ?vt21) rfl (by kernel_rfl) (by kernel_rfl) (by kernel_rfl) (by kernel_rfl) (fun _ _ _ h => h) (Or.inl ⟨by rfl, ?ht21⟩) (by assumption) ?restt21
    case ht21 => (intro w hSw; (try dsimp only at hSw); go_simp; try with_reducible rfl)
    (try simp only [Act.put, setIfInBounds_toArray, set_cons_zero, set_cons_succ])
    refine Till.take (i := 6) (v := ?vt22) rfl (by kernel_rfl) (by kernel_rfl) (by kernel_rfl) (by kernel_rfl) (fun _ _ _ h => h) (Or.inl ⟨by rfl, ?ht22⟩) (by assumption) ?restt22
    case ht22 => (intro w hSw; (try dsimp only at hSw); go_simp; try with_reducible rfl)
    (try simp only [Act.put, setIfInBounds_toArray, set_cons_zero, set_cons_succ])
    refine Till.take (i := 7) (v := ?vt23) rfl (by kernel_rfl) (by kernel_rfl) (by kernel_rfl) (by kernel_rfl) (fun _ _ _ h => h) (Or.inl ⟨by rfl, ?ht23⟩) (by assumption) ?restt23
    case ht23 => (intro w hSw; (try dsimp only at hSw); go_simp; try with_reducible rfl)
    (try simp only [Act.put, setIfInBounds_toArray, set_cons_zero, set_cons_succ])
    refine Till.take (i := 8) (v := ?vt24) rfl (by kernel_rfl) (by kernel_rfl) (by kernel_rfl) (by kernel_rfl) (fun _ _ _ h => h) (Or.inl ⟨by rfl, ?ht24⟩) (by assumption) ?restt24
    case ht24 => (intro w hSw; (try dsimp only at hSw); go_simp; try with_reducible rfl)
    (try simp only [Act.put, setIfInBounds_toArray, set_cons_zero, set_cons_succ])
    refine Till.take (i := 9) (v := ?vt25) rfl (by kernel_rfl) (by kernel_rfl) (by kernel_rfl) (by kernel_rfl) (fun _ _ _ h => h) (Or.inl ⟨by rfl, ?ht25⟩) (by assumption) ?restt25
    case ht25 => (intro w hSw; (try dsimp only at hSw); go_simp; try with_reducible rfl)
    (try simp only [Act.put, setIfInBounds_toArray, set_cons_zero, set_cons_succ])
    refine Till.take (i := 10) (v := ?vt26) rfl (by kernel_rfl) (by kernel_rfl) (by kernel_rfl) (by kernel_rfl) (fun _ _ _ h => h) (Or.inl ⟨by rfl, ?ht26⟩) (by assumption) ?restt26
    case ht26 => (intro w hSw; (try dsimp only at hSw); go_simp; try with_reducible rfl)
    (try simp only [Act.put, setIfInBounds_toArray, set_cons_zero, set_cons_succ])
    refine Till.ready (rs := [11]) (by kernel_rfl) (by simp) ?_
    refine TillEach.last rfl (fun K hK => ?_)
    ·go_simp
     refine hK.out _ _ ?_
     clear hK K
     (try simp only [Act.put, setIfInBounds_toArray, set_cons_zero, set_cons_succ])
     refine Till.done (by kernel_rfl) ?_ _
     obtain ⟨b2, hb2⟩ : ∃ b2, b2 = (a2.setCell ⟨gy, 2, none⟩ (.int .i64 (2 * e2 + 2 * t2))).drew := ⟨_, rfl⟩
     rw [← hb2] at hy' ⊢
     have GXb2 : Hid (Blk b2 gx 36 #[.int .i64 (2 * e0), .int .i64 (2 * e1), .int .i64 (2 * e2)]) := by subst hb2; exact Lib.hid (GXa2.out.far HNE.out.1 _).drew
     have GYb2 : Hid (Blk b2 gy 36 #[.int .i64 (2 * e0 + 2 * t0), .int .i64 (2 * e1 + 2 * t1), .int .i64 (2 * e2 + 2 * t2)]) := Lib.hid hy'
     have GZb2 : Hid (Blk b2 gz 36 #[.int .i64 (-(2 * e0)), .int .i64 (-(2 * e1)), .int .i64 0]) := by subst hb2; exact Lib.hid (GZa2.out.far (Ne.symm HNE.out.2.2.1) _).drew
     have HCb2 : Hid (Below wB.heap.size wB b2) := by subst hb2; exact Lib.hid (bw_drew (bw_set HCa2.out HGY.out _))
     clear hb2 hy' yf yc GXa2 GYa2 GZa2 HCa2 GBa2
     have zf := GZb2.out.frozen 2
     have zc := GZb2.out.cell 2
     have xc := GXb2.out.cell 2
     simp at zc xc
     have hz' := GZb2.out.set_ 2 (.int .i64 (-(2 * e2)))
     simp only [setIfInBounds_toArray, set_cons_zero, set_cons_succ] at hz'
     obtain ⟨r3, hr3⟩ : ∃ r3, r3 = b2.setCell ⟨gz, 2, none⟩ (.int .i64 (-(2 * e2))) := ⟨_, rfl⟩
     rw [← hr3] at hz'
     have GXr3 : Hid (Blk r3 gx 36 #[.int .i64 (2 * e0), .int .i64 (2 * e1), .int .i64 (2 * e2)]) := by subst hr3; exact Lib.hid (GXb2.out.far HNE.out.2.1 _)
     have GYr3 : Hid (Blk r3 gy 36 #[.int .i64 (2 * e0 + 2 * t0), .int .i64 (2 * e1 + 2 * t1), .int .i64 (2 * e2 + 2 * t2)]) := by subst hr3; exact Lib.hid (GYb2.out.far HNE.out.2.2.1 _)
     have GZr3 : Hid (Blk r3 gz 36 #[.int .i64 (-(2 * e0)), .int .i64 (-(2 * e1)), .int .i64 (-(2 * e2))]) := Lib.hid hz'
     have HCr3 : Hid (Below wB.heap.size wB r3) := by subst hr3; exact Lib.hid (bw_set HCb2.out HGZ.out _)
     go_wp2_with fail
     rw [rounds_succ]
     go_upto_region 16 with (fail)
     rw [← hr3]
     clear hr3 hz' zf zc xc GXb2 GYb2 GZb2 HCb2
     have P_3 := Lib.hid (PRk.out.below HCr3.out)
     have HB_3 : Hid (Below V1.heap.size V1 r3) := Lib.hid (bw_call HCk.out HCr3.out)
     have MVn := Lib.hid (MVk.out.snoc m0 m1 m2)
     have PX_3 := Lib.hid (PB.old PRk.out HGX.out ⟨2 * e0, 2 * e1, 2 * e2⟩ GXr3.out)
     have PY_3 := Lib.hid (PB.old PRk.out HGY.out ⟨2 * e0 + 2 * t0, 2 * e1 + 2 * t1, 2 * e2 + 2 * t2⟩ GYr3.out)
     have PZ_3 := Lib.hid (PB.old PRk.out HGZ.out ⟨-(2 * e0), -(2 * e1), -(2 * e2)⟩ GZr3.out)
     clear PRk HCr3 HCk MVk GXr3 GYr3 GZr3 HTQ GBB HPB HNE HGX HGY HGZ
     refine wp_region_till (S := fun w' => w'.cell? ⟨gx, 0, none⟩ = some (.int .i64 (2 * e0)) ∧ w'.cell? ⟨gx, 1, none⟩ = some (.int .i64 (2 * e1)) ∧ w'.cell? ⟨gx, 2, none⟩ = some (.int .i64 (2 * e2)) ∧ w'.cell? ⟨gy, 0, none⟩ = some (.int .i64 (2 * e0 + 2 * t0)) ∧ w'.cell? ⟨gy, 1, none⟩ = some (.int .i64 (2 * e1 + 2 * t1)) ∧ w'.cell? ⟨gy, 2, none⟩ = some (.int .i64 (2 * e2 + 2 * t2)) ∧ w'.cell? ⟨gz, 0, none⟩ = some (.int .i64 (-(2 * e0))) ∧ w'.cell? ⟨gz, 1, none⟩ = some (.int .i64 (-(2 * e1))) ∧ w'.cell? ⟨gz, 2, none⟩ = some (.int .i64 (-(2 * e2)))) 14 (by kernel_rfl) ⟨PX_3.out.drew.b.cell 0, PX_3.out.drew.b.cell 1, PX_3.out.drew.b.cell 2, PY_3.out.drew.b.cell 0, PY_3.out.drew.b.cell 1, PY_3.out.drew.b.cell 2, PZ_3.out.drew.b.cell 0, PZ_3.out.drew.b.cell 1, PZ_3.out.drew.b.cell 2⟩ (fun hh => ?_)
     refine Till.take (i := 0) (v := ?vt10) rfl (by kernel_rfl) (by kernel_rfl) (by kernel_rfl) (by kernel_rfl) (fun _ _ _ h => h) (Or.inl ⟨by rfl, ?ht10⟩) (by assumption) ?restt10
     case ht10 => (intro w hSw; (try dsimp only at hSw); go_simp; try with_reducible rfl)
     (try simp only [Act.put, setIfInBounds_toArray, set_cons_zero, set_cons_succ])
     refine Till.take (i := 1) (v := ?vt11) rfl (by kernel_rfl) (by kernel_rfl) (by kernel_rfl) (by kernel_rfl) (fun _ _ _ h => h) (Or.inl ⟨by rfl, ?ht11⟩) (by assumption) ?restt11
     case ht11 => (intro w hSw; (try dsimp only at hSw); go_simp; try with_reducible rfl)
     (try simp only [Act.put, setIfInBounds_toArray, set_cons_zero, set_cons_succ])
     refine Till.take (i := 4) (v := ?vt12) rfl (by kernel_rfl) (by kernel_rfl) (by kernel_rfl) (by kernel_rfl) (fun _ _ _ h => h) (Or.inl ⟨by rfl, ?ht12⟩) (by assumption) ?restt12
     case ht12 => (intro w hSw; (try dsimp only at hSw); go_simp; try with_reducible rfl)
     (try simp only [Act.put, setIfInBounds_toArray, set_cons_zero, set_cons_succ])
     refine Till.take (i := 5) (v := ?vt13) rfl (by kernel_rfl) (by kernel_rfl) (by kernel_rfl) (by kernel_rfl) (fun _ _ _ h => h) (Or.inl ⟨by rfl, ?ht13⟩) (by assumption) ?restt13
     case ht13 => (intro w hSw; (try dsimp only at hSw); go_simp; try with_reducible rfl)
     (try simp only [Act.put, setIfInBounds_toArray, set_cons_zero, set_cons_succ])
     refine Till.take (i := 8) (v := ?vt14) rfl (by kernel_rfl) (by kernel_rfl) (by kernel_rfl) (by kernel_rfl) (fun _ _ _ h => h) (Or.inl ⟨by rfl, ?ht14⟩) (by assumption) ?restt14
     case ht14 => (intro w hSw; (try dsimp only at hSw); go_simp; try with_reducible rfl)
     (try simp only [Act.put, setIfInBounds_toArray, set_cons_zero, set_cons_succ])
     refine Till.take (i := 9) (v := ?vt15) rfl (by kernel_rfl) (by kernel_rfl) (by kernel_rfl) (by kernel_rfl) (fun _ _ _ h => h) (Or.inl ⟨by rfl, ?ht15⟩) (by assumption) ?restt15
     case ht15 => (intro w hSw; (try dsimp only at hSw); go_simp; try with_reducible rfl)
     (try simp only [Act.put, setIfInBounds_toArray, set_cons_zero, set_cons_succ])
     refine Till.ready (rs := [2, 6, 10]) (by kernel_rfl) (by simp) ?_
     refine TillEach.cons rfl (fun K hK => ?_) ?_
     ·go_simp
      obtain ⟨u3b0, hu⟩ : ∃ u, u = (r3.alloc (.cells #[.int .i64 (2 * e0), .int .i64 (2 * e1), .int .i64 (2 * e2)] 36)).drew := ⟨_, rfl⟩
      rw [← hu]
      have HBd := Lib.hid (bw_drew HB_3.out)
      have P_3b0 := Lib.hid ((P_3.out.alloc (.cells #[.int .i64 (2 * e0), .int .i64 (2 * e1), .int .i64 (2 * e2)] 36)).drew)
      have PX_3b0 := Lib.hid ((PX_3.out.alloc (.cells #[.int .i64 (2 * e0), .int .i64 (2 * e1), .int .i64 (2 * e2)] 36)).drew)
      have PY_3b0 := Lib.hid ((PY_3.out.alloc (.cells #[.int .i64 (2 * e0), .int .i64 (2 * e1), .int .i64 (2 * e2)] 36)).drew)
      have PZ_3b0 := Lib.hid ((PZ_3.out.alloc (.cells #[.int .i64 (2 * e0), .int .i64 (2 * e1), .int .i64 (2 * e2)] 36)).drew)
      have PB0_3b0 := Lib.hid ((PB.new_ P_3.out ⟨2 * e0, 2 * e1, 2 * e2⟩).drew)
      have HB_3b0 : Hid (Below V1.heap.size V1 ((r3.alloc (.cells #[.int .i64 (2 * e0), .int .i64 (2 * e1), .int .i64 (2 * e2)] 36)).drew)) := Lib.hid (bw_drew (bw_alloc HB_3.out _))
      rw [← hu] at P_3b0 PX_3b0 PY_3b0 PZ_3b0 HB_3b0 PB0_3b0
      obtain ⟨g0, hg0⟩ : ∃ g, g = r3.heap.size := ⟨_, rfl⟩
      rw [← hg0] at PB0_3b0 ⊢
      refine hK.out _ _ ?_ (fun hh => ?_)
      ·exact ⟨PX_3b0.out.b.cell 0, PX_3b0.out.b.cell 1, PX_3b0.out.b.cell 2, PY_3b0.out.b.cell 0, PY_3b0.out.b.cell 1, PY_3b0.out.b.cell 2, PZ_3b0.out.b.cell 0, PZ_3b0.out.b.cell 1, PZ_3b0.out.b.cell 2⟩
      clear hK K hu hg0 HBd
      (try simp only [Act.put, setIfInBounds_toArray, set_cons_zero, set_cons_succ])
      refine Till.ready (rs := [3, 6, 10]) (by kernel_rfl) (by simp) ?_
      refine TillEach.cons rfl (fun K hK => ?_) ?_
      ·refine step_append_sl _ (by rfl) (.tmp 64) (.tmp 66) _ (by rfl) V1.heap.size 36 i0 _ 3 24 Try.underlying34 hi0 hz0 hz1 hz2 rfl (by omega) (.slice Ao k co) k (O.flatMap Tri.cells) (by rfl) P_3b0.out.o.own (g0 + 1) (some ⟨g0, 0, none⟩) 1 1 [.int .i64 (2 * e0), .int .i64 (2 * e1), .int .i64 (2 * e2)] (by rfl) PB0_3b0.out.reads (by simp [Value.oneCell']) (by simp only [maxLen]; omega) (by omega) (bw_size HB_3b0.out) ?_
       intro A3b0a0 c3b0a0 u3b0a0 hown hg hat
       have P_3b0a0 := Lib.hid (P_3b0.out.appO (t := ⟨2 * e0, 2 * e1, 2 * e2⟩) hown hg hat)
       have PX_3b0a0 := Lib.hid (PX_3b0.out.appO hg hat)
       have PY_3b0a0 := Lib.hid (PY_3b0.out.appO hg hat)
       have PZ_3b0a0 := Lib.hid (PZ_3b0.out.appO hg hat)
       have HB_3b0a0 := Lib.hid (bw_grow HB_3b0.out hg (fun x hx => (P_3b0.out.o.lt_ x hx).1))
       refine hK.out _ _ ?_ (fun hh => ?_)
       ·exact ⟨PX_3b0a0.out.b.cell 0, PX_3b0a0.out.b.cell 1, PX_3b0a0.out.b.cell 2, PY_3b0a0.out.b.cell 0, PY_3b0a0.out.b.cell 1, PY_3b0a0.out.b.cell 2, PZ_3b0a0.out.b.cell 0, PZ_3b0a0.out.b.cell 1, PZ_3b0a0.out.b.cell 2⟩
       clear hK K hown hg hat
       (try simp only [Act.put, setIfInBounds_toArray, set_cons_zero, set_cons_succ])
       refine Till.ready (rs := [6, 10]) (by kernel_rfl) (by simp) ?_
       refine TillEach.cons rfl (fun K hK => ?_) ?_
       ·go_simp
        obtain ⟨u3b0a0b1, hu⟩ : ∃ u, u = u3b0a0.alloc (.cells #[.int .i64 (2 * e0 + 2 * t0), .int .i64 (2 * e1 + 2 * t1), .int .i64 (2 * e2 + 2 * t2)] 36) := ⟨_, rfl⟩
        rw [← hu]
        have P_3b0a0b1 := Lib.hid (P_3b0a0.out.alloc (.cells #[.int .i64 (2 * e0 + 2 * t0), .int .i64 (2 * e1 + 2 * t1), .int .i64 (2 * e2 + 2 * t2)] 36))
        have PX_3b0a0b1 := Lib.hid (PX_3b0a0.out.alloc (.cells #[.int .i64 (2 * e0 + 2 * t0), .int .i64 (2 * e1 + 2 * t1), .int .i64 (2 * e2 + 2 * t2)] 36))
        have PY_3b0a0b1 := Lib.hid (PY_3b0a0.out.alloc (.cells #[.int .i64 (2 * e0 + 2 * t0), .int .i64 (2 * e1 + 2 * t1), .int .i64 (2 * e2 + 2 * t2)] 36))
        have PZ_3b0a0b1 := Lib.hid (PZ_3b0a0.out.alloc (.cells #[.int .i64 (2 * e0 + 2 * t0), .int .i64 (2 * e1 + 2 * t1), .int .i64 (2 * e2 + 2 * t2)] 36))
        have PB1_3b0a0b1 := Lib.hid (PB.new_ P_3b0a0.out ⟨2 * e0 + 2 * t0, 2 * e1 + 2 * t1, 2 * e2 + 2 * t2⟩)
        have HB_3b0a0b1 : Hid (Below V1.heap.size V1 (u3b0a0.alloc (.cells #[.int .i64 (2 * e0 + 2 * t0), .int .i64 (2 * e1 + 2 * t1), .int .i64 (2 * e2 + 2 * t2)] 36))) := Lib.hid ((bw_alloc HB_3b0a0.out _))
        rw [← hu] at P_3b0a0b1 PX_3b0a0b1 PY_3b0a0b1 PZ_3b0a0b1 HB_3b0a0b1 PB1_3b0a0b1
        obtain ⟨g1, hg1⟩ : ∃ g, g = u3b0a0.heap.size := ⟨_, rfl⟩
        rw [← hg1] at PB1_3b0a0b1 ⊢
        refine hK.out _ _ ?_ (fun hh => ?_)
        ·exact ⟨PX_3b0a0b1.out.b.cell 0, PX_3b0a0b1.out.b.cell 1, PX_3b0a0b1.out.b.cell 2, PY_3b0a0b1.out.b.cell 0, PY_3b0a0b1.out.b.cell 1, PY_3b0a0b1.out.b.cell 2, PZ_3b0a0b1.out.b.cell 0, PZ_3b0a0b1.out.b.cell 1, PZ_3b0a0b1.out.b.cell 2⟩
        clear hK K hu hg1
        (try simp only [Act.put, setIfInBounds_toArray, set_cons_zero, set_cons_succ])
        refine Till.ready (rs := [7, 10]) (by kernel_rfl) (by simp) ?_
        refine TillEach.cons rfl (fun K hK => ?_) ?_
        ·refine step_append_sl _ (by rfl) (.tmp 68) (.tmp 70) _ (by rfl) V1.heap.size 36 i0 _ 3 24 Try.underlying34 hi0 hz0 hz1 hz2 rfl (by omega) (.slice Aq k cq) k (Q.flatMap Tri.cells) (by rfl) P_3b0a0b1.out.q.own (g1 + 1) (some ⟨g1, 0, none⟩) 1 1 [.int .i64 (2 * e0 + 2 * t0), .int .i64 (2 * e1 + 2 * t1), .int .i64 (2 * e2 + 2 * t2)] (by rfl) PB1_3b0a0b1.out.reads (by simp [Value.oneCell']) (by simp only [maxLen]; omega) (by omega) (bw_size HB_3b0a0b1.out) ?_
         intro A3b0a0b1a1 c3b0a0b1a1 u3b0a0b1a1 hown hg hat
         have P_3b0a0b1a1 := Lib.hid (P_3b0a0b1.out.appQ (t := ⟨2 * e0 + 2 * t0, 2 * e1 + 2 * t1, 2 * e2 + 2 * t2⟩) hown hg hat)
         have PX_3b0a0b1a1 := Lib.hid (PX_3b0a0b1.out.appQ hg hat)
         have PY_3b0a0b1a1 := Lib.hid (PY_3b0a0b1.out.appQ hg hat)
         have PZ_3b0a0b1a1 := Lib.hid (PZ_3b0a0b1.out.appQ hg hat)
         have HB_3b0a0b1a1 := Lib.hid (bw_grow HB_3b0a0b1.out hg (fun x hx => (P_3b0a0b1.out.q.lt_ x hx).1))
         refine hK.out _ _ ?_ (fun hh => ?_)
         ·exact ⟨PX_3b0a0b1a1.out.b.cell 0, PX_3b0a0b1a1.out.b.cell 1, PX_3b0a0b1a1.out.b.cell 2, PY_3b0a0b1a1.out.b.cell 0, PY_3b0a0b1a1.out.b.cell 1, PY_3b0a0b1a1.out.b.cell 2, PZ_3b0a0b1a1.out.b.cell 0, PZ_3b0a0b1a1.out.b.cell 1, PZ_3b0a0b1a1.out.b.cell 2⟩
         clear hK K hown hg hat
         (try simp only [Act.put, setIfInBounds_toArray, set_cons_zero, set_cons_succ])
         refine Till.ready (rs := [10]) (by kernel_rfl) (by simp) ?_
         refine TillEach.cons rfl (fun K hK => ?_) ?_
         ·go_simp
          obtain ⟨u3b0a0b1a1b2, hu⟩ : ∃ u, u = u3b0a0b1a1.alloc (.cells #[.int .i64 (-(2 * e0)), .int .i64 (-(2 * e1)), .int .i64 (-(2 * e2))] 36) := ⟨_, rfl⟩
          rw [← hu]
          have P_3b0a0b1a1b2 := Lib.hid (P_3b0a0b1a1.out.alloc (.cells #[.int .i64 (-(2 * e0)), .int .i64 (-(2 * e1)), .int .i64 (-(2 * e2))] 36))
          have PX_3b0a0b1a1b2 := Lib.hid (PX_3b0a0b1a1.out.alloc (.cells #[.int .i64 (-(2 * e0)), .int .i64 (-(2 * e1)), .int .i64 (-(2 * e2))] 36))
          have PY_3b0a0b1a1b2 := Lib.hid (PY_3b0a0b1a1.out.alloc (.cells #[.int .i64 (-(2 * e0)), .int .i64 (-(2 * e1)), .int .i64 (-(2 * e2))] 36))
          have PZ_3b0a0b1a1b2 := Lib.hid (PZ_3b0a0b1a1.out.alloc (.cells #[.int .i64 (-(2 * e0)), .int .i64 (-(2 * e1)), .int .i64 (-(2 * e2))] 36))
          have PB2_3b0a0b1a1b2 := Lib.hid (PB.new_ P_3b0a0b1a1.out ⟨-(2 * e0), -(2 * e1), -(2 * e2)⟩)
          have HB_3b0a0b1a1b2 : Hid (Below V1.heap.size V1 (u3b0a0b1a1.alloc (.cells #[.int .i64 (-(2 * e0)), .int .i64 (-(2 * e1)), .int .i64 (-(2 * e2))] 36))) := Lib.hid ((bw_alloc HB_3b0a0b1a1.out _))
          rw [← hu] at P_3b0a0b1a1b2 PX_3b0a0b1a1b2 PY_3b0a0b1a1b2 PZ_3b0a0b1a1b2 HB_3b0a0b1a1b2 PB2_3b0a0b1a1b2
          obtain ⟨g2, hg2⟩ : ∃ g, g = u3b0a0b1a1.heap.size := ⟨_, rfl⟩
          rw [← hg2] at PB2_3b0a0b1a1b2 ⊢
          refine hK.out _ _ ?_ (fun hh => ?_)
          ·exact ⟨PX_3b0a0b1a1b2.out.b.cell 0, PX_3b0a0b1a1b2.out.b.cell 1, PX_3b0a0b1a1b2.out.b.cell 2, PY_3b0a0b1a1b2.out.b.cell 0, PY_3b0a0b1a1b2.out.b.cell 1, PY_3b0a0b1a1b2.out.b.cell 2, PZ_3b0a0b1a1b2.out.b.cell 0, PZ_3b0a0b1a1b2.out.b.cell 1, PZ_3b0a0b1a1b2.out.b.cell 2⟩
          clear hK K hu hg2
          (try simp only [Act.put, setIfInBounds_toArray, set_cons_zero, set_cons_succ])
          refine Till.ready (rs := [11]) (by kernel_rfl) (by simp) ?_
          refine TillEach.cons rfl (fun K hK => ?_) ?_
          ·refine step_append_sl _ (by rfl) (.tmp 72) (.tmp 74) _ (by rfl) V1.heap.size 36 i0 _ 3 24 Try.underlying34 hi0 hz0 hz1 hz2 rfl (by omega) (.slice Am k cm) k (M.flatMap Tri.cells) (by rfl) P_3b0a0b1a1b2.out.m.own (g2 + 1) (some ⟨g2, 0, none⟩) 1 1 [.int .i64 (-(2 * e0)), .int .i64 (-(2 * e1)), .int .i64 (-(2 * e2))] (by rfl) PB2_3b0a0b1a1b2.out.reads (by simp [Value.oneCell']) (by simp only [maxLen]; omega) (by omega) (bw_size HB_3b0a0b1a1b2.out) ?_
           intro A3b0a0b1a1b2a2 c3b0a0b1a1b2a2 u3b0a0b1a1b2a2 hown hg hat
           have P_3b0a0b1a1b2a2 := Lib.hid (P_3b0a0b1a1b2.out.appM (t := ⟨-(2 * e0), -(2 * e1), -(2 * e2)⟩) hown hg hat)
           have PX_3b0a0b1a1b2a2 := Lib.hid (PX_3b0a0b1a1b2.out.appM hg hat)
           have PY_3b0a0b1a1b2a2 := Lib.hid (PY_3b0a0b1a1b2.out.appM hg hat)
           have PZ_3b0a0b1a1b2a2 := Lib.hid (PZ_3b0a0b1a1b2.out.appM hg hat)
           have HB_3b0a0b1a1b2a2 := Lib.hid (bw_grow HB_3b0a0b1a1b2.out hg (fun x hx => (P_3b0a0b1a1b2.out.m.lt_ x hx).1))
           refine hK.out _ _ ?_ (fun hh => ?_)
           ·exact ⟨PX_3b0a0b1a1b2a2.out.b.cell 0, PX_3b0a0b1a1b2a2.out.b.cell 1, PX_3b0a0b1a1b2a2.out.b.cell 2, PY_3b0a0b1a1b2a2.out.b.cell 0, PY_3b0a0b1a1b2a2.out.b.cell 1, PY_3b0a0b1a1b2a2.out.b.cell 2, PZ_3b0a0b1a1b2a2.out.b.cell 0, PZ_3b0a0b1a1b2a2.out.b.cell 1, PZ_3b0a0b1a1b2a2.out.b.cell 2⟩
           clear hK K hown hg hat
           (try simp only [Act.put, setIfInBounds_toArray, set_cons_zero, set_cons_succ])
           refine Till.ready (rs := [12]) (by kernel_rfl) (by simp) ?_
           refine TillEach.cons rfl (fun K hK => ?_) ?_
           ·go_simp
            refine hK.out _ _ ?_ (fun hh => ?_)
            ·exact ⟨PX_3b0a0b1a1b2a2.out.b.cell 0, PX_3b0a0b1a1b2a2.out.b.cell 1, PX_3b0a0b1a1b2a2.out.b.cell 2, PY_3b0a0b1a1b2a2.out.b.cell 0, PY_3b0a0b1a1b2a2.out.b.cell 1, PY_3b0a0b1a1b2a2.out.b.cell 2, PZ_3b0a0b1a1b2a2.out.b.cell 0, PZ_3b0a0b1a1b2a2.out.b.cell 1, PZ_3b0a0b1a1b2a2.out.b.cell 2⟩
            clear hK K
            (try simp only [Act.put, setIfInBounds_toArray, set_cons_zero, set_cons_succ])
            refine Till.ready (rs := [13]) (by kernel_rfl) (by simp) ?_
            refine TillEach.cons rfl (fun K hK => ?_) ?_
            ·go_simp
             refine hK.out _ _ ?_ (fun hh => ?_)
             ·exact ⟨PX_3b0a0b1a1b2a2.out.b.cell 0, PX_3b0a0b1a1b2a2.out.b.cell 1, PX_3b0a0b1a1b2a2.out.b.cell 2, PY_3b0a0b1a1b2a2.out.b.cell 0, PY_3b0a0b1a1b2a2.out.b.cell 1, PY_3b0a0b1a1b2a2.out.b.cell 2, PZ_3b0a0b1a1b2a2.out.b.cell 0, PZ_3b0a0b1a1b2a2.out.b.cell 1, PZ_3b0a0b1a1b2a2.out.b.cell 2⟩
             clear hK K
             (try simp only [Act.put, setIfInBounds_toArray, set_cons_zero, set_cons_succ])
             refine Till.ready (rs := [14]) (by kernel_rfl) (by simp) ?_
             refine TillEach.last rfl (fun K hK => ?_)
             ·go_simp
              refine hK.out _ _ ?_
              clear hK K
              (try simp only [Act.put, setIfInBounds_toArray, set_cons_zero, set_cons_succ])
              refine Till.done (by kernel_rfl) ?_ _
              go_wp2_with fail
              exact ⟨⟨k + 1, A3b0a0, c3b0a0, _, A3b0a0b1a1, c3b0a0b1a1, _, A3b0a0b1a1b2a2, c3b0a0b1a1b2a2, _, by omega, rfl, rfl, rfl, by go_num, P_3b0a0b1a1b2a2, MVn, HB_3b0a0b1a1b2a2⟩, by simp [intOf]; omega⟩
            exact TillEach.nil
           exact TillEach.nil
          exact TillEach.nil
         exact TillEach.nil
        refine TillEach.cons rfl (fun K hK => ?_) ?_
        ·go_simp
         obtain ⟨u3b0a0b1b2, hu⟩ : ∃ u, u = u3b0a0b1.alloc (.cells #[.int .i64 (-(2 * e0)), .int .i64 (-(2 * e1)), .int .i64 (-(2 * e2))] 36) := ⟨_, rfl⟩
         rw [← hu]
         have P_3b0a0b1b2 := Lib.hid (P_3b0a0b1.out.alloc (.cells #[.int .i64 (-(2 * e0)), .int .i64 (-(2 * e1)), .int .i64 (-(2 * e2))] 36))
         have PX_3b0a0b1b2 := Lib.hid (PX_3b0a0b1.out.alloc (.cells #[.int .i64 (-(2 * e0)), .int .i64 (-(2 * e1)), .int .i64 (-(2 * e2))] 36))
         have PY_3b0a0b1b2 := Lib.hid (PY_3b0a0b1.out.alloc (.cells #[.int .i64 (-(2 * e0)), .int .i64 (-(2 * e1)), .int .i64 (-(2 * e2))] 36))
         have PZ_3b0a0b1b2 := Lib.hid (PZ_3b0a0b1.out.alloc (.cells #[.int .i64 (-(2 * e0)), .int .i64 (-(2 * e1)), .int .i64 (-(2 * e2))] 36))
         have PB1_3b0a0b1b2 := Lib.hid (PB1_3b0a0b1.out.alloc (.cells #[.int .i64 (-(2 * e0)), .int .i64 (-(2 * e1)), .int .i64 (-(2 * e2))] 36))
         have PB2_3b0a0b1b2 := Lib.hid (PB.new_ P_3b0a0b1.out ⟨-(2 * e0), -(2 * e1), -(2 * e2)⟩)
         have HB_3b0a0b1b2 : Hid (Below V1.heap.size V1 (u3b0a0b1.alloc (.cells #[.int .i64 (-(2 * e0)), .int .i64 (-(2 * e1)), .int .i64 (-(2 * e2))] 36))) := Lib.hid ((bw_alloc HB_3b0a0b1.out _))
         rw [← hu] at P_3b0a0b1b2 PX_3b0a0b1b2 PY_3b0a0b1b2 PZ_3b0a0b1b2 HB_3b0a0b1b2 PB1_3b0a0b1b2 PB2_3b0a0b1b2
         obtain ⟨g2, hg2⟩ : ∃ g, g = u3b0a0b1.heap.size := ⟨_, rfl⟩
         rw [← hg2] at PB2_3b0a0b1b2 ⊢
         refine hK.out _ _ ?_ (fun hh => ?_)
         ·exact ⟨PX_3b0a0b1b2.out.b.cell 0, PX_3b0a0b1b2.out.b.cell 1, PX_3b0a0b1b2.out.b.cell 2, PY_3b0a0b1b2.out.b.cell 0, PY_3b0a0b1b2.out.b.cell 1, PY_3b0a0b1b2.out.b.cell 2, PZ_3b0a0b1b2.out.b.cell 0, PZ_3b0a0b1b2.out.b.cell 1, PZ_3b0a0b1b2.out.b.cell 2⟩
         clear hK K hu hg2
         (try simp only [Act.put, setIfInBounds_toArray, set_cons_zero, set_cons_succ])
         refine Till.ready (rs := [7]) (by kernel_rfl) (by simp) ?_
         refine TillEach.cons rfl (fun K hK => ?_) ?_
         ·refine step_append_sl _ (by rfl) (.tmp 68) (.tmp 70) _ (by rfl) V1.heap.size 36 i0 _ 3 24 Try.underlying34 hi0 hz0 hz1 hz2 rfl (by omega) (.slice Aq k cq) k (Q.flatMap Tri.cells) (by rfl) P_3b0a0b1b2.out.q.own (g1 + 1) (some ⟨g1, 0, none⟩) 1 1 [.int .i64 (2 * e0 + 2 * t0), .int .i64 (2 * e1 + 2 * t1), .int .i64 (2 * e2 + 2 * t2)] (by rfl) PB1_3b0a0b1b2.out.reads (by simp [Value.oneCell']) (by simp only [maxLen]; omega) (by omega) (bw_size HB_3b0a0b1b2.out) ?_
          intro A3b0a0b1b2a1 c3b0a0b1b2a1 u3b0a0b1b2a1 hown hg hat
          have P_3b0a0b1b2a1 := Lib.hid (P_3b0a0b1b2.out.appQ (t := ⟨2 * e0 + 2 * t0, 2 * e1 + 2 * t1, 2 * e2 + 2 * t2⟩) hown hg hat)
          have PX_3b0a0b1b2a1 := Lib.hid (PX_3b0a0b1b2.out.appQ hg hat)
          have PY_3b0a0b1b2a1 := Lib.hid (PY_3b0a0b1b2.out.appQ hg hat)
          have PZ_3b0a0b1b2a1 := Lib.hid (PZ_3b0a0b1b2.out.appQ hg hat)
          have PB2_3b0a0b1b2a1 := Lib.hid (PB2_3b0a0b1b2.out.appQ hg hat)
          have HB_3b0a0b1b2a1 := Lib.hid (bw_grow HB_3b0a0b1b2.out hg (fun x hx => (P_3b0a0b1b2.out.q.lt_ x hx).1))
          refine hK.out _ _ ?_ (fun hh => ?_)
          ·exact ⟨PX_3b0a0b1b2a1.out.b.cell 0, PX_3b0a0b1b2a1.out.b.cell 1, PX_3b0a0b1b2a1.out.b.cell 2, PY_3b0a0b1b2a1.out.b.cell 0, PY_3b0a0b1b2a1.out.b.cell 1, PY_3b0a0b1b2a1.out.b.cell 2, PZ_3b0a0b1b2a1.out.b.cell 0, PZ_3b0a0b1b2a1.out.b.cell 1, PZ_3b0a0b1b2a1.out.b.cell 2⟩
          clear hK K hown hg hat
          (try simp only [Act.put, setIfInBounds_toArray, set_cons_zero, set_cons_succ])
          refine Till.ready (rs := [11]) (by kernel_rfl) (by simp) ?_
          refine TillEach.cons rfl (fun K hK => ?_) ?_
          ·refine step_append_sl _ (by rfl) (.tmp 72) (.tmp 74) _ (by rfl) V1.heap.size 36 i0 _ 3 24 Try.underlying34 hi0 hz0 hz1 hz2 rfl (by omega) (.slice Am k cm) k (M.flatMap Tri.cells) (by rfl) P_3b0a0b1b2a1.out.m.own (g2 + 1) (some ⟨g2, 0, none⟩) 1 1 [.int .i64 (-(2 * e0)), .int .i64 (-(2 * e1)), .int .i64 (-(2 * e2))] (by rfl) PB2_3b0a0b1b2a1.out.reads (by simp [Value.oneCell']) (by simp only [maxLen]; omega) (by omega) (bw_size HB_3b0a0b1b2a1.out) ?_
           intro A3b0a0b1b2a1a2 c3b0a0b1b2a1a2 u3b0a0b1b2a1a2 hown hg hat
           have P_3b0a0b1b2a1a2 := Lib.hid (P_3b0a0b1b2a1.out.appM (t := ⟨-(2 * e0), -(2 * e1), -(2 * e2)⟩) hown hg hat)
           have PX_3b0a0b1b2a1a2 := Lib.hid (PX_3b0a0b1b2a1.out.appM hg hat)
           have PY_3b0a0b1b2a1a2 := Lib.hid (PY_3b0a0b1b2a1.out.appM hg hat)
           have PZ_3b0a0b1b2a1a2 := Lib.hid (PZ_3b0a0b1b2a1.out.appM hg hat)
           have HB_3b0a0b1b2a1a2 := Lib.hid (bw_grow HB_3b0a0b1b2a1.out hg (fun x hx => (P_3b0a0b1b2a1.out.m.lt_ x hx).1))
           refine hK.out _ _ ?_ (fun hh => ?_)
           ·exact ⟨PX_3b0a0b1b2a1a2.out.b.cell 0, PX_3b0a0b1b2a1a2.out.b.cell 1, PX_3b0a0b1b2a1a2.out.b.cell 2, PY_3b0a0b1b2a1a2.out.b.cell 0, PY_3b0a0b1b2a1a2.out.b.cell 1, PY_3b0a0b1b2a1a2.out.b.cell 2, PZ_3b0a0b1b2a1a2.out.b.cell 0, PZ_3b0a0b1b2a1a2.out.b.cell 1, PZ_3b0a0b1b2a1a2.out.b.cell 2⟩
           clear hK K hown hg hat
           (try simp only [Act.put, setIfInBounds_toArray, set_cons_zero, set_cons_succ])
           refine Till.ready (rs := [12]) (by kernel_rfl) (by simp) ?_
           refine TillEach.cons rfl (fun K hK => ?_) ?_
           ·go_simp
            refine hK.out _ _ ?_ (fun hh => ?_)
            ·exact ⟨PX_3b0a0b1b2a1a2.out.b.cell 0, PX_3b0a0b1b2a1a2.out.b.cell 1, PX_3b0a0b1b2a1a2.out.b.cell 2, PY_3b0a0b1b2a1a2.out.b.cell 0, PY_3b0a0b1b2a1a2.out.b.cell 1, PY_3b0a0b1b2a1a2.out.b.cell 2, PZ_3b0a0b1b2a1a2.out.b.cell 0, PZ_3b0a0b1b2a1a2.out.b.cell 1, PZ_3b0a0b1b2a1a2.out.b.cell 2⟩
            clear hK K
            (try simp only [Act.put, setIfInBounds_toArray, set_cons_zero, set_cons_succ])
            refine Till.ready (rs := [13]) (by kernel_rfl) (by simp) ?_
            refine TillEach.cons rfl (fun K hK => ?_) ?_
            ·go_simp
             refine hK.out _ _ ?_ (fun hh => ?_)
             ·exact ⟨PX_3b0a0b1b2a1a2.out.b.cell 0, PX_3b0a0b1b2a1a2.out.b.cell 1, PX_3b0a0b1b2a1a2.out.b.cell 2, PY_3b0a0b1b2a1a2.out.b.cell 0, PY_3b0a0b1b2a1a2.out.b.cell 1, PY_3b0a0b1b2a1a2.out.b.cell 2, PZ_3b0a0b1b2a1a2.out.b.cell 0, PZ_3b0a0b1b2a1a2.out.b.cell 1, PZ_3b0a0b1b2a1a2.out.b.cell 2⟩
             clear hK K
             (try simp only [Act.put, setIfInBounds_toArray, set_cons_zero, set_cons_succ])
             refine Till.ready (rs := [14]) (by kernel_rfl) (by simp) ?_
             refine TillEach.last rfl (fun K hK => ?_)
             ·go_simp
              refine hK.out _ _ ?_
              clear hK K
              (try simp only [Act.put, setIfInBounds_toArray, set_cons_zero, set_cons_succ])
              refine Till.done (by kernel_rfl) ?_ _
              go_wp2_with fail
              exact ⟨⟨k + 1, A3b0a0, c3b0a0, _, A3b0a0b1b2a1, c3b0a0b1b2a1, _, A3b0a0b1b2a1a2, c3b0a0b1b2a1a2, _, by omega, rfl, rfl, rfl, by go_num, P_3b0a0b1b2a1a2, MVn, HB_3b0a0b1b2a1a2⟩, by simp [intOf]; omega⟩
            exact TillEach.nil
           exact TillEach.nil
          exact TillEach.nil
         exact TillEach.nil
        exact TillEach.nil
       refine TillEach.cons rfl (fun K hK => ?_) ?_
       ·go_simp
        obtain ⟨u3b0a0b2, hu⟩ : ∃ u, u = u3b0a0.alloc (.cells #[.int .i64 (-(2 * e0)), .int .i64 (-(2 * e1)), .int .i64 (-(2 * e2))] 36) := ⟨_, rfl⟩
        rw [← hu]
        have P_3b0a0b2 := Lib.hid (P_3b0a0.out.alloc (.cells #[.int .i64 (-(2 * e0)), .int .i64 (-(2 * e1)), .int .i64 (-(2 * e2))] 36))
        have PX_3b0a0b2 := Lib.hid (PX_3b0a0.out.alloc (.cells #[.int .i64 (-(2 * e0)), .int .i64 (-(2 * e1)), .int .i64 (-(2 * e2))] 36))
        have PY_3b0a0b2 := Lib.hid (PY_3b0a0.out.alloc (.cells #[.int .i64 (-(2 * e0)), .int .i64 (-(2 * e1)), .int .i64 (-(2 * e2))] 36))
        have PZ_3b0a0b2 := Lib.hid (PZ_3b0a0.out.alloc (.cells #[.int .i64 (-(2 * e0)), .int .i64 (-(2 * e1)), .int .i64 (-(2 * e2))] 36))
        have PB2_3b0a0b2 := Lib.hid (PB.new_ P_3b0a0.out ⟨-(2 * e0), -(2 * e1), -(2 * e2)⟩)
        have HB_3b0a0b2 : Hid (Below V1.heap.size V1 (u3b0a0.alloc (.cells #[.int .i64 (-(2 * e0)), .int .i64 (-(2 * e1)), .int .i64 (-(2 * e2))] 36))) := Lib.hid ((bw_alloc HB_3b0a0.out _))
        rw [← hu] at P_3b0a0b2 PX_3b0a0b2 PY_3b0a0b2 PZ_3b0a0b2 HB_3b0a0b2 PB2_3b0a0b2
        obtain ⟨g2, hg2⟩ : ∃ g, g = u3b0a0.heap.size := ⟨_, rfl⟩
        rw [← hg2] at PB2_3b0a0b2 ⊢
        refine hK.out _ _ ?_ (fun hh => ?_)
        ·exact ⟨PX_3b0a0b2.out.b.cell 0, PX_3b0a0b2.out.b.cell 1, PX_3b0a0b2.out.b.cell 2, PY_3b0a0b2.out.b.cell 0, PY_3b0a0b2.out.b.cell 1, PY_3b0a0b2.out.b.cell 2, PZ_3b0a0b2.out.b.cell 0, PZ_3b0a0b2.out.b.cell 1, PZ_3b0a0b2.out.b.cell 2⟩
        clear hK K hu hg2
        (try simp only [Act.put, setIfInBounds_toArray, set_cons_zero, set_cons_succ])
        refine Till.ready (rs := [6]) (by kernel_rfl) (by simp) ?_
        refine TillEach.cons rfl (fun K hK => ?_) ?_
        ·go_simp
         obtain ⟨u3b0a0b2b1, hu⟩ : ∃ u, u = u3b0a0b2.alloc (.cells #[.int .i64 (2 * e0 + 2 * t0), .int .i64 (2 * e1 + 2 * t1), .int .i64 (2 * e2 + 2 * t2)] 36) := ⟨_, rfl⟩
         rw [← hu]
         have P_3b0a0b2b1 := Lib.hid (P_3b0a0b2.out.alloc (.cells #[.int .i64 (2 * e0 + 2 * t0), .int .i64 (2 * e1 + 2 * t1), .int .i64 (2 * e2 + 2 * t2)] 36))
         have PX_3b0a0b2b1 := Lib.hid (PX_3b0a0b2.out.alloc (.cells #[.int .i64 (2 * e0 + 2 * t0), .int .i64 (2 * e1 + 2 * t1), .int .i64 (2 * e2 + 2 * t2)] 36))
         have PY_3b0a0b2b1 := Lib.hid (PY_3b0a0b2.out.alloc (.cells #[.int .i64 (2 * e0 + 2 * t0), .int .i64 (2 * e1 + 2 * t1), .int .i64 (2 * e2 + 2 * t2)] 36))
         have PZ_3b0a0b2b1 := Lib.hid (PZ_3b0a0b2.out.alloc (.cells #[.int .i64 (2 * e0 + 2 * t0), .int .i64 (2 * e1 + 2 * t1), .int .i64 (2 * e2 + 2 * t2)] 36))
         have PB2_3b0a0b2b1 := Lib.hid (PB2_3b0a0b2.out.alloc (.cells #[.int .i64 (2 * e0 + 2 * t0), .int .i64 (2 * e1 + 2 * t1), .int .i64 (2 * e2 + 2 * t2)] 36))
         have PB1_3b0a0b2b1 := Lib.hid (PB.new_ P_3b0a0b2.out ⟨2 * e0 + 2 * t0, 2 * e1 + 2 * t1, 2 * e2 + 2 * t2⟩)
         have HB_3b0a0b2b1 : Hid (Below V1.heap.size V1 (u3b0a0b2.alloc (.cells #[.int .i64 (2 * e0 + 2 * t0), .int .i64 (2 * e1 + 2 * t1), .int .i64 (2 * e2 + 2 * t2)] 36))) := Lib.hid ((bw_alloc HB_3b0a0b2.out _))
         rw [← hu] at P_3b0a0b2b1 PX_3b0a0b2b1 PY_3b0a0b2b1 PZ_3b0a0b2b1 HB_3b0a0b2b1 PB1_3b0a0b2b1 PB2_3b0a0b2b1
         obtain ⟨g1, hg1⟩ : ∃ g, g = u3b0a0b2.heap.size := ⟨_, rfl⟩
         rw [← hg1] at PB1_3b0a0b2b1 ⊢
         refine hK.out _ _ ?_ (fun hh => ?_)
         ·exact ⟨PX_3b0a0b2b1.out.b.cell 0, PX_3b0a0b2b1.out.b.cell 1, PX_3b0a0b2b1.out.b.cell 2, PY_3b0a0b2b1.out.b.cell 0, PY_3b0a0b2b1.out.b.cell 1, PY_3b0a0b2b1.out.b.cell 2, PZ_3b0a0b2b1.out.b.cell 0, PZ_3b0a0b2b1.out.b.cell 1, PZ_3b0a0b2b1.out.b.cell 2⟩
         clear hK K hu hg1
         (try simp only [Act.put, setIfInBounds_toArray, set_cons_zero, set_cons_succ])
         refine Till.ready (rs := [7]) (by kernel_rfl) (by simp) ?_
         refine TillEach.cons rfl (fun K hK => ?_) ?_
         ·refine step_append_sl _ (by rfl) (.tmp 68) (.tmp 70) _ (by rfl) V1.heap.size 36 i0 _ 3 24 Try.underlying34 hi0 hz0 hz1 hz2 rfl (by omega) (.slice Aq k cq) k (Q.flatMap Tri.cells) (by rfl) P_3b0a0b2b1.out.q.own (g1 + 1) (some ⟨g1, 0, none⟩) 1 1 [.int .i64 (2 * e0 + 2 * t0), .int .i64 (2 * e1 + 2 * t1), .int .i64 (2 * e2 + 2 * t2)] (by rfl) PB1_3b0a0b2b1.out.reads (by simp [Value.oneCell']) (by simp only [maxLen]; omega) (by omega) (bw_size HB_3b0a0b2b1.out) ?_
          intro A3b0a0b2b1a1 c3b0a0b2b1a1 u3b0a0b2b1a1 hown hg hat
          have P_3b0a0b2b1a1 := Lib.hid (P_3b0a0b2b1.out.appQ (t := ⟨2 * e0 + 2 * t0, 2 * e1 + 2 * t1, 2 * e2 + 2 * t2⟩) hown hg hat)
          have PX_3b0a0b2b1a1 := Lib.hid (PX_3b0a0b2b1.out.appQ hg hat)
          have PY_3b0a0b2b1a1 := Lib.hid (PY_3b0a0b2b1.out.appQ hg hat)
          have PZ_3b0a0b2b1a1 := Lib.hid (PZ_3b0a0b2b1.out.appQ hg hat)
          have PB2_3b0a0b2b1a1 := Lib.hid (PB2_3b0a0b2b1.out.appQ hg hat)
          have HB_3b0a0b2b1a1 := Lib.hid (bw_grow HB_3b0a0b2b1.out hg (fun x hx => (P_3b0a0b2b1.out.q.lt_ x hx).1))
          refine hK.out _ _ ?_ (fun hh => ?_)
          ·exact ⟨PX_3b0a0b2b1a1.out.b.cell 0, PX_3b0a0b2b1a1.out.b.cell 1, PX_3b0a0b2b1a1.out.b.cell 2, PY_3b0a0b2b1a1.out.b.cell 0, PY_3b0a0b2b1a1.out.b.cell 1, PY_3b0a0b2b1a1.out.b.cell 2, PZ_3b0a0b2b1a1.out.b.cell 0, PZ_3b0a0b2b1a1.out.b.cell 1, PZ_3b0a0b2b1a1.out.b.cell 2⟩
          clear hK K hown hg hat
          (try simp only [Act.put, setIfInBounds_toArray, set_cons_zero, set_cons_succ])
          refine Till.ready (rs := [11]) (by kernel_rfl) (by simp) ?_
          refine TillEach.cons rfl (fun K hK => ?_) ?_
          ·refine step_append_sl _ (by rfl) (.tmp 72) (.tmp 74) _ (by rfl) V1.heap.size 36 i0 _ 3 24 Try.underlying34 hi0 hz0 hz1 hz2 rfl (by omega) (.slice Am k cm) k (M.flatMap Tri.cells) (by rfl) P_3b0a0b2b1a1.out.m.own (g2 + 1) (some ⟨g2, 0, none⟩) 1 1 [.int .i64 (-(2 * e0)), .int .i64 (-(2 * e1)), .int .i64 (-(2 * e2))] (by rfl) PB2_3b0a0b2b1a1.out.reads (by simp [Value.oneCell']) (by simp only [maxLen]; omega) (by omega) (bw_size HB_3b0a0b2b1a1.out) ?_
           intro A3b0a0b2b1a1a2 c3b0a0b2b1a1a2 u3b0a0b2b1a1a2 hown hg hat
           have P_3b0a0b2b1a1a2 := Lib.hid (P_3b0a0b2b1a1.out.appM (t := ⟨-(2 * e0), -(2 * e1), -(2 * e2)⟩) hown hg hat)
           have PX_3b0a0b2b1a1a2 := Lib.hid (PX_3b0a0b2b1a1.out.appM hg hat)
           have PY_3b0a0b2b1a1a2 := Lib.hid (PY_3b0a0b2b1a1.out.appM hg hat)
           have PZ_3b0a0b2b1a1a2 := Lib.hid (PZ_3b0a0b2b1a1.out.appM hg hat)
           have HB_3b0a0b2b1a1a2 := Lib.hid (bw_grow HB_3b0a0b2b1a1.out hg (fun x hx => (P_3b0a0b2b1a1.out.m.lt_ x hx).1))
           refine hK.out _ _ ?_ (fun hh => ?_)
           ·exact ⟨PX_3b0a0b2b1a1a2.out.b.cell 0, PX_3b0a0b2b1a1a2.out.b.cell 1, PX_3b0a0b2b1a1a2.out.b.cell 2, PY_3b0a0b2b1a1a2.out.b.cell 0, PY_3b0a0b2b1a1a2.out.b.cell 1, PY_3b0a0b2b1a1a2.out.b.cell 2, PZ_3b0a0b2b1a1a2.out.b.cell 0, PZ_3b0a0b2b1a1a2.out.b.cell 1, PZ_3b0a0b2b1a1a2.out.b.cell 2⟩
           clear hK K hown hg hat
           (try simp only [Act.put, setIfInBounds_toArray, set_cons_zero, set_cons_succ])
           refine Till.ready (rs := [12]) (by kernel_rfl) (by simp) ?_
           refine TillEach.cons rfl (fun K hK => ?_) ?_
           ·go_simp
            refine hK.out _ _ ?_ (fun hh => ?_)
            ·exact ⟨PX_3b0a0b2b1a1a2.out.b.cell 0, PX_3b0a0b2b1a1a2.out.b.cell 1, PX_3b0a0b2b1a1a2.out.b.cell 2, PY_3b0a0b2b1a1a2.out.b.cell 0, PY_3b0a0b2b1a1a2.out.b.cell 1, PY_3b0a0b2b1a1a2.out.b.cell 2, PZ_3b0a0b2b1a1a2.out.b.cell 0, PZ_3b0a0b2b1a1a2.out.b.cell 1, PZ_3b0a0b2b1a1a2.out.b.cell 2⟩
            clear hK K
            (try simp only [Act.put, setIfInBounds_toArray, set_cons_zero, set_cons_succ])
            refine Till.ready (rs := [13]) (by kernel_rfl) (by simp) ?_
            refine TillEach.cons rfl (fun K hK => ?_) ?_
            ·go_simp
             refine hK.out _ _ ?_ (fun hh => ?_)
             ·exact ⟨PX_3b0a0b2b1a1a2.out.b.cell 0, PX_3b0a0b2b1a1a2.out.b.cell 1, PX_3b0a0b2b1a1a2.out.b.cell 2, PY_3b0a0b2b1a1a2.out.b.cell 0, PY_3b0a0b2b1a1a2.out.b.cell 1, PY_3b0a0b2b1a1a2.out.b.cell 2, PZ_3b0a0b2b1a1a2.out.b.cell 0, PZ_3b0a0b2b1a1a2.out.b.cell 1, PZ_3b0a0b2b1a1a2.out.b.cell 2⟩
             clear hK K
             (try simp only [Act.put, setIfInBounds_toArray, set_cons_zero, set_cons_succ])
             refine Till.ready (rs := [14]) (by kernel_rfl) (by simp) ?_
             refine TillEach.last rfl (fun K hK => ?_)
             ·go_simp
              refine hK.out _ _ ?_
              clear hK K
              (try simp only [Act.put, setIfInBounds_toArray, set_cons_zero, set_cons_succ])
              refine Till.done (by kernel_rfl) ?_ _
              go_wp2_with fail
              exact ⟨⟨k + 1, A3b0a0, c3b0a0, _, A3b0a0b2b1a1, c3b0a0b2b1a1, _, A3b0a0b2b1a1a2, c3b0a0b2b1a1a2, _, by omega, rfl, rfl, rfl, by go_num, P_3b0a0b2b1a1a2, MVn, HB_3b0a0b2b1a1a2⟩, by simp [intOf]; omega⟩
            exact TillEach.nil
           exact TillEach.nil
          exact TillEach.nil
         exact TillEach.nil
        exact TillEach.nil
       exact TillEach.nil
      refine TillEach.cons rfl (fun K hK => ?_) ?_
      ·go_simp
       obtain ⟨u3b0b1, hu⟩ : ∃ u, u = u3b0.alloc (.cells #[.int .i64 (2 * e0 + 2 * t0), .int .i64 (2 * e1 + 2 * t1), .int .i64 (2 * e2 + 2 * t2)] 36) := ⟨_, rfl⟩
       rw [← hu]
       have P_3b0b1 := Lib.hid (P_3b0.out.alloc (.cells #[.int .i64 (2 * e0 + 2 * t0), .int .i64 (2 * e1 + 2 * t1), .int .i64 (2 * e2 + 2 * t2)] 36))
       have PX_3b0b1 := Lib.hid (PX_3b0.out.alloc (.cells #[.int .i64 (2 * e0 + 2 * t0), .int .i64 (2 * e1 + 2 * t1), .int .i64 (2 * e2 + 2 * t2)] 36))
       have PY_3b0b1 := Lib.hid (PY_3b0.out.alloc (.cells #[.int .i64 (2 * e0 + 2 * t0), .int .i64 (2 * e1 + 2 * t1), .int .i64 (2 * e2 + 2 * t2)] 36))
       have PZ_3b0b1 := Lib.hid (PZ_3b0.out.alloc (.cells #[.int .i64 (2 * e0 + 2 * t0), .int .i64 (2 * e1 + 2 * t1), .int .i64 (2 * e2 + 2 * t2)] 36))
       have PB0_3b0b1 := Lib.hid (PB0_3b0.out.alloc (.cells #[.int .i64 (2 * e0 + 2 * t0), .int .i64 (2 * e1 + 2 * t1), .int .i64 (2 * e2 + 2 * t2)] 36))
       have PB1_3b0b1 := Lib.hid (PB.new_ P_3b0.out ⟨2 * e0 + 2 * t0, 2 * e1 + 2 * t1, 2 * e2 + 2 * t2⟩)
       have HB_3b0b1 : Hid (Below V1.heap.size V1 (u3b0.alloc (.cells #[.int .i64 (2 * e0 + 2 * t0), .int .i64 (2 * e1 + 2 * t1), .int .i64 (2 * e2 + 2 * t2)] 36))) := Lib.hid ((bw_alloc HB_3b0.out _))
       rw [← hu] at P_3b0b1 PX_3b0b1 PY_3b0b1 PZ_3b0b1 HB_3b0b1 PB0_3b0b1 PB1_3b0b1
       obtain ⟨g1, hg1⟩ : ∃ g, g = u3b0.heap.size := ⟨_, rfl⟩
       rw [← hg1] at PB1_3b0b1 ⊢
       refine hK.out _ _ ?_ (fun hh => ?_)
       ·exact ⟨PX_3b0b1.out.b.cell 0, PX_3b0b1.out.b.cell 1, PX_3b0b1.out.b.cell 2, PY_3b0b1.out.b.cell 0, PY_3b0b1.out.b.cell 1, PY_3b0b1.out.b.cell 2, PZ_3b0b1.out.b.cell 0, PZ_3b0b1.out.b.cell 1, PZ_3b0b1.out.b.cell 2⟩
       clear hK K hu hg1
       (try simp only [Act.put, setIfInBounds_toArray, set_cons_zero, set_cons_succ])
       refine Till.ready (rs := [3, 10]) (by kernel_rfl) (by simp) ?_
       refine TillEach.cons rfl (fun K hK => ?_) ?_
       ·refine step_append_sl _ (by rfl) (.tmp 64) (.tmp 66) _ (by rfl) V1.heap.size 36 i0 _ 3 24 Try.underlying34 hi0 hz0 hz1 hz2 rfl (by omega) (.slice Ao k co) k (O.flatMap Tri.cells) (by rfl) P_3b0b1.out.o.own (g0 + 1) (some ⟨g0, 0, none⟩) 1 1 [.int .i64 (2 * e0), .int .i64 (2 * e1), .int .i64 (2 * e2)] (by rfl) PB0_3b0b1.out.reads (by simp [Value.oneCell']) (by simp only [maxLen]; omega) (by omega) (bw_size HB_3b0b1.out) ?_
        intro A3b0b1a0 c3b0b1a0 u3b0b1a0 hown hg hat
        have P_3b0b1a0 := Lib.hid (P_3b0b1.out.appO (t := ⟨2 * e0, 2 * e1, 2 * e2⟩) hown hg hat)
        have PX_3b0b1a0 := Lib.hid (PX_3b0b1.out.appO hg hat)
        have PY_3b0b1a0 := Lib.hid (PY_3b0b1.out.appO hg hat)
        have PZ_3b0b1a0 := Lib.hid (PZ_3b0b1.out.appO hg hat)
        have PB1_3b0b1a0 := Lib.hid (PB1_3b0b1.out.appO hg hat)
        have HB_3b0b1a0 := Lib.hid (bw_grow HB_3b0b1.out hg (fun x hx => (P_3b0b1.out.o.lt_ x hx).1))
        refine hK.out _ _ ?_ (fun hh => ?_)
        ·exact ⟨PX_3b0b1a0.out.b.cell 0, PX_3b0b1a0.out.b.cell 1, PX_3b0b1a0.out.b.cell 2, PY_3b0b1a0.out.b.cell 0, PY_3b0b1a0.out.b.cell 1, PY_3b0b1a0.out.b.cell 2, PZ_3b0b1a0.out.b.cell 0, PZ_3b0b1a0.out.b.cell 1, PZ_3b0b1a0.out.b.cell 2⟩
        clear hK K hown hg hat
        (try simp only [Act.put, setIfInBounds_toArray, set_cons_zero, set_cons_succ])
        refine Till.ready (rs := [7, 10]) (by kernel_rfl) (by simp) ?_
        refine TillEach.cons rfl (fun K hK => ?_) ?_
        ·refine step_append_sl _ (by rfl) (.tmp 68) (.tmp 70) _ (by rfl) V1.heap.size 36 i0 _ 3 24 Try.underlying34 hi0 hz0 hz1 hz2 rfl (by omega) (.slice Aq k cq) k (Q.flatMap Tri.cells) (by rfl) P_3b0b1a0.out.q.own (g1 + 1) (some ⟨g1, 0, none⟩) 1 1 [.int .i64 (2 * e0 + 2 * t0), .int .i64 (2 * e1 + 2 * t1), .int .i64 (2 * e2 + 2 * t2)] (by rfl) PB1_3b0b1a0.out.reads (by simp [Value.oneCell']) (by simp only [maxLen]; omega) (by omega) (bw_size HB_3b0b1a0.out) ?_
         intro A3b0b1a0a1 c3b0b1a0a1 u3b0b1a0a1 hown hg hat
         have P_3b0b1a0a1 := Lib.hid (P_3b0b1a0.out.appQ (t := ⟨2 * e0 + 2 * t0, 2 * e1 + 2 * t1, 2 * e2 + 2 * t2⟩) hown hg hat)
         have PX_3b0b1a0a1 := Lib.hid (PX_3b0b1a0.out.appQ hg hat)
         have PY_3b0b1a0a1 := Lib.hid (PY_3b0b1a0.out.appQ hg hat)
         have PZ_3b0b1a0a1 := Lib.hid (PZ_3b0b1a0.out.appQ hg hat)
         have HB_3b0b1a0a1 := Lib.hid (bw_grow HB_3b0b1a0.out hg (fun x hx => (P_3b0b1a0.out.q.lt_ x hx).1))
         refine hK.out _ _ ?_ (fun hh => ?_)
         ·exact ⟨PX_3b0b1a0a1.out.b.cell 0, PX_3b0b1a0a1.out.b.cell 1, PX_3b0b1a0a1.out.b.cell 2, PY_3b0b1a0a1.out.b.cell 0, PY_3b0b1a0a1.out.b.cell 1, PY_3b0b1a0a1.out.b.cell 2, PZ_3b0b1a0a1.out.b.cell 0, PZ_3b0b1a0a1.out.b.cell 1, PZ_3b0b1a0a1.out.b.cell 2⟩
         clear hK K hown hg hat
         (try simp only [Act.put, setIfInBounds_toArray, set_cons_zero, set_cons_succ])
         refine Till.ready (rs := [10]) (by kernel_rfl) (by simp) ?_
         refine TillEach.cons rfl (fun K hK => ?_) ?_
         ·go_simp
          obtain ⟨u3b0b1a0a1b2, hu⟩ : ∃ u, u = u3b0b1a0a1.alloc (.cells #[.int .i64 (-(2 * e0)), .int .i64 (-(2 * e1)), .int .i64 (-(2 * e2))] 36) := ⟨_, rfl⟩
          rw [← hu]
          have P_3b0b1a0a1b2 := Lib.hid (P_3b0b1a0a1.out.alloc (.cells #[.int .i64 (-(2 * e0)), .int .i64 (-(2 * e1)), .int .i64 (-(2 * e2))] 36))
          have PX_3b0b1a0a1b2 := Lib.hid (PX_3b0b1a0a1.out.alloc (.cells #[.int .i64 (-(2 * e0)), .int .i64 (-(2 * e1)), .int .i64 (-(2 * e2))] 36))
          have PY_3b0b1a0a1b2 := Lib.hid (PY_3b0b1a0a1.out.alloc (.cells #[.int .i64 (-(2 * e0)), .int .i64 (-(2 * e1)), .int .i64 (-(2 * e2))] 36))
          have PZ_3b0b1a0a1b2 := Lib.hid (PZ_3b0b1a0a1.out.alloc (.cells #[.int .i64 (-(2 * e0)), .int .i64 (-(2 * e1)), .int .i64 (-(2 * e2))] 36))
          have PB2_3b0b1a0a1b2 := Lib.hid (PB.new_ P_3b0b1a0a1.out ⟨-(2 * e0), -(2 * e1), -(2 * e2)⟩)
          have HB_3b0b1a0a1b2 : Hid (Below V1.heap.size V1 (u3b0b1a0a1.alloc (.cells #[.int .i64 (-(2 * e0)), .int .i64 (-(2 * e1)), .int .i64 (-(2 * e2))] 36))) := Lib.hid ((bw_alloc HB_3b0b1a0a1.out _))
          rw [← hu] at P_3b0b1a0a1b2 PX_3b0b1a0a1b2 PY_3b0b1a0a1b2 PZ_3b0b1a0a1b2 HB_3b0b1a0a1b2 PB2_3b0b1a0a1b2
          obtain ⟨g2, hg2⟩ : ∃ g, g = u3b0b1a0a1.heap.size := ⟨_, rfl⟩
          rw [← hg2] at PB2_3b0b1a0a1b2 ⊢
          refine hK.out _ _ ?_ (fun hh => ?_)
          ·exact ⟨PX_3b0b1a0a1b2.out.b.cell 0, PX_3b0b1a0a1b2.out.b.cell 1, PX_3b0b1a0a1b2.out.b.cell 2, PY_3b0b1a0a1b2.out.b.cell 0, PY_3b0b1a0a1b2.out.b.cell 1, PY_3b0b1a0a1b2.out.b.cell 2, PZ_3b0b1a0a1b2.out.b.cell 0, PZ_3b0b1a0a1b2.out.b.cell 1, PZ_3b0b1a0a1b2.out.b.cell 2⟩
          clear hK K hu hg2
          (try simp only [Act.put, setIfInBounds_toArray, set_cons_zero, set_cons_succ])
          refine Till.ready (rs := [11]) (by kernel_rfl) (by simp) ?_
          refine TillEach.cons rfl (fun K hK => ?_) ?_
          ·refine step_append_sl _ (by rfl) (.tmp 72) (.tmp 74) _ (by rfl) V1.heap.size 36 i0 _ 3 24 Try.underlying34 hi0 hz0 hz1 hz2 rfl (by omega) (.slice Am k cm) k (M.flatMap Tri.cells) (by rfl) P_3b0b1a0a1b2.out.m.own (g2 + 1) (some ⟨g2, 0, none⟩) 1 1 [.int .i64 (-(2 * e0)), .int .i64 (-(2 * e1)), .int .i64 (-(2 * e2))] (by rfl) PB2_3b0b1a0a1b2.out.reads (by simp [Value.oneCell']) (by simp only [maxLen]; omega) (by omega) (bw_size HB_3b0b1a0a1b2.out) ?_
           intro A3b0b1a0a1b2a2 c3b0b1a0a1b2a2 u3b0b1a0a1b2a2 hown hg hat
           have P_3b0b1a0a1b2a2 := Lib.hid (P_3b0b1a0a1b2.out.appM (t := ⟨-(2 * e0), -(2 * e1), -(2 * e2)⟩) hown hg hat)
           have PX_3b0b1a0a1b2a2 := Lib.hid (PX_3b0b1a0a1b2.out.appM hg hat)
           have PY_3b0b1a0a1b2a2 := Lib.hid (PY_3b0b1a0a1b2.out.appM hg hat)
           have PZ_3b0b1a0a1b2a2 := Lib.hid (PZ_3b0b1a0a1b2.out.appM hg hat)
           have HB_3b0b1a0a1b2a2 := Lib.hid (bw_grow HB_3b0b1a0a1b2.out hg (fun x hx => (P_3b0b1a0a1b2.out.m.lt_ x hx).1))
           refine hK.out _ _ ?_ (fun hh => ?_)
           ·exact ⟨PX_3b0b1a0a1b2a2.out.b.cell 0, PX_3b0b1a0a1b2a2.out.b.cell 1, PX_3b0b1a0a1b2a2.out.b.cell 2, PY_3b0b1a0a1b2a2.out.b.cell 0, PY_3b0b1a0a1b2a2.out.b.cell 1, PY_3b0b1a0a1b2a2.out.b.cell 2, PZ_3b0b1a0a1b2a2.out.b.cell 0, PZ_3b0b1a0a1b2a2.out.b.cell 1, PZ_3b0b1a0a1b2a2.out.b.cell 2⟩
           clear hK K hown hg hat
           (try simp only [Act.put, setIfInBounds_toArray, set_cons_zero, set_cons_succ])
           refine Till.ready (rs := [12]) (by kernel_rfl) (by simp) ?_
           refine TillEach.cons rfl (fun K hK => ?_) ?_
           ·go_simp
            refine hK.out _ _ ?_ (fun hh => ?_)
            ·exact ⟨PX_3b0b1a0a1b2a2.out.b.cell 0, PX_3b0b1a0a1b2a2.out.b.cell 1, PX_3b0b1a0a1b2a2.out.b.cell 2, PY_3b0b1a0a1b2a2.out.b.cell 0, PY_3b0b1a0a1b2a2.out.b.cell 1, PY_3b0b1a0a1b2a2.out.b.cell 2, PZ_3b0b1a0a1b2a2.out.b.cell 0, PZ_3b0b1a0a1b2a2.out.b.cell 1, PZ_3b0b1a0a1b2a2.out.b.cell 2⟩
            clear hK K
            (try simp only [Act.put, setIfInBounds_toArray, set_cons_zero, set_cons_succ])
            refine Till.ready (rs := [13]) (by kernel_rfl) (by simp) ?_
            refine TillEach.cons rfl (fun K hK => ?_) ?_
            ·go_simp
             refine hK.out _ _ ?_ (fun hh => ?_)
             ·exact ⟨PX_3b0b1a0a1b2a2.out.b.cell 0, PX_3b0b1a0a1b2a2.out.b.cell 1, PX_3b0b1a0a1b2a2.out.b.cell 2, PY_3b0b1a0a1b2a2.out.b.cell 0, PY_3b0b1a0a1b2a2.out.b.cell 1, PY_3b0b1a0a1b2a2.out.b.cell 2, PZ_3b0b1a0a1b2a2.out.b.cell 0, PZ_3b0b1a0a1b2a2.out.b.cell 1, PZ_3b0b1a0a1b2a2.out.b.cell 2⟩
             clear hK K
             (try simp only [Act.put, setIfInBounds_toArray, set_cons_zero, set_cons_succ])
             refine Till.ready (rs := [14]) (by kernel_rfl) (by simp) ?_
             refine TillEach.last rfl (fun K hK => ?_)
             ·go_simp
              refine hK.out _ _ ?_
              clear hK K
              (try simp only [Act.put, setIfInBounds_toArray, set_cons_zero, set_cons_succ])
              refine Till.done (by kernel_rfl) ?_ _
              go_wp2_with fail
              exact ⟨⟨k + 1, A3b0b1a0, c3b0b1a0, _, A3b0b1a0a1, c3b0b1a0a1, _, A3b0b1a0a1b2a2, c3b0b1a0a1b2a2, _, by omega, rfl, rfl, rfl, by go_num, P_3b0b1a0a1b2a2, MVn, HB_3b0b1a0a1b2a2⟩, by simp [intOf]; omega⟩
            exact TillEach.nil
           exact TillEach.nil
          exact TillEach.nil
         exact TillEach.nil
        refine TillEach.cons rfl (fun K hK => ?_) ?_
        ·go_simp
         obtain ⟨u3b0b1a0b2, hu⟩ : ∃ u, u = u3b0b1a0.alloc (.cells #[.int .i64 (-(2 * e0)), .int .i64 (-(2 * e1)), .int .i64 (-(2 * e2))] 36) := ⟨_, rfl⟩
         rw [← hu]
         have P_3b0b1a0b2 := Lib.hid (P_3b0b1a0.out.alloc (.cells #[.int .i64 (-(2 * e0)), .int .i64 (-(2 * e1)), .int .i64 (-(2 * e2))] 36))
         have PX_3b0b1a0b2 := Lib.hid (PX_3b0b1a0.out.alloc (.cells #[.int .i64 (-(2 * e0)), .int .i64 (-(2 * e1)), .int .i64 (-(2 * e2))] 36))
         have PY_3b0b1a0b2 := Lib.hid (PY_3b0b1a0.out.alloc (.cells #[.int .i64 (-(2 * e0)), .int .i64 (-(2 * e1)), .int .i64 (-(2 * e2))] 36))
         have PZ_3b0b1a0b2 := Lib.hid (PZ_3b0b1a0.out.alloc (.cells #[.int .i64 (-(2 * e0)), .int .i64 (-(2 * e1)), .int .i64 (-(2 * e2))] 36))
         have PB1_3b0b1a0b2 := Lib.hid (PB1_3b0b1a0.out.alloc (.cells #[.int .i64 (-(2 * e0)), .int .i64 (-(2 * e1)), .int .i64 (-(2 * e2))] 36))
         have PB2_3b0b1a0b2 := Lib.hid (PB.new_ P_3b0b1a0.out ⟨-(2 * e0), -(2 * e1), -(2 * e2)⟩)
         have HB_3b0b1a0b2 : Hid (Below V1.heap.size V1 (u3b0b1a0.alloc (.cells #[.int .i64 (-(2 * e0)), .int .i64 (-(2 * e1)), .int .i64 (-(2 * e2))] 36))) := Lib.hid ((bw_alloc HB_3b0b1a0.out _))
         rw [← hu] at P_3b0b1a0b2 PX_3b0b1a0b2 PY_3b0b1a0b2 PZ_3b0b1a0b2 HB_3b0b1a0b2 PB1_3b0b1a0b2 PB2_3b0b1a0b2
         obtain ⟨g2, hg2⟩ : ∃ g, g = u3b0b1a0.heap.size := ⟨_, rfl⟩
         rw [← hg2] at PB2_3b0b1a0b2 ⊢
         refine hK.out _ _ ?_ (fun hh => ?_)
         ·exact ⟨PX_3b0b1a0b2.out.b.cell 0, PX_3b0b1a0b2.out.b.cell 1, PX_3b0b1a0b2.out.b.cell 2, PY_3b0b1a0b2.out.b.cell 0, PY_3b0b1a0b2.out.b.cell 1, PY_3b0b1a0b2.out.b.cell 2, PZ_3b0b1a0b2.out.b.cell 0, PZ_3b0b1a0b2.out.b.cell 1, PZ_3b0b1a0b2.out.b.cell 2⟩
         clear hK K hu hg2
         (try simp only [Act.put, setIfInBounds_toArray, set_cons_zero, set_cons_succ])
         refine Till.ready (rs := [7]) (by kernel_rfl) (by simp) ?_
         refine TillEach.cons rfl (fun K hK => ?_) ?_
         ·refine step_append_sl _ (by rfl) (.tmp 68) (.tmp 70) _ (by rfl) V1.heap.size 36 i0 _ 3 24 Try.underlying34 hi0 hz0 hz1 hz2 rfl (by omega) (.slice Aq k cq) k (Q.flatMap Tri.cells) (by rfl) P_3b0b1a0b2.out.q.own (g1 + 1) (some ⟨g1, 0, none⟩) 1 1 [.int .i64 (2 * e0 + 2 * t0), .int .i64 (2 * e1 + 2 * t1), .int .i64 (2 * e2 + 2 * t2)] (by rfl) PB1_3b0b1a0b2.out.reads (by simp [Value.oneCell']) (by simp only [maxLen]; omega) (by omega) (bw_size HB_3b0b1a0b2.out) ?_
          intro A3b0b1a0b2a1 c3b0b1a0b2a1 u3b0b1a0b2a1 hown hg hat
          have P_3b0b1a0b2a1 := Lib.hid (P_3b0b1a0b2.out.appQ (t := ⟨2 * e0 + 2 * t0, 2 * e1 + 2 * t1, 2 * e2 + 2 * t2⟩) hown hg hat)
          have PX_3b0b1a0b2a1 := Lib.hid (PX_3b0b1a0b2.out.appQ hg hat)
          have PY_3b0b1a0b2a1 := Lib.hid (PY_3b0b1a0b2.out.appQ hg hat)
          have PZ_3b0b1a0b2a1 := Lib.hid (PZ_3b0b1a0b2.out.appQ hg hat)
          have PB2_3b0b1a0b2a1 := Lib.hid (PB2_3b0b1a0b2.out.appQ hg hat)
          have HB_3b0b1a0b2a1 := Lib.hid (bw_grow HB_3b0b1a0b2.out hg (fun x hx => (P_3b0b1a0b2.out.q.lt_ x hx).1))
          refine hK.out _ _ ?_ (fun hh => ?_)
          ·exact ⟨PX_3b0b1a0b2a1.out.b.cell 0, PX_3b0b1a0b2a1.out.b.cell 1, PX_3b0b1a0b2a1.out.b.cell 2, PY_3b0b1a0b2a1.out.b.cell 0, PY_3b0b1a0b2a1.out.b.cell 1, PY_3b0b1a0b2a1.out.b.cell 2, PZ_3b0b1a0b2a1.out.b.cell 0, PZ_3b0b1a0b2a1.out.b.cell 1, PZ_3b0b1a0b2a1.out.b.cell 2⟩
          clear hK K hown hg hat
          (try simp only [Act.put, setIfInBounds_toArray, set_cons_zero, set_cons_succ])
          refine Till.ready (rs := [11]) (by kernel_rfl) (by simp) ?_
          refine TillEach.cons rfl (fun K hK => ?_) ?_
          ·refine step_append_sl _ (by rfl) (.tmp 72) (.tmp 74) _ (by rfl) V1.heap.size 36 i0 _ 3 24 Try.underlying34 hi0 hz0 hz1 hz2 rfl (by omega) (.slice Am k cm) k (M.flatMap Tri.cells) (by rfl) P_3b0b1a0b2a1.out.m.own (g2 + 1) (some ⟨g2, 0, none⟩) 1 1 [.int .i64 (-(2 * e0)), .int .i64 (-(2 * e1)), .int .i64 (-(2 * e2))] (by rfl) PB2_3b0b1a0b2a1.out.reads (by simp [Value.oneCell']) (by simp only [maxLen]; omega) (by omega) (bw_size HB_3b0b1a0b2a1.out) ?_
           intro A3b0b1a0b2a1a2 c3b0b1a0b2a1a2 u3b0b1a0b2a1a2 hown hg hat
           have P_3b0b1a0b2a1a2 := Lib.hid (P_3b0b1a0b2a1.out.appM (t := ⟨-(2 * e0), -(2 * e1), -(2 * e2)⟩) hown hg hat)
           have PX_3b0b1a0b2a1a2 := Lib.hid (PX_3b0b1a0b2a1.out.appM hg hat)
           have PY_3b0b1a0b2a1a2 := Lib.hid (PY_3b0b1a0b2a1.out.appM hg hat)
           have PZ_3b0b1a0b2a1a2 := Lib.hid (PZ_3b0b1a0b2a1.out.appM hg hat)
           have HB_3b0b1a0b2a1a2 := Lib.hid (bw_grow HB_3b0b1a0b2a1.out hg (fun x hx => (P_3b0b1a0b2a1.out.m.lt_ x hx).1))
           refine hK.out _ _ ?_ (fun hh => ?_)
           ·exact ⟨PX_3b0b1a0b2a1a2.out.b.cell 0, PX_3b0b1a0b2a1a2.out.b.cell 1, PX_3b0b1a0b2a1a2.out.b.cell 2, PY_3b0b1a0b2a1a2.out.b.cell 0, PY_3b0b1a0b2a1a2.out.b.cell 1, PY_3b0b1a0b2a1a2.out.b.cell 2, PZ_3b0b1a0b2a1a2.out.b.cell 0, PZ_3b0b1a0b2a1a2.out.b.cell 1, PZ_3b0b1a0b2a1a2.out.b.cell 2⟩
           clear hK K hown hg hat
           (try simp only [Act.put, setIfInBounds_toArray, set_cons_zero, set_cons_succ])
           refine Till.ready (rs := [12]) (by kernel_rfl) (by simp) ?_
           refine TillEach.cons rfl (fun K hK => ?_) ?_
           ·go_simp
            refine hK.out _ _ ?_ (fun hh => ?_)
            ·exact ⟨PX_3b0b1a0b2a1a2.out.b.cell 0, PX_3b0b1a0b2a1a2.out.b.cell 1, PX_3b0b1a0b2a1a2.out.b.cell 2, PY_3b0b1a0b2a1a2.out.b.cell 0, PY_3b0b1a0b2a1a2.out.b.cell 1, PY_3b0b1a0b2a1a2.out.b.cell 2, PZ_3b0b1a0b2a1a2.out.b.cell 0, PZ_3b0b1a0b2a1a2.out.b.cell 1, PZ_3b0b1a0b2a1a2.out.b.cell 2⟩
            clear hK K
            (try simp only [Act.put, setIfInBounds_toArray, set_cons_zero, set_cons_succ])
            refine Till.ready (rs := [13]) (by kernel_rfl) (by simp) ?_
            refine TillEach.cons rfl (fun K hK => ?_) ?_
            ·go_simp
             refine hK.out _ _ ?_ (fun hh => ?_)
             ·exact ⟨PX_3b0b1a0b2a1a2.out.b.cell 0, PX_3b0b1a0b2a1a2.out.b.cell 1, PX_3b0b1a0b2a1a2.out.b.cell 2, PY_3b0b1a0b2a1a2.out.b.cell 0, PY_3b0b1a0b2a1a2.out.b.cell 1, PY_3b0b1a0b2a1a2.out.b.cell 2, PZ_3b0b1a0b2a1a2.out.b.cell 0, PZ_3b0b1a0b2a1a2.out.b.cell 1, PZ_3b0b1a0b2a1a2.out.b.cell 2⟩
             clear hK K
             (try simp only [Act.put, setIfInBounds_toArray, set_cons_zero, set_cons_succ])
             refine Till.ready (rs := [14]) (by kernel_rfl) (by simp) ?_
             refine TillEach.last rfl (fun K hK => ?_)
             ·go_simp
              refine hK.out _ _ ?_
              clear hK K
              (try simp only [Act.put, setIfInBounds_toArray, set_cons_zero, set_cons_succ])
              refine Till.done (by kernel_rfl) ?_ _
              go_wp2_with fail
              exact ⟨⟨k + 1, A3b0b1a0, c3b0b1a0, _, A3b0b1a0b2a1, c3b0b1a0b2a1, _, A3b0b1a0b2a1a2, c3b0b1a0b2a1a2, _, by omega, rfl, rfl, rfl, by go_num, P_3b0b1a0b2a1a2, MVn, HB_3b0b1a0b2a1a2⟩, by simp [intOf]; omega⟩
            exact TillEach.nil
           exact TillEach.nil
          exact TillEach.nil
         exact TillEach.nil
        exact TillEach.nil
       refine TillEach.cons rfl (fun K hK => ?_) ?_
       ·go_simp
        obtain ⟨u3b0b1b2, hu⟩ : ∃ u, u = u3b0b1.alloc (.cells #[.int .i64 (-(2 * e0)), .int .i64 (-(2 * e1)), .int .i64 (-(2 * e2))] 36) := ⟨_, rfl⟩
        rw [← hu]
        have P_3b0b1b2 := Lib.hid (P_3b0b1.out.alloc (.cells #[.int .i64 (-(2 * e0)), .int .i64 (-(2 * e1)), .int .i64 (-(2 * e2))] 36))
        have PX_3b0b1b2 := Lib.hid (PX_3b0b1.out.alloc (.cells #[.int .i64 (-(2 * e0)), .int .i64 (-(2 * e1)), .int .i64 (-(2 * e2))] 36))
        have PY_3b0b1b2 := Lib.hid (PY_3b0b1.out.alloc (.cells #[.int .i64 (-(2 * e0)), .int .i64 (-(2 * e1)), .int .i64 (-(2 * e2))] 36))
        have PZ_3b0b1b2 := Lib.hid (PZ_3b0b1.out.alloc (.cells #[.int .i64 (-(2 * e0)), .int .i64 (-(2 * e1)), .int .i64 (-(2 * e2))] 36))
        have PB0_3b0b1b2 := Lib.hid (PB0_3b0b1.out.alloc (.cells #[.int .i64 (-(2 * e0)), .int .i64 (-(2 * e1)), .int .i64 (-(2 * e2))] 36))
        have PB1_3b0b1b2 := Lib.hid (PB1_3b0b1.out.alloc (.cells #[.int .i64 (-(2 * e0)), .int .i64 (-(2 * e1)), .int .i64 (-(2 * e2))] 36))
        have PB2_3b0b1b2 := Lib.hid (PB.new_ P_3b0b1.out ⟨-(2 * e0), -(2 * e1), -(2 * e2)⟩)
        have HB_3b0b1b2 : Hid (Below V1.heap.size V1 (u3b0b1.alloc (.cells #[.int .i64 (-(2 * e0)), .int .i64 (-(2 * e1)), .int .i64 (-(2 * e2))] 36))) := Lib.hid ((bw_alloc HB_3b0b1.out _))
        rw [← hu] at P_3b0b1b2 PX_3b0b1b2 PY_3b0b1b2 PZ_3b0b1b2 HB_3b0b1b2 PB0_3b0b1b2 PB1_3b0b1b2 PB2_3b0b1b2
        obtain ⟨g2, hg2⟩ : ∃ g, g = u3b0b1.heap.size := ⟨_, rfl⟩
        rw [← hg2] at PB2_3b0b1b2 ⊢
        refine hK.out _ _ ?_ (fun hh => ?_)
        ·exact ⟨PX_3b0b1b2.out.b.cell 0, PX_3b0b1b2.out.b.cell 1, PX_3b0b1b2.out.b.cell 2, PY_3b0b1b2.out.b.cell 0, PY_3b0b1b2.out.b.cell 1, PY_3b0b1b2.out.b.cell 2, PZ_3b0b1b2.out.b.cell 0, PZ_3b0b1b2.out.b.cell 1, PZ_3b0b1b2.out.b.cell 2⟩
        clear hK K hu hg2
        (try simp only [Act.put, setIfInBounds_toArray, set_cons_zero, set_cons_succ])
        refine Till.ready (rs := [3]) (by kernel_rfl) (by simp) ?_
        refine TillEach.cons rfl (fun K hK => ?_) ?_
        ·refine step_append_sl _ (by rfl) (.tmp 64) (.tmp 66) _ (by rfl) V1.heap.size 36 i0 _ 3 24 Try.underlying34 hi0 hz0 hz1 hz2 rfl (by omega) (.slice Ao k co) k (O.flatMap Tri.cells) (by rfl) P_3b0b1b2.out.o.own (g0 + 1) (some ⟨g0, 0, none⟩) 1 1 [.int .i64 (2 * e0), .int .i64 (2 * e1), .int .i64 (2 * e2)] (by rfl) PB0_3b0b1b2.out.reads (by simp [Value.oneCell']) (by simp only [maxLen]; omega) (by omega) (bw_size HB_3b0b1b2.out) ?_
         intro A3b0b1b2a0 c3b0b1b2a0 u3b0b1b2a0 hown hg hat
         have P_3b0b1b2a0 := Lib.hid (P_3b0b1b2.out.appO (t := ⟨2 * e0, 2 * e1, 2 * e2⟩) hown hg hat)
         have PX_3b0b1b2a0 := Lib.hid (PX_3b0b1b2.out.appO hg hat)
         have PY_3b0b1b2a0 := Lib.hid (PY_3b0b1b2.out.appO hg hat)
         have PZ_3b0b1b2a0 := Lib.hid (PZ_3b0b1b2.out.appO hg hat)
         have PB1_3b0b1b2a0 := Lib.hid (PB1_3b0b1b2.out.appO hg hat)
         have PB2_3b0b1b2a0 := Lib.hid (PB2_3b0b1b2.out.appO hg hat)
         have HB_3b0b1b2a0 := Lib.hid (bw_grow HB_3b0b1b2.out hg (fun x hx => (P_3b0b1b2.out.o.lt_ x hx).1))
         refine hK.out _ _ ?_ (fun hh => ?_)
         ·exact ⟨PX_3b0b1b2a0.out.b.cell 0, PX_3b0b1b2a0.out.b.cell 1, PX_3b0b1b2a0.out.b.cell 2, PY_3b0b1b2a0.out.b.cell 0, PY_3b0b1b2a0.out.b.cell 1, PY_3b0b1b2a0.out.b.cell 2, PZ_3b0b1b2a0.out.b.cell 0, PZ_3b0b1b2a0.out.b.cell 1, PZ_3b0b1b2a0.out.b.cell 2⟩
         clear hK K hown hg hat
         (try simp only [Act.put, setIfInBounds_toArray, set_cons_zero, set_cons_succ])
         refine Till.ready (rs := [7]) (by kernel_rfl) (by simp) ?_
         refine TillEach.cons rfl (fun K hK => ?_) ?_
         ·refine step_append_sl _ (by rfl) (.tmp 68) (.tmp 70) _ (by rfl) V1.heap.size 36 i0 _ 3 24 Try.underlying34 hi0 hz0 hz1 hz2 rfl (by omega) (.slice Aq k cq) k (Q.flatMap Tri.cells) (by rfl) P_3b0b1b2a0.out.q.own (g1 + 1) (some ⟨g1, 0, none⟩) 1 1 [.int .i64 (2 * e0 + 2 * t0), .int .i64 (2 * e1 + 2 * t1), .int .i64 (2 * e2 + 2 * t2)] (by rfl) PB1_3b0b1b2a0.out.reads (by simp [Value.oneCell']) (by simp only [maxLen]; omega) (by omega) (bw_size HB_3b0b1b2a0.out) ?_
          intro A3b0b1b2a0a1 c3b0b1b2a0a1 u3b0b1b2a0a1 hown hg hat
          have P_3b0b1b2a0a1 := Lib.hid (P_3b0b1b2a0.out.appQ (t := ⟨2 * e0 + 2 * t0, 2 * e1 + 2 * t1, 2 * e2 + 2 * t2⟩) hown hg hat)
          have PX_3b0b1b2a0a1 := Lib.hid (PX_3b0b1b2a0.out.appQ hg hat)
          have PY_3b0b1b2a0a1 := Lib.hid (PY_3b0b1b2a0.out.appQ hg hat)
          have PZ_3b0b1b2a0a1 := Lib.hid (PZ_3b0b1b2a0.out.appQ hg hat)
          have PB2_3b0b1b2a0a1 := Lib.hid (PB2_3b0b1b2a0.out.appQ hg hat)
          have HB_3b0b1b2a0a1 := Lib.hid (bw_grow HB_3b0b1b2a0.out hg (fun x hx => (P_3b0b1b2a0.out.q.lt_ x hx).1))
          refine hK.out _ _ ?_ (fun hh => ?_)
          ·exact ⟨PX_3b0b1b2a0a1.out.b.cell 0, PX_3b0b1b2a0a1.out.b.cell 1, PX_3b0b1b2a0a1.out.b.cell 2, PY_3b0b1b2a0a1.out.b.cell 0, PY_3b0b1b2a0a1.out.b.cell 1, PY_3b0b1b2a0a1.out.b.cell 2, PZ_3b0b1b2a0a1.out.b.cell 0, PZ_3b0b1b2a0a1.out.b.cell 1, PZ_3b0b1b2a0a1.out.b.cell 2⟩
          clear hK K hown hg hat
          (try simp only [Act.put, setIfInBounds_toArray, set_cons_zero, set_cons_succ])
          refine Till.ready (rs := [11]) (by kernel_rfl) (by simp) ?_
          refine TillEach.cons rfl (fun K hK => ?_) ?_
          ·refine step_append_sl _ (by rfl) (.tmp 72) (.tmp 74) _ (by rfl) V1.heap.size 36 i0 _ 3 24 Try.underlying34 hi0 hz0 hz1 hz2 rfl (by omega) (.slice Am k cm) k (M.flatMap Tri.cells) (by rfl) P_3b0b1b2a0a1.out.m.own (g2 + 1) (some ⟨g2, 0, none⟩) 1 1 [.int .i64 (-(2 * e0)), .int .i64 (-(2 * e1)), .int .i64 (-(2 * e2))] (by rfl) PB2_3b0b1b2a0a1.out.reads (by simp [Value.oneCell']) (by simp only [maxLen]; omega) (by omega) (bw_size HB_3b0b1b2a0a1.out) ?_
           intro A3b0b1b2a0a1a2 c3b0b1b2a0a1a2 u3b0b1b2a0a1a2 hown hg hat
           have P_3b0b1b2a0a1a2 := Lib.hid (P_3b0b1b2a0a1.out.appM (t := ⟨-(2 * e0), -(2 * e1), -(2 * e2)⟩) hown hg hat)
           have PX_3b0b1b2a0a1a2 := Lib.hid (PX_3b0b1b2a0a1.out.appM hg hat)
           have PY_3b0b1b2a0a1a2 := Lib.hid (PY_3b0b1b2a0a1.out.appM hg hat)
           have PZ_3b0b1b2a0a1a2 := Lib.hid (PZ_3b0b1b2a0a1.out.appM hg hat)
           have HB_3b0b1b2a0a1a2 := Lib.hid (bw_grow HB_3b0b1b2a0a1.out hg (fun x hx => (P_3b0b1b2a0a1.out.m.lt_ x hx).1))
           refine hK.out _ _ ?_ (fun hh => ?_)
           ·exact ⟨PX_3b0b1b2a0a1a2.out.b.cell 0, PX_3b0b1b2a0a1a2.out.b.cell 1, PX_3b0b1b2a0a1a2.out.b.cell 2, PY_3b0b1b2a0a1a2.out.b.cell 0, PY_3b0b1b2a0a1a2.out.b.cell 1, PY_3b0b1b2a0a1a2.out.b.cell 2, PZ_3b0b1b2a0a1a2.out.b.cell 0, PZ_3b0b1b2a0a1a2.out.b.cell 1, PZ_3b0b1b2a0a1a2.out.b.cell 2⟩
           clear hK K hown hg hat
           (try simp only [Act.put, setIfInBounds_toArray, set_cons_zero, set_cons_succ])
           refine Till.ready (rs := [12]) (by kernel_rfl) (by simp) ?_
           refine TillEach.cons rfl (fun K hK => ?_) ?_
           ·go_simp
            refine hK.out _ _ ?_ (fun hh => ?_)
            ·exact ⟨PX_3b0b1b2a0a1a2.out.b.cell 0, PX_3b0b1b2a0a1a2.out.b.cell 1, PX_3b0b1b2a0a1a2.out.b.cell 2, PY_3b0b1b2a0a1a2.out.b.cell 0, PY_3b0b1b2a0a1a2.out.b.cell 1, PY_3b0b1b2a0a1a2.out.b.cell 2, PZ_3b0b1b2a0a1a2.out.b.cell 0, PZ_3b0b1b2a0a1a2.out.b.cell 1, PZ_3b0b1b2a0a1a2.out.b.cell 2⟩
            clear hK K
            (try simp only [Act.put, setIfInBounds_toArray, set_cons_zero, set_cons_succ])
            refine Till.ready (rs := [13]) (by kernel_rfl) (by simp) ?_
            refine TillEach.cons rfl (fun K hK => ?_) ?_
            ·go_simp
             refine hK.out _ _ ?_ (fun hh => ?_)
             ·exact ⟨PX_3b0b1b2a0a1a2.out.b.cell 0, PX_3b0b1b2a0a1a2.out.b.cell 1, PX_3b0b1b2a0a1a2.out.b.cell 2, PY_3b0b1b2a0a1a2.out.b.cell 0, PY_3b0b1b2a0a1a2.out.b.cell 1, PY_3b0b1b2a0a1a2.out.b.cell 2, PZ_3b0b1b2a0a1a2.out.b.cell 0, PZ_3b0b1b2a0a1a2.out.b.cell 1, PZ_3b0b1b2a0a1a2.out.b.cell 2⟩
             clear hK K
             (try simp only [Act.put, setIfInBounds_toArray, set_cons_zero, set_cons_succ])
             refine Till.ready (rs := [14]) (by kernel_rfl) (by simp) ?_
             refine TillEach.last rfl (fun K hK => ?_)
             ·go_simp
              refine hK.out _ _ ?_
              clear hK K
              (try simp only [Act.put, setIfInBounds_toArray, set_cons_zero, set_cons_succ])
              refine Till.done (by kernel_rfl) ?_ _
              go_wp2_with fail
              exact ⟨⟨k + 1, A3b0b1b2a0, c3b0b1b2a0, _, A3b0b1b2a0a1, c3b0b1b2a0a1, _, A3b0b1b2a0a1a2, c3b0b1b2a0a1a2, _, by omega, rfl, rfl, rfl, by go_num, P_3b0b1b2a0a1a2, MVn, HB_3b0b1b2a0a1a2⟩, by simp [intOf]; omega⟩
            exact TillEach.nil
           exact TillEach.nil
          exact TillEach.nil
         exact TillEach.nil
        exact TillEach.nil
       exact TillEach.nil
      refine TillEach.cons rfl (fun K hK => ?_) ?_
      ·go_simp
       obtain ⟨u3b0b2, hu⟩ : ∃ u, u = u3b0.alloc (.cells #[.int .i64 (-(2 * e0)), .int .i64 (-(2 * e1)), .int .i64 (-(2 * e2))] 36) := ⟨_, rfl⟩
       rw [← hu]
       have P_3b0b2 := Lib.hid (P_3b0.out.alloc (.cells #[.int .i64 (-(2 * e0)), .int .i64 (-(2 * e1)), .int .i64 (-(2 * e2))] 36))
       have PX_3b0b2 := Lib.hid (PX_3b0.out.alloc (.cells #[.int .i64 (-(2 * e0)), .int .i64 (-(2 * e1)), .int .i64 (-(2 * e2))] 36))
       have PY_3b0b2 := Lib.hid (PY_3b0.out.alloc (.cells #[.int .i64 (-(2 * e0)), .int .i64 (-(2 * e1)), .int .i64 (-(2 * e2))] 36))
       have PZ_3b0b2 := Lib.hid (PZ_3b0.out.alloc (.cells #[.int .i64 (-(2 * e0)), .int .i64 (-(2 * e1)), .int .i64 (-(2 * e2))] 36))
       have PB0_3b0b2 := Lib.hid (PB0_3b0.out.alloc (.cells #[.int .i64 (-(2 * e0)), .int .i64 (-(2 * e1)), .int .i64 (-(2 * e2))] 36))
       have PB2_3b0b2 := Lib.hid (PB.new_ P_3b0.out ⟨-(2 * e0), -(2 * e1), -(2 * e2)⟩)
       have HB_3b0b2 : Hid (Below V1.heap.size V1 (u3b0.alloc (.cells #[.int .i64 (-(2 * e0)), .int .i64 (-(2 * e1)), .int .i64 (-(2 * e2))] 36))) := Lib.hid ((bw_alloc HB_3b0.out _))
       rw [← hu] at P_3b0b2 PX_3b0b2 PY_3b0b2 PZ_3b0b2 HB_3b0b2 PB0_3b0b2 PB2_3b0b2
       obtain ⟨g2, hg2⟩ : ∃ g, g = u3b0.heap.size := ⟨_, rfl⟩
       rw [← hg2] at PB2_3b0b2 ⊢
       refine hK.out _ _ ?_ (fun hh => ?_)
       ·exact ⟨PX_3b0b2.out.b.cell 0, PX_3b0b2.out.b.cell 1, PX_3b0b2.out.b.cell 2, PY_3b0b2.out.b.cell 0, PY_3b0b2.out.b.cell 1, PY_3b0b2.out.b.cell 2, PZ_3b0b2.out.b.cell 0, PZ_3b0b2.out.b.cell 1, PZ_3b0b2.out.b.cell 2⟩
       clear hK K hu hg2
       (try simp only [Act.put, setIfInBounds_toArray, set_cons_zero, set_cons_succ])
       refine Till.ready (rs := [3, 6]) (by kernel_rfl) (by simp) ?_
       refine TillEach.cons rfl (fun K hK => ?_) ?_
       ·refine step_append_sl _ (by rfl) (.tmp 64) (.tmp 66) _ (by rfl) V1.heap.size 36 i0 _ 3 24 Try.underlying34 hi0 hz0 hz1 hz2 rfl (by omega) (.slice Ao k co) k (O.flatMap Tri.cells) (by rfl) P_3b0b2.out.o.own (g0 + 1) (some ⟨g0, 0, none⟩) 1 1 [.int .i64 (2 * e0), .int .i64 (2 * e1), .int .i64 (2 * e2)] (by rfl) PB0_3b0b2.out.reads (by simp [Value.oneCell']) (by simp only [maxLen]; omega) (by omega) (bw_size HB_3b0b2.out) ?_
        intro A3b0b2a0 c3b0b2a0 u3b0b2a0 hown hg hat
        have P_3b0b2a0 := Lib.hid (P_3b0b2.out.appO (t := ⟨2 * e0, 2 * e1, 2 * e2⟩) hown hg hat)
        have PX_3b0b2a0 := Lib.hid (PX_3b0b2.out.appO hg hat)
        have PY_3b0b2a0 := Lib.hid (PY_3b0b2.out.appO hg hat)
        have PZ_3b0b2a0 := Lib.hid (PZ_3b0b2.out.appO hg hat)
        have PB2_3b0b2a0 := Lib.hid (PB2_3b0b2.out.appO hg hat)
        have HB_3b0b2a0 := Lib.hid (bw_grow HB_3b0b2.out hg (fun x hx => (P_3b0b2.out.o.lt_ x hx).1))
        refine hK.out _ _ ?_ (fun hh => ?_)
        ·exact ⟨PX_3b0b2a0.out.b.cell 0, PX_3b0b2a0.out.b.cell 1, PX_3b0b2a0.out.b.cell 2, PY_3b0b2a0.out.b.cell 0, PY_3b0b2a0.out.b.cell 1, PY_3b0b2a0.out.b.cell 2, PZ_3b0b2a0.out.b.cell 0, PZ_3b0b2a0.out.b.cell 1, PZ_3b0b2a0.out.b.cell 2⟩
        clear hK K hown hg hat
        (try simp only [Act.put, setIfInBounds_toArray, set_cons_zero, set_cons_succ])
        refine Till.ready (rs := [6]) (by kernel_rfl) (by simp) ?_
        refine TillEach.cons rfl (fun K hK => ?_) ?_
        ·go_simp
         obtain ⟨u3b0b2a0b1, hu⟩ : ∃ u, u = u3b0b2a0.alloc (.cells #[.int .i64 (2 * e0 + 2 * t0), .int .i64 (2 * e1 + 2 * t1), .int .i64 (2 * e2 + 2 * t2)] 36) := ⟨_, rfl⟩
         rw [← hu]
         have P_3b0b2a0b1 := Lib.hid (P_3b0b2a0.out.alloc (.cells #[.int .i64 (2 * e0 + 2 * t0), .int .i64 (2 * e1 + 2 * t1), .int .i64 (2 * e2 + 2 * t2)] 36))
         have PX_3b0b2a0b1 := Lib.hid (PX_3b0b2a0.out.alloc (.cells #[.int .i64 (2 * e0 + 2 * t0), .int .i64 (2 * e1 + 2 * t1), .int .i64 (2 * e2 + 2 * t2)] 36))
         have PY_3b0b2a0b1 := Lib.hid (PY_3b0b2a0.out.alloc (.cells #[.int .i64 (2 * e0 + 2 * t0), .int .i64 (2 * e1 + 2 * t1), .int .i64 (2 * e2 + 2 * t2)] 36))
         have PZ_3b0b2a0b1 := Lib.hid (PZ_3b0b2a0.out.alloc (.cells #[.int .i64 (2 * e0 + 2 * t0), .int .i64 (2 * e1 + 2 * t1), .int .i64 (2 * e2 + 2 * t2)] 36))
         have PB2_3b0b2a0b1 := Lib.hid (PB2_3b0b2a0.out.alloc (.cells #[.int .i64 (2 * e0 + 2 * t0), .int .i64 (2 * e1 + 2 * t1), .int .i64 (2 * e2 + 2 * t2)] 36))
         have PB1_3b0b2a0b1 := Lib.hid (PB.new_ P_3b0b2a0.out ⟨2 * e0 + 2 * t0, 2 * e1 + 2 * t1, 2 * e2 + 2 * t2⟩)
         have HB_3b0b2a0b1 : Hid (Below V1.heap.size V1 (u3b0b2a0.alloc (.cells #[.int .i64 (2 * e0 + 2 * t0), .int .i64 (2 * e1 + 2 * t1), .int .i64 (2 * e2 + 2 * t2)] 36))) := Lib.hid ((bw_alloc HB_3b0b2a0.out _))
         rw [← hu] at P_3b0b2a0b1 PX_3b0b2a0b1 PY_3b0b2a0b1 PZ_3b0b2a0b1 HB_3b0b2a0b1 PB1_3b0b2a0b1 PB2_3b0b2a0b1
         obtain ⟨g1, hg1⟩ : ∃ g, g = u3b0b2a0.heap.size := ⟨_, rfl⟩
         rw [← hg1] at PB1_3b0b2a0b1 ⊢
         refine hK.out _ _ ?_ (fun hh => ?_)
         ·exact ⟨PX_3b0b2a0b1.out.b.cell 0, PX_3b0b2a0b1.out.b.cell 1, PX_3b0b2a0b1.out.b.cell 2, PY_3b0b2a0b1.out.b.cell 0, PY_3b0b2a0b1.out.b.cell 1, PY_3b0b2a0b1.out.b.cell 2, PZ_3b0b2a0b1.out.b.cell 0, PZ_3b0b2a0b1.out.b.cell 1, PZ_3b0b2a0b1.out.b.cell 2⟩
         clear hK K hu hg1
         (try simp only [Act.put, setIfInBounds_toArray, set_cons_zero, set_cons_succ])
         refine Till.ready (rs := [7]) (by kernel_rfl) (by simp) ?_
         refine TillEach.cons rfl (fun K hK => ?_) ?_
         ·refine step_append_sl _ (by rfl) (.tmp 68) (.tmp 70) _ (by rfl) V1.heap.size 36 i0 _ 3 24 Try.underlying34 hi0 hz0 hz1 hz2 rfl (by omega) (.slice Aq k cq) k (Q.flatMap Tri.cells) (by rfl) P_3b0b2a0b1.out.q.own (g1 + 1) (some ⟨g1, 0, none⟩) 1 1 [.int .i64 (2 * e0 + 2 * t0), .int .i64 (2 * e1 + 2 * t1), .int .i64 (2 * e2 + 2 * t2)] (by rfl) PB1_3b0b2a0b1.out.reads (by simp [Value.oneCell']) (by simp only [maxLen]; omega) (by omega) (bw_size HB_3b0b2a0b1.out) ?_
          intro A3b0b2a0b1a1 c3b0b2a0b1a1 u3b0b2a0b1a1 hown hg hat
          have P_3b0b2a0b1a1 := Lib.hid (P_3b0b2a0b1.out.appQ (t := ⟨2 * e0 + 2 * t0, 2 * e1 + 2 * t1, 2 * e2 + 2 * t2⟩) hown hg hat)
          have PX_3b0b2a0b1a1 := Lib.hid (PX_3b0b2a0b1.out.appQ hg hat)
          have PY_3b0b2a0b1a1 := Lib.hid (PY_3b0b2a0b1.out.appQ hg hat)
          have PZ_3b0b2a0b1a1 := Lib.hid (PZ_3b0b2a0b1.out.appQ hg hat)
          have PB2_3b0b2a0b1a1 := Lib.hid (PB2_3b0b2a0b1.out.appQ hg hat)
          have HB_3b0b2a0b1a1 := Lib.hid (bw_grow HB_3b0b2a0b1.out hg (fun x hx => (P_3b0b2a0b1.out.q.lt_ x hx).1))
          refine hK.out _ _ ?_ (fun hh => ?_)
          ·exact ⟨PX_3b0b2a0b1a1.out.b.cell 0, PX_3b0b2a0b1a1.out.b.cell 1, PX_3b0b2a0b1a1.out.b.cell 2, PY_3b0b2a0b1a1.out.b.cell 0, PY_3b0b2a0b1a1.out.b.cell 1, PY_3b0b2a0b1a1.out.b.cell 2, PZ_3b0b2a0b1a1.out.b.cell 0, PZ_3b0b2a0b1a1.out.b.cell 1, PZ_3b0b2a0b1a1.out.b.cell 2⟩
          clear hK K hown hg hat
          (try simp only [Act.put, setIfInBounds_toArray, set_cons_zero, set_cons_succ])
          refine Till.ready (rs := [11]) (by kernel_rfl) (by simp) ?_
          refine TillEach.cons rfl (fun K hK => ?_) ?_
          ·refine step_append_sl _ (by rfl) (.tmp 72) (.tmp 74) _ (by rfl) V1.heap.size 36 i0 _ 3 24 Try.underlying34 hi0 hz0 hz1 hz2 rfl (by omega) (.slice Am k cm) k (M.flatMap Tri.cells) (by rfl) P_3b0b2a0b1a1.out.m.own (g2 + 1) (some ⟨g2, 0, none⟩) 1 1 [.int .i64 (-(2 * e0)), .int .i64 (-(2 * e1)), .int .i64 (-(2 * e2))] (by rfl) PB2_3b0b2a0b1a1.out.reads (by simp [Value.oneCell']) (by simp only [maxLen]; omega) (by omega) (bw_size HB_3b0b2a0b1a1.out) ?_
           intro A3b0b2a0b1a1a2 c3b0b2a0b1a1a2 u3b0b2a0b1a1a2 hown hg hat
           have P_3b0b2a0b1a1a2 := Lib.hid (P_3b0b2a0b1a1.out.appM (t := ⟨-(2 * e0), -(2 * e1), -(2 * e2)⟩) hown hg hat)
           have PX_3b0b2a0b1a1a2 := Lib.hid (PX_3b0b2a0b1a1.out.appM hg hat)
           have PY_3b0b2a0b1a1a2 := Lib.hid (PY_3b0b2a0b1a1.out.appM hg hat)
           have PZ_3b0b2a0b1a1a2 := Lib.hid (PZ_3b0b2a0b1a1.out.appM hg hat)
           have HB_3b0b2a0b1a1a2 := Lib.hid (bw_grow HB_3b0b2a0b1a1.out hg (fun x hx => (P_3b0b2a0b1a1.out.m.lt_ x hx).1))
           refine hK.out _ _ ?_ (fun hh => ?_)
           ·exact ⟨PX_3b0b2a0b1a1a2.out.b.cell 0, PX_3b0b2a0b1a1a2.out.b.cell 1, PX_3b0b2a0b1a1a2.out.b.cell 2, PY_3b0b2a0b1a1a2.out.b.cell 0, PY_3b0b2a0b1a1a2.out.b.cell 1, PY_3b0b2a0b1a1a2.out.b.cell 2, PZ_3b0b2a0b1a1a2.out.b.cell 0, PZ_3b0b2a0b1a1a2.out.b.cell 1, PZ_3b0b2a0b1a1a2.out.b.cell 2⟩
           clear hK K hown hg hat
           (try simp only [Act.put, setIfInBounds_toArray, set_cons_zero, set_cons_succ])
           refine Till.ready (rs := [12]) (by kernel_rfl) (by simp) ?_
           refine TillEach.cons rfl (fun K hK => ?_) ?_
           ·go_simp
            refine hK.out _ _ ?_ (fun hh => ?_)
            ·exact ⟨PX_3b0b2a0b1a1a2.out.b.cell 0, PX_3b0b2a0b1a1a2.out.b.cell 1, PX_3b0b2a0b1a1a2.out.b.cell 2, PY_3b0b2a0b1a1a2.out.b.cell 0, PY_3b0b2a0b1a1a2.out.b.cell 1, PY_3b0b2a0b1a1a2.out.b.cell 2, PZ_3b0b2a0b1a1a2.out.b.cell 0, PZ_3b0b2a0b1a1a2.out.b.cell 1, PZ_3b0b2a0b1a1a2.out.b.cell 2⟩
            clear hK K
            (try simp only [Act.put, setIfInBounds_toArray, set_cons_zero, set_cons_succ])
            refine Till.ready (rs := [13]) (by kernel_rfl) (by simp) ?_
            refine TillEach.cons rfl (fun K hK => ?_) ?_
            ·go_simp
             refine hK.out _ _ ?_ (fun hh => ?_)
             ·exact ⟨PX_3b0b2a0b1a1a2.out.b.cell 0, PX_3b0b2a0b1a1a2.out.b.cell 1, PX_3b0b2a0b1a1a2.out.b.cell 2, PY_3b0b2a0b1a1a2.out.b.cell 0, PY_3b0b2a0b1a1a2.out.b.cell 1, PY_3b0b2a0b1a1a2.out.b.cell 2, PZ_3b0b2a0b1a1a2.out.b.cell 0, PZ_3b0b2a0b1a1a2.out.b.cell 1, PZ_3b0b2a0b1a1a2.out.b.cell 2⟩
             clear hK K
             (try simp only [Act.put, setIfInBounds_toArray, set_cons_zero, set_cons_succ])
             refine Till.ready (rs := [14]) (by kernel_rfl) (by simp) ?_
             refine TillEach.last rfl (fun K hK => ?_)
             ·go_simp
              refine hK.out _ _ ?_
              clear hK K
              (try simp only [Act.put, setIfInBounds_toArray, set_cons_zero, set_cons_succ])
              refine Till.done (by kernel_rfl) ?_ _
              go_wp2_with fail
              exact ⟨⟨k + 1, A3b0b2a0, c3b0b2a0, _, A3b0b2a0b1a1, c3b0b2a0b1a1, _, A3b0b2a0b1a1a2, c3b0b2a0b1a1a2, _, by omega, rfl, rfl, rfl, by go_num, P_3b0b2a0b1a1a2, MVn, HB_3b0b2a0b1a1a2⟩, by simp [intOf]; omega⟩
            exact TillEach.nil
           exact TillEach.nil
          exact TillEach.nil
         exact TillEach.nil
        exact TillEach.nil
       refine TillEach.cons rfl (fun K hK => ?_) ?_
       ·go_simp
        obtain ⟨u3b0b2b1, hu⟩ : ∃ u, u = u3b0b2.alloc (.cells #[.int .i64 (2 * e0 + 2 * t0), .int .i64 (2 * e1 + 2 * t1), .int .i64 (2 * e2 + 2 * t2)] 36) := ⟨_, rfl⟩
        rw [← hu]
        have P_3b0b2b1 := Lib.hid (P_3b0b2.out.alloc (.cells #[.int .i64 (2 * e0 + 2 * t0), .int .i64 (2 * e1 + 2 * t1), .int .i64 (2 * e2 + 2 * t2)] 36))
        have PX_3b0b2b1 := Lib.hid (PX_3b0b2.out.alloc (.cells #[.int .i64 (2 * e0 + 2 * t0), .int .i64 (2 * e1 + 2 * t1), .int .i64 (2 * e2 + 2 * t2)] 36))
        have PY_3b0b2b1 := Lib.hid (PY_3b0b2.out.alloc (.cells #[.int .i64 (2 * e0 + 2 * t0), .int .i64 (2 * e1 + 2 * t1), .int .i64 (2 * e2 + 2 * t2)] 36))
        have PZ_3b0b2b1 := Lib.hid (PZ_3b0b2.out.alloc (.cells #[.int .i64 (2 * e0 + 2 * t0), .int .i64 (2 * e1 + 2 * t1), .int .i64 (2 * e2 + 2 * t2)] 36))
        have PB0_3b0b2b1 := Lib.hid (PB0_3b0b2.out.alloc (.cells #[.int .i64 (2 * e0 + 2 * t0), .int .i64 (2 * e1 + 2 * t1), .int .i64 (2 * e2 + 2 * t2)] 36))
        have PB2_3b0b2b1 := Lib.hid (PB2_3b0b2.out.alloc (.cells #[.int .i64 (2 * e0 + 2 * t0), .int .i64 (2 * e1 + 2 * t1), .int .i64 (2 * e2 + 2 * t2)] 36))
        have PB1_3b0b2b1 := Lib.hid (PB.new_ P_3b0b2.out ⟨2 * e0 + 2 * t0, 2 * e1 + 2 * t1, 2 * e2 + 2 * t2⟩)
        have HB_3b0b2b1 : Hid (Below V1.heap.size V1 (u3b0b2.alloc (.cells #[.int .i64 (2 * e0 + 2 * t0), .int .i64 (2 * e1 + 2 * t1), .int .i64 (2 * e2 + 2 * t2)] 36))) := Lib.hid ((bw_alloc HB_3b0b2.out _))
        rw [← hu] at P_3b0b2b1 PX_3b0b2b1 PY_3b0b2b1 PZ_3b0b2b1 HB_3b0b2b1 PB0_3b0b2b1 PB1_3b0b2b1 PB2_3b0b2b1
        obtain ⟨g1, hg1⟩ : ∃ g, g = u3b0b2.heap.size := ⟨_, rfl⟩
        rw [← hg1] at PB1_3b0b2b1 ⊢
        refine hK.out _ _ ?_ (fun hh => ?_)
        ·exact ⟨PX_3b0b2b1.out.b.cell 0, PX_3b0b2b1.out.b.cell 1, PX_3b0b2b1.out.b.cell 2, PY_3b0b2b1.out.b.cell 0, PY_3b0b2b1.out.b.cell 1, PY_3b0b2b1.out.b.cell 2, PZ_3b0b2b1.out.b.cell 0, PZ_3b0b2b1.out.b.cell 1, PZ_3b0b2b1.out.b.cell 2⟩
        clear hK K hu hg1
        (try simp only [Act.put, setIfInBounds_toArray, set_cons_zero, set_cons_succ])
        refine Till.ready (rs := [3]) (by kernel_rfl) (by simp) ?_
        refine TillEach.cons rfl (fun K hK => ?_) ?_
        ·refine step_append_sl _ (by rfl) (.tmp 64) (.tmp 66) _ (by rfl) V1.heap.size 36 i0 _ 3 24 Try.underlying34 hi0 hz0 hz1 hz2 rfl (by omega) (.slice Ao k co) k (O.flatMap Tri.cells) (by rfl) P_3b0b2b1.out.o.own (g0 + 1) (some ⟨g0, 0, none⟩) 1 1 [.int .i64 (2 * e0), .int .i64 (2 * e1), .int .i64 (2 * e2)] (by rfl) PB0_3b0b2b1.out.reads (by simp [Value.oneCell']) (by simp only [maxLen]; omega) (by omega) (bw_size HB_3b0b2b1.out) ?_
         intro A3b0b2b1a0 c3b0b2b1a0 u3b0b2b1a0 hown hg hat
         have P_3b0b2b1a0 := Lib.hid (P_3b0b2b1.out.appO (t := ⟨2 * e0, 2 * e1, 2 * e2⟩) hown hg hat)
         have PX_3b0b2b1a0 := Lib.hid (PX_3b0b2b1.out.appO hg hat)
         have PY_3b0b2b1a0 := Lib.hid (PY_3b0b2b1.out.appO hg hat)
         have PZ_3b0b2b1a0 := Lib.hid (PZ_3b0b2b1.out.appO hg hat)
         have PB1_3b0b2b1a0 := Lib.hid (PB1_3b0b2b1.out.appO hg hat)
         have PB2_3b0b2b1a0 := Lib.hid (PB2_3b0b2b1.out.appO hg hat)
         have HB_3b0b2b1a0 := Lib.hid (bw_grow HB_3b0b2b1.out hg (fun x hx => (P_3b0b2b1.out.o.lt_ x hx).1))
         refine hK.out _ _ ?_ (fun hh => ?_)
         ·exact ⟨PX_3b0b2b1a0.out.b.cell 0, PX_3b0b2b1a0.out.b.cell 1, PX_3b0b2b1a0.out.b.cell 2, PY_3b0b2b1a0.out.b.cell 0, PY_3b0b2b1a0.out.b.cell 1, PY_3b0b2b1a0.out.b.cell 2, PZ_3b0b2b1a0.out.b.cell 0, PZ_3b0b2b1a0.out.b.cell 1, PZ_3b0b2b1a0.out.b.cell 2⟩
         clear hK K hown hg hat
         (try simp only [Act.put, setIfInBounds_toArray, set_cons_zero, set_cons_succ])
         refine Till.ready (rs := [7]) (by kernel_rfl) (by simp) ?_
         refine TillEach.cons rfl (fun K hK => ?_) ?_
         ·refine step_append_sl _ (by rfl) (.tmp 68) (.tmp 70) _ (by rfl) V1.heap.size 36 i0 _ 3 24 Try.underlying34 hi0 hz0 hz1 hz2 rfl (by omega) (.slice Aq k cq) k (Q.flatMap Tri.cells) (by rfl) P_3b0b2b1a0.out.q.own (g1 + 1) (some ⟨g1, 0, none⟩) 1 1 [.int .i64 (2 * e0 + 2 * t0), .int .i64 (2 * e1 + 2 * t1), .int .i64 (2 * e2 + 2 * t2)] (by rfl) PB1_3b0b2b1a0.out.reads (by simp [Value.oneCell']) (by simp only [maxLen]; omega) (by omega) (bw_size HB_3b0b2b1a0.out) ?_
          intro A3b0b2b1a0a1 c3b0b2b1a0a1 u3b0b2b1a0a1 hown hg hat
          have P_3b0b2b1a0a1 := Lib.hid (P_3b0b2b1a0.out.appQ (t := ⟨2 * e0 + 2 * t0, 2 * e1 + 2 * t1, 2 * e2 + 2 * t2⟩) hown hg hat)
          have PX_3b0b2b1a0a1 := Lib.hid (PX_3b0b2b1a0.out.appQ hg hat)
          have PY_3b0b2b1a0a1 := Lib.hid (PY_3b0b2b1a0.out.appQ hg hat)
          have PZ_3b0b2b1a0a1 := Lib.hid (PZ_3b0b2b1a0.out.appQ hg hat)
          have PB2_3b0b2b1a0a1 := Lib.hid (PB2_3b0b2b1a0.out.appQ hg hat)
          have HB_3b0b2b1a0a1 := Lib.hid (bw_grow HB_3b0b2b1a0.out hg (fun x hx => (P_3b0b2b1a0.out.q.lt_ x hx).1))
          refine hK.out _ _ ?_ (fun hh => ?_)
          ·exact ⟨PX_3b0b2b1a0a1.out.b.cell 0, PX_3b0b2b1a0a1.out.b.cell 1, PX_3b0b2b1a0a1.out.b.cell 2, PY_3b0b2b1a0a1.out.b.cell 0, PY_3b0b2b1a0a1.out.b.cell 1, PY_3b0b2b1a0a1.out.b.cell 2, PZ_3b0b2b1a0a1.out.b.cell 0, PZ_3b0b2b1a0a1.out.b.cell 1, PZ_3b0b2b1a0a1.out.b.cell 2⟩
          clear hK K hown hg hat
          (try simp only [Act.put, setIfInBounds_toArray, set_cons_zero, set_cons_succ])
          refine Till.ready (rs := [11]) (by kernel_rfl) (by simp) ?_
          refine TillEach.cons rfl (fun K hK => ?_) ?_
          ·refine step_append_sl _ (by rfl) (.tmp 72) (.tmp 74) _ (by rfl) V1.heap.size 36 i0 _ 3 24 Try.underlying34 hi0 hz0 hz1 hz2 rfl (by omega) (.slice Am k cm) k (M.flatMap Tri.cells) (by rfl) P_3b0b2b1a0a1.out.m.own (g2 + 1) (some ⟨g2, 0, none⟩) 1 1 [.int .i64 (-(2 * e0)), .int .i64 (-(2 * e1)), .int .i64 (-(2 * e2))] (by rfl) PB2_3b0b2b1a0a1.out.reads (by simp [Value.oneCell']) (by simp only [maxLen]; omega) (by omega) (bw_size HB_3b0b2b1a0a1.out) ?_
           intro A3b0b2b1a0a1a2 c3b0b2b1a0a1a2 u3b0b2b1a0a1a2 hown hg hat
           have P_3b0b2b1a0a1a2 := Lib.hid (P_3b0b2b1a0a1.out.appM (t := ⟨-(2 * e0), -(2 * e1), -(2 * e2)⟩) hown hg hat)
           have PX_3b0b2b1a0a1a2 := Lib.hid (PX_3b0b2b1a0a1.out.appM hg hat)
           have PY_3b0b2b1a0a1a2 := Lib.hid (PY_3b0b2b1a0a1.out.appM hg hat)
           have PZ_3b0b2b1a0a1a2 := Lib.hid (PZ_3b0b2b1a0a1.out.appM hg hat)
           have HB_3b0b2b1a0a1a2 := Lib.hid (bw_grow HB_3b0b2b1a0a1.out hg (fun x hx => (P_3b0b2b1a0a1.out.m.lt_ x hx).1))
           refine hK.out _ _ ?_ (fun hh => ?_)
           ·exact ⟨PX_3b0b2b1a0a1a2.out.b.cell 0, PX_3b0b2b1a0a1a2.out.b.cell 1, PX_3b0b2b1a0a1a2.out.b.cell 2, PY_3b0b2b1a0a1a2.out.b.cell 0, PY_3b0b2b1a0a1a2.out.b.cell 1, PY_3b0b2b1a0a1a2.out.b.cell 2, PZ_3b0b2b1a0a1a2.out.b.cell 0, PZ_3b0b2b1a0a1a2.out.b.cell 1, PZ_3b0b2b1a0a1a2.out.b.cell 2⟩
           clear hK K hown hg hat
           (try simp only [Act.put, setIfInBounds_toArray, set_cons_zero, set_cons_succ])
           refine Till.ready (rs := [12]) (by kernel_rfl) (by simp) ?_
           refine TillEach.cons rfl (fun K hK => ?_) ?_
           ·go_simp
            refine hK.out _ _ ?_ (fun hh => ?_)
            ·exact ⟨PX_3b0b2b1a0a1a2.out.b.cell 0, PX_3b0b2b1a0a1a2.out.b.cell 1, PX_3b0b2b1a0a1a2.out.b.cell 2, PY_3b0b2b1a0a1a2.out.b.cell 0, PY_3b0b2b1a0a1a2.out.b.cell 1, PY_3b0b2b1a0a1a2.out.b.cell 2, PZ_3b0b2b1a0a1a2.out.b.cell 0, PZ_3b0b2b1a0a1a2.out.b.cell 1, PZ_3b0b2b1a0a1a2.out.b.cell 2⟩
            clear hK K
            (try simp only [Act.put, setIfInBounds_toArray, set_cons_zero, set_cons_succ])
            refine Till.ready (rs := [13]) (by kernel_rfl) (by simp) ?_
            refine TillEach.cons rfl (fun K hK => ?_) ?_
            ·go_simp
             refine hK.out _ _ ?_ (fun hh => ?_)
             ·exact ⟨PX_3b0b2b1a0a1a2.out.b.cell 0, PX_3b0b2b1a0a1a2.out.b.cell 1, PX_3b0b2b1a0a1a2.out.b.cell 2, PY_3b0b2b1a0a1a2.out.b.cell 0, PY_3b0b2b1a0a1a2.out.b.cell 1, PY_3b0b2b1a0a1a2.out.b.cell 2, PZ_3b0b2b1a0a1a2.out.b.cell 0, PZ_3b0b2b1a0a1a2.out.b.cell 1, PZ_3b0b2b1a0a1a2.out.b.cell 2⟩
             clear hK K
             (try simp only [Act.put, setIfInBounds_toArray, set_cons_zero, set_cons_succ])
             refine Till.ready (rs := [14]) (by kernel_rfl) (by simp) ?_
             refine TillEach.last rfl (fun K hK => ?_)
             ·go_simp
              refine hK.out _ _ ?_
              clear hK K
              (try simp only [Act.put, setIfInBounds_toArray, set_cons_zero, set_cons_succ])
              refine Till.done (by kernel_rfl) ?_ _
              go_wp2_with fail
              exact ⟨⟨k + 1, A3b0b2b1a0, c3b0b2b1a0, _, A3b0b2b1a0a1, c3b0b2b1a0a1, _, A3b0b2b1a0a1a2, c3b0b2b1a0a1a2, _, by omega, rfl, rfl, rfl, by go_num, P_3b0b2b1a0a1a2, MVn, HB_3b0b2b1a0a1a2⟩, by simp [intOf]; omega⟩
            exact TillEach.nil
           exact TillEach.nil
          exact TillEach.nil
         exact TillEach.nil
        exact TillEach.nil
       exact TillEach.nil
      exact TillEach.nil
     refine TillEach.cons rfl (fun K hK => ?_) ?_
     ·go_simp
      obtain ⟨u3b1, hu⟩ : ∃ u, u = (r3.alloc (.cells #[.int .i64 (2 * e0 + 2 * t0), .int .i64 (2 * e1 + 2 * t1), .int .i64 (2 * e2 + 2 * t2)] 36)).drew := ⟨_, rfl⟩
      rw [← hu]
      have HBd := Lib.hid (bw_drew HB_3.out)
      have P_3b1 := Lib.hid ((P_3.out.alloc (.cells #[.int .i64 (2 * e0 + 2 * t0), .int .i64 (2 * e1 + 2 * t1), .int .i64 (2 * e2 + 2 * t2)] 36)).drew)
      have PX_3b1 := Lib.hid ((PX_3.out.alloc (.cells #[.int .i64 (2 * e0 + 2 * t0), .int .i64 (2 * e1 + 2 * t1), .int .i64 (2 * e2 + 2 * t2)] 36)).drew)
      have PY_3b1 := Lib.hid ((PY_3.out.alloc (.cells #[.int .i64 (2 * e0 + 2 * t0), .int .i64 (2 * e1 + 2 * t1), .int .i64 (2 * e2 + 2 * t2)] 36)).drew)
      have PZ_3b1 := Lib.hid ((PZ_3.out.alloc (.cells #[.int .i64 (2 * e0 + 2 * t0), .int .i64 (2 * e1 + 2 * t1), .int .i64 (2 * e2 + 2 * t2)] 36)).drew)
      have PB1_3b1 := Lib.hid ((PB.new_ P_3.out ⟨2 * e0 + 2 * t0, 2 * e1 + 2 * t1, 2 * e2 + 2 * t2⟩).drew)
      have HB_3b1 : Hid (Below V1.heap.size V1 ((r3.alloc (.cells #[.int .i64 (2 * e0 + 2 * t0), .int .i64 (2 * e1 + 2 * t1), .int .i64 (2 * e2 + 2 * t2)] 36)).drew)) := Lib.hid (bw_drew (bw_alloc HB_3.out _))
      rw [← hu] at P_3b1 PX_3b1 PY_3b1 PZ_3b1 HB_3b1 PB1_3b1
      obtain ⟨g1, hg1⟩ : ∃ g, g = r3.heap.size := ⟨_, rfl⟩
      rw [← hg1] at PB1_3b1 ⊢
      refine hK.out _ _ ?_ (fun hh => ?_)
      ·exact ⟨PX_3b1.out.b.cell 0, PX_3b1.out.b.cell 1, PX_3b1.out.b.cell 2, PY_3b1.out.b.cell 0, PY_3b1.out.b.cell 1, PY_3b1.out.b.cell 2, PZ_3b1.out.b.cell 0, PZ_3b1.out.b.cell 1, PZ_3b1.out.b.cell 2⟩
      clear hK K hu hg1 HBd
      (try simp only [Act.put, setIfInBounds_toArray, set_cons_zero, set_cons_succ])
      refine Till.ready (rs := [2, 10]) (by kernel_rfl) (by simp) ?_
      refine TillEach.cons rfl (fun K hK => ?_) ?_
      ·go_simp
       obtain ⟨u3b1b0, hu⟩ : ∃ u, u = u3b1.alloc (.cells #[.int .i64 (2 * e0), .int .i64 (2 * e1), .int .i64 (2 * e2)] 36) := ⟨_, rfl⟩
       rw [← hu]
       have P_3b1b0 := Lib.hid (P_3b1.out.alloc (.cells #[.int .i64 (2 * e0), .int .i64 (2 * e1), .int .i64 (2 * e2)] 36))
       have PX_3b1b0 := Lib.hid (PX_3b1.out.alloc (.cells #[.int .i64 (2 * e0), .int .i64 (2 * e1), .int .i64 (2 * e2)] 36))
       have PY_3b1b0 := Lib.hid (PY_3b1.out.alloc (.cells #[.int .i64 (2 * e0), .int .i64 (2 * e1), .int .i64 (2 * e2)] 36))
       have PZ_3b1b0 := Lib.hid (PZ_3b1.out.alloc (.cells #[.int .i64 (2 * e0), .int .i64 (2 * e1), .int .i64 (2 * e2)] 36))
       have PB1_3b1b0 := Lib.hid (PB1_3b1.out.alloc (.cells #[.int .i64 (2 * e0), .int .i64 (2 * e1), .int .i64 (2 * e2)] 36))
       have PB0_3b1b0 := Lib.hid (PB.new_ P_3b1.out ⟨2 * e0, 2 * e1, 2 * e2⟩)
       have HB_3b1b0 : Hid (Below V1.heap.size V1 (u3b1.alloc (.cells #[.int .i64 (2 * e0), .int .i64 (2 * e1), .int .i64 (2 * e2)] 36))) := Lib.hid ((bw_alloc HB_3b1.out _))
       rw [← hu] at P_3b1b0 PX_3b1b0 PY_3b1b0 PZ_3b1b0 HB_3b1b0 PB0_3b1b0 PB1_3b1b0
       obtain ⟨g0, hg0⟩ : ∃ g, g = u3b1.heap.size := ⟨_, rfl⟩
       rw [← hg0] at PB0_3b1b0 ⊢
       refine hK.out _ _ ?_ (fun hh => ?_)
       ·exact ⟨PX_3b1b0.out.b.cell 0, PX_3b1b0.out.b.cell 1, PX_3b1b0.out.b.cell 2, PY_3b1b0.out.b.cell 0, PY_3b1b0.out.b.cell 1, PY_3b1b0.out.b.cell 2, PZ_3b1b0.out.b.cell 0, PZ_3b1b0.out.b.cell 1, PZ_3b1b0.out.b.cell 2⟩
       clear hK K hu hg0
       (try simp only [Act.put, setIfInBounds_toArray, set_cons_zero, set_cons_succ])
       refine Till.ready (rs := [3, 10]) (by kernel_rfl) (by simp) ?_
       refine TillEach.cons rfl (fun K hK => ?_) ?_
       ·refine step_append_sl _ (by rfl) (.tmp 64) (.tmp 66) _ (by rfl) V1.heap.size 36 i0 _ 3 24 Try.underlying34 hi0 hz0 hz1 hz2 rfl (by omega) (.slice Ao k co) k (O.flatMap Tri.cells) (by rfl) P_3b1b0.out.o.own (g0 + 1) (some ⟨g0, 0, none⟩) 1 1 [.int .i64 (2 * e0), .int .i64 (2 * e1), .int .i64 (2 * e2)] (by rfl) PB0_3b1b0.out.reads (by simp [Value.oneCell']) (by simp only [maxLen]; omega) (by omega) (bw_size HB_3b1b0.out) ?_
        intro A3b1b0a0 c3b1b0a0 u3b1b0a0 hown hg hat
        have P_3b1b0a0 := Lib.hid (P_3b1b0.out.appO (t := ⟨2 * e0, 2 * e1, 2 * e2⟩) hown hg hat)
        have PX_3b1b0a0 := Lib.hid (PX_3b1b0.out.appO hg hat)
        have PY_3b1b0a0 := Lib.hid (PY_3b1b0.out.appO hg hat)
        have PZ_3b1b0a0 := Lib.hid (PZ_3b1b0.out.appO hg hat)
        have PB1_3b1b0a0 := Lib.hid (PB1_3b1b0.out.appO hg hat)
        have HB_3b1b0a0 := Lib.hid (bw_grow HB_3b1b0.out hg (fun x hx => (P_3b1b0.out.o.lt_ x hx).1))
        refine hK.out _ _ ?_ (fun hh => ?_)
        ·exact ⟨PX_3b1b0a0.out.b.cell 0, PX_3b1b0a0.out.b.cell 1, PX_3b1b0a0.out.b.cell 2, PY_3b1b0a0.out.b.cell 0, PY_3b1b0a0.out.b.cell 1, PY_3b1b0a0.out.b.cell 2, PZ_3b1b0a0.out.b.cell 0, PZ_3b1b0a0.out.b.cell 1, PZ_3b1b0a0.out.b.cell 2⟩
        clear hK K hown hg hat
        (try simp only [Act.put, setIfInBounds_toArray, set_cons_zero, set_cons_succ])
        refine Till.ready (rs := [7, 10]) (by kernel_rfl) (by simp) ?_
        refine TillEach.cons rfl (fun K hK => ?_) ?_
        ·refine step_append_sl _ (by rfl) (.tmp 68) (.tmp 70) _ (by rfl) V1.heap.size 36 i0 _ 3 24 Try.underlying34 hi0 hz0 hz1 hz2 rfl (by omega) (.slice Aq k cq) k (Q.flatMap Tri.cells) (by rfl) P_3b1b0a0.out.q.own (g1 + 1) (some ⟨g1, 0, none⟩) 1 1 [.int .i64 (2 * e0 + 2 * t0), .int .i64 (2 * e1 + 2 * t1), .int .i64 (2 * e2 + 2 * t2)] (by rfl) PB1_3b1b0a0.out.reads (by simp [Value.oneCell']) (by simp only [maxLen]; omega) (by omega) (bw_size HB_3b1b0a0.out) ?_
         intro A3b1b0a0a1 c3b1b0a0a1 u3b1b0a0a1 hown hg hat
         have P_3b1b0a0a1 := Lib.hid (P_3b1b0a0.out.appQ (t := ⟨2 * e0 + 2 * t0, 2 * e1 + 2 * t1, 2 * e2 + 2 * t2⟩) hown hg hat)
         have PX_3b1b0a0a1 := Lib.hid (PX_3b1b0a0.out.appQ hg hat)
         have PY_3b1b0a0a1 := Lib.hid (PY_3b1b0a0.out.appQ hg hat)
         have PZ_3b1b0a0a1 := Lib.hid (PZ_3b1b0a0.out.appQ hg hat)
         have HB_3b1b0a0a1 := Lib.hid (bw_grow HB_3b1b0a0.out hg (fun x hx => (P_3b1b0a0.out.q.lt_ x hx).1))
         refine hK.out _ _ ?_ (fun hh => ?_)
         ·exact ⟨PX_3b1b0a0a1.out.b.cell 0, PX_3b1b0a0a1.out.b.cell 1, PX_3b1b0a0a1.out.b.cell 2, PY_3b1b0a0a1.out.b.cell 0, PY_3b1b0a0a1.out.b.cell 1, PY_3b1b0a0a1.out.b.cell 2, PZ_3b1b0a0a1.out.b.cell 0, PZ_3b1b0a0a1.out.b.cell 1, PZ_3b1b0a0a1.out.b.cell 2⟩
         clear hK K hown hg hat
         (try simp only [Act.put, setIfInBounds_toArray, set_cons_zero, set_cons_succ])
         refine Till.ready (rs := [10]) (by kernel_rfl) (by simp) ?_
         refine TillEach.cons rfl (fun K hK => ?_) ?_
         ·go_simp
          obtain ⟨u3b1b0a0a1b2, hu⟩ : ∃ u, u = u3b1b0a0a1.alloc (.cells #[.int .i64 (-(2 * e0)), .int .i64 (-(2 * e1)), .int .i64 (-(2 * e2))] 36) := ⟨_, rfl⟩
          rw [← hu]
          have P_3b1b0a0a1b2 := Lib.hid (P_3b1b0a0a1.out.alloc (.cells #[.int .i64 (-(2 * e0)), .int .i64 (-(2 * e1)), .int .i64 (-(2 * e2))] 36))
          have PX_3b1b0a0a1b2 := Lib.hid (PX_3b1b0a0a1.out.alloc (.cells #[.int .i64 (-(2 * e0)), .int .i64 (-(2 * e1)), .int .i64 (-(2 * e2))] 36))
          have PY_3b1b0a0a1b2 := Lib.hid (PY_3b1b0a0a1.out.alloc (.cells #[.int .i64 (-(2 * e0)), .int .i64 (-(2 * e1)), .int .i64 (-(2 * e2))] 36))
          have PZ_3b1b0a0a1b2 := Lib.hid (PZ_3b1b0a0a1.out.alloc (.cells #[.int .i64 (-(2 * e0)), .int .i64 (-(2 * e1)), .int .i64 (-(2 * e2))] 36))
          have PB2_3b1b0a0a1b2 := Lib.hid (PB.new_ P_3b1b0a0a1.out ⟨-(2 * e0), -(2 * e1), -(2 * e2)⟩)
          have HB_3b1b0a0a1b2 : Hid (Below V1.heap.size V1 (u3b1b0a0a1.alloc (.cells #[.int .i64 (-(2 * e0)), .int .i64 (-(2 * e1)), .int .i64 (-(2 * e2))] 36))) := Lib.hid ((bw_alloc HB_3b1b0a0a1.out _))
          rw [← hu] at P_3b1b0a0a1b2 PX_3b1b0a0a1b2 PY_3b1b0a0a1b2 PZ_3b1b0a0a1b2 HB_3b1b0a0a1b2 PB2_3b1b0a0a1b2
          obtain ⟨g2, hg2⟩ : ∃ g, g = u3b1b0a0a1.heap.size := ⟨_, rfl⟩
          rw [← hg2] at PB2_3b1b0a0a1b2 ⊢
          refine hK.out _ _ ?_ (fun hh => ?_)
          ·exact ⟨PX_3b1b0a0a1b2.out.b.cell 0, PX_3b1b0a0a1b2.out.b.cell 1, PX_3b1b0a0a1b2.out.b.cell 2, PY_3b1b0a0a1b2.out.b.cell 0, PY_3b1b0a0a1b2.out.b.cell 1, PY_3b1b0a0a1b2.out.b.cell 2, PZ_3b1b0a0a1b2.out.b.cell 0, PZ_3b1b0a0a1b2.out.b.cell 1, PZ_3b1b0a0a1b2.out.b.cell 2⟩
          clear hK K hu hg2
          (try simp only [Act.put, setIfInBounds_toArray, set_cons_zero, set_cons_succ])
          refine Till.ready (rs := [11]) (by kernel_rfl) (by simp) ?_
          refine TillEach.cons rfl (fun K hK => ?_) ?_
          ·refine step_append_sl _ (by rfl) (.tmp 72) (.tmp 74) _ (by rfl) V1.heap.size 36 i0 _ 3 24 Try.underlying34 hi0 hz0 hz1 hz2 rfl (by omega) (.slice Am k cm) k (M.flatMap Tri.cells) (by rfl) P_3b1b0a0a1b2.out.m.own (g2 + 1) (some ⟨g2, 0, none⟩) 1 1 [.int .i64 (-(2 * e0)), .int .i64 (-(2 * e1)), .int .i64 (-(2 * e2))] (by rfl) PB2_3b1b0a0a1b2.out.reads (by simp [Value.oneCell']) (by simp only [maxLen]; omega) (by omega) (bw_size HB_3b1b0a0a1b2.out) ?_
           intro A3b1b0a0a1b2a2 c3b1b0a0a1b2a2 u3b1b0a0a1b2a2 hown hg hat
           have P_3b1b0a0a1b2a2 := Lib.hid (P_3b1b0a0a1b2.out.appM (t := ⟨-(2 * e0), -(2 * e1), -(2 * e2)⟩) hown hg hat)
           have PX_3b1b0a0a1b2a2 := Lib.hid (PX_3b1b0a0a1b2.out.appM hg hat)
           have PY_3b1b0a0a1b2a2 := Lib.hid (PY_3b1b0a0a1b2.out.appM hg hat)
           have PZ_3b1b0a0a1b2a2 := Lib.hid (PZ_3b1b0a0a1b2.out.appM hg hat)
           have HB_3b1b0a0a1b2a2 := Lib.hid (bw_grow HB_3b1b0a0a1b2.out hg (fun x hx => (P_3b1b0a0a1b2.out.m.lt_ x hx).1))
           refine hK.out _ _ ?_ (fun hh => ?_)
           ·exact ⟨PX_3b1b0a0a1b2a2.out.b.cell 0, PX_3b1b0a0a1b2a2.out.b.cell 1, PX_3b1b0a0a1b2a2.out.b.cell 2, PY_3b1b0a0a1b2a2.out.b.cell 0, PY_3b1b0a0a1b2a2.out.b.cell 1, PY_3b1b0a0a1b2a2.out.b.cell 2, PZ_3b1b0a0a1b2a2.out.b.cell 0, PZ_3b1b0a0a1b2a2.out.b.cell 1, PZ_3b1b0a0a1b2a2.out.b.cell 2⟩
           clear hK K hown hg hat
           (try simp only [Act.put, setIfInBounds_toArray, set_cons_zero, set_cons_succ])
           refine Till.ready (rs := [12]) (by kernel_rfl) (by simp) ?_
           refine TillEach.cons rfl (fun K hK => ?_) ?_
           ·go_simp
            refine hK.out _ _ ?_ (fun hh => ?_)
            ·exact ⟨PX_3b1b0a0a1b2a2.out.b.cell 0, PX_3b1b0a0a1b2a2.out.b.cell 1, PX_3b1b0a0a1b2a2.out.b.cell 2, PY_3b1b0a0a1b2a2.out.b.cell 0, PY_3b1b0a0a1b2a2.out.b.cell 1, PY_3b1b0a0a1b2a2.out.b.cell 2, PZ_3b1b0a0a1b2a2.out.b.cell 0, PZ_3b1b0a0a1b2a2.out.b.cell 1, PZ_3b1b0a0a1b2a2.out.b.cell 2⟩
            clear hK K
            (try simp only [Act.put, setIfInBounds_toArray, set_cons_zero, set_cons_succ])
            refine Till.ready (rs := [13]) (by kernel_rfl) (by simp) ?_
            refine TillEach.cons rfl (fun K hK => ?_) ?_
            ·go_simp
             refine hK.out _ _ ?_ (fun hh => ?_)
             ·exact ⟨PX_3b1b0a0a1b2a2.out.b.cell 0, PX_3b1b0a0a1b2a2.out.b.cell 1, PX_3b1b0a0a1b2a2.out.b.cell 2, PY_3b1b0a0a1b2a2.out.b.cell 0, PY_3b1b0a0a1b2a2.out.b.cell 1, PY_3b1b0a0a1b2a2.out.b.cell 2, PZ_3b1b0a0a1b2a2.out.b.cell 0, PZ_3b1b0a0a1b2a2.out.b.cell 1, PZ_3b1b0a0a1b2a2.out.b.cell 2⟩
             clear hK K
             (try simp only [Act.put, setIfInBounds_toArray, set_cons_zero, set_cons_succ])
             refine Till.ready (rs := [14]) (by kernel_rfl) (by simp) ?_
             refine TillEach.last rfl (fun K hK => ?_)
             ·go_simp
              refine hK.out _ _ ?_
              clear hK K
              (try simp only [Act.put, setIfInBounds_toArray, set_cons_zero, set_cons_succ])
              refine Till.done (by kernel_rfl) ?_ _
              go_wp2_with fail
              exact ⟨⟨k + 1, A3b1b0a0, c3b1b0a0, _, A3b1b0a0a1, c3b1b0a0a1, _, A3b1b0a0a1b2a2, c3b1b0a0a1b2a2, _, by omega, rfl, rfl, rfl, by go_num, P_3b1b0a0a1b2a2, MVn, HB_3b1b0a0a1b2a2⟩, by simp [intOf]; omega⟩
            exact TillEach.nil
           exact TillEach.nil
          exact TillEach.nil
         exact TillEach.nil
        refine TillEach.cons rfl (fun K hK => ?_) ?_
        ·go_simp
         obtain ⟨u3b1b0a0b2, hu⟩ : ∃ u, u = u3b1b0a0.alloc (.cells #[.int .i64 (-(2 * e0)), .int .i64 (-(2 * e1)), .int .i64 (-(2 * e2))] 36) := ⟨_, rfl⟩
         rw [← hu]
         have P_3b1b0a0b2 := Lib.hid (P_3b1b0a0.out.alloc (.cells #[.int .i64 (-(2 * e0)), .int .i64 (-(2 * e1)), .int .i64 (-(2 * e2))] 36))
         have PX_3b1b0a0b2 := Lib.hid (PX_3b1b0a0.out.alloc (.cells #[.int .i64 (-(2 * e0)), .int .i64 (-(2 * e1)), .int .i64 (-(2 * e2))] 36))
         have PY_3b1b0a0b2 := Lib.hid (PY_3b1b0a0.out.alloc (.cells #[.int .i64 (-(2 * e0)), .int .i64 (-(2 * e1)), .int .i64 (-(2 * e2))] 36))
         have PZ_3b1b0a0b2 := Lib.hid (PZ_3b1b0a0.out.alloc (.cells #[.int .i64 (-(2 * e0)), .int .i64 (-(2 * e1)), .int .i64 (-(2 * e2))] 36))
         have PB1_3b1b0a0b2 := Lib.hid (PB1_3b1b0a0.out.alloc (.cells #[.int .i64 (-(2 * e0)), .int .i64 (-(2 * e1)), .int .i64 (-(2 * e2))] 36))
         have PB2_3b1b0a0b2 := Lib.hid (PB.new_ P_3b1b0a0.out ⟨-(2 * e0), -(2 * e1), -(2 * e2)⟩)
         have HB_3b1b0a0b2 : Hid (Below V1.heap.size V1 (u3b1b0a0.alloc (.cells #[.int .i64 (-(2 * e0)), .int .i64 (-(2 * e1)), .int .i64 (-(2 * e2))] 36))) := Lib.hid ((bw_alloc HB_3b1b0a0.out _))
         rw [← hu] at P_3b1b0a0b2 PX_3b1b0a0b2 PY_3b1b0a0b2 PZ_3b1b0a0b2 HB_3b1b0a0b2 PB1_3b1b0a0b2 PB2_3b1b0a0b2
         obtain ⟨g2, hg2⟩ : ∃ g, g = u3b1b0a0.heap.size := ⟨_, rfl⟩
         rw [← hg2] at PB2_3b1b0a0b2 ⊢
         refine hK.out _ _ ?_ (fun hh => ?_)
         ·exact ⟨PX_3b1b0a0b2.out.b.cell 0, PX_3b1b0a0b2.out.b.cell 1, PX_3b1b0a0b2.out.b.cell 2, PY_3b1b0a0b2.out.b.cell 0, PY_3b1b0a0b2.out.b.cell 1, PY_3b1b0a0b2.out.b.cell 2, PZ_3b1b0a0b2.out.b.cell 0, PZ_3b1b0a0b2.out.b.cell 1, PZ_3b1b0a0b2.out.b.cell 2⟩
         clear hK K hu hg2
         (try simp only [Act.put, setIfInBounds_toArray, set_cons_zero, set_cons_succ])
         refine Till.ready (rs := [7]) (by kernel_rfl) (by simp) ?_
         refine TillEach.cons rfl (fun K hK => ?_) ?_
         ·refine step_append_sl _ (by rfl) (.tmp 68) (.tmp 70) _ (by rfl) V1.heap.size 36 i0 _ 3 24 Try.underlying34 hi0 hz0 hz1 hz2 rfl (by omega) (.slice Aq k cq) k (Q.flatMap Tri.cells) (by rfl) P_3b1b0a0b2.out.q.own (g1 + 1) (some ⟨g1, 0, none⟩) 1 1 [.int .i64 (2 * e0 + 2 * t0), .int .i64 (2 * e1 + 2 * t1), .int .i64 (2 * e2 + 2 * t2)] (by rfl) PB1_3b1b0a0b2.out.reads (by simp [Value.oneCell']) (by simp only [maxLen]; omega) (by omega) (bw_size HB_3b1b0a0b2.out) ?_
          intro A3b1b0a0b2a1 c3b1b0a0b2a1 u3b1b0a0b2a1 hown hg hat
          have P_3b1b0a0b2a1 := Lib.hid (P_3b1b0a0b2.out.appQ (t := ⟨2 * e0 + 2 * t0, 2 * e1 + 2 * t1, 2 * e2 + 2 * t2⟩) hown hg hat)
          have PX_3b1b0a0b2a1 := Lib.hid (PX_3b1b0a0b2.out.appQ hg hat)
          have PY_3b1b0a0b2a1 := Lib.hid (PY_3b1b0a0b2.out.appQ hg hat)
          have PZ_3b1b0a0b2a1 := Lib.hid (PZ_3b1b0a0b2.out.appQ hg hat)
          have PB2_3b1b0a0b2a1 := Lib.hid (PB2_3b1b0a0b2.out.appQ hg hat)
          have HB_3b1b0a0b2a1 := Lib.hid (bw_grow HB_3b1b0a0b2.out hg (fun x hx => (P_3b1b0a0b2.out.q.lt_ x hx).1))
          refine hK.out _ _ ?_ (fun hh => ?_)
          ·exact ⟨PX_3b1b0a0b2a1.out.b.cell 0, PX_3b1b0a0b2a1.out.b.cell 1, PX_3b1b0a0b2a1.out.b.cell 2, PY_3b1b0a0b2a1.out.b.cell 0, PY_3b1b0a0b2a1.out.b.cell 1, PY_3b1b0a0b2a1.out.b.cell 2, PZ_3b1b0a0b2a1.out.b.cell 0, PZ_3b1b0a0b2a1.out.b.cell 1, PZ_3b1b0a0b2a1.out.b.cell 2⟩
          clear hK K hown hg hat
          (try simp only [Act.put, setIfInBounds_toArray, set_cons_zero, set_cons_succ])
          refine Till.ready (rs := [11]) (by kernel_rfl) (by simp) ?_
          refine TillEach.cons rfl (fun K hK => ?_) ?_
          ·refine step_append_sl _ (by rfl) (.tmp 72) (.tmp 74) _ (by rfl) V1.heap.size 36 i0 _ 3 24 Try.underlying34 hi0 hz0 hz1 hz2 rfl (by omega) (.slice Am k cm) k (M.flatMap Tri.cells) (by rfl) P_3b1b0a0b2a1.out.m.own (g2 + 1) (some ⟨g2, 0, none⟩) 1 1 [.int .i64 (-(2 * e0)), .int .i64 (-(2 * e1)), .int .i64 (-(2 * e2))] (by rfl) PB2_3b1b0a0b2a1.out.reads (by simp [Value.oneCell']) (by simp only [maxLen]; omega) (by omega) (bw_size HB_3b1b0a0b2a1.out) ?_
           intro A3b1b0a0b2a1a2 c3b1b0a0b2a1a2 u3b1b0a0b2a1a2 hown hg hat
           have P_3b1b0a0b2a1a2 := Lib.hid (P_3b1b0a0b2a1.out.appM (t := ⟨-(2 * e0), -(2 * e1), -(2 * e2)⟩) hown hg hat)
           have PX_3b1b0a0b2a1a2 := Lib.hid (PX_3b1b0a0b2a1.out.appM hg hat)
           have PY_3b1b0a0b2a1a2 := Lib.hid (PY_3b1b0a0b2a1.out.appM hg hat)
           have PZ_3b1b0a0b2a1a2 := Lib.hid (PZ_3b1b0a0b2a1.out.appM hg hat)
           have HB_3b1b0a0b2a1a2 := Lib.hid (bw_grow HB_3b1b0a0b2a1.out hg (fun x hx => (P_3b1b0a0b2a1.out.m.lt_ x hx).1))
           refine hK.out _ _ ?_ (fun hh => ?_)
           ·exact ⟨PX_3b1b0a0b2a1a2.out.b.cell 0, PX_3b1b0a0b2a1a2.out.b.cell 1, PX_3b1b0a0b2a1a2.out.b.cell 2, PY_3b1b0a0b2a1a2.out.b.cell 0, PY_3b1b0a0b2a1a2.out.b.cell 1, PY_3b1b0a0b2a1a2.out.b.cell 2, PZ_3b1b0a0b2a1a2.out.b.cell 0, PZ_3b1b0a0b2a1a2.out.b.cell 1, PZ_3b1b0a0b2a1a2.out.b.cell 2⟩
           clear hK K hown hg hat
           (try simp only [Act.put, setIfInBounds_toArray, set_cons_zero, set_cons_succ])
           refine Till.ready (rs := [12]) (by kernel_rfl) (by simp) ?_
           refine TillEach.cons rfl (fun K hK => ?_) ?_
           ·go_simp
            refine hK.out _ _ ?_ (fun hh => ?_)
            ·exact ⟨PX_3b1b0a0b2a1a2.out.b.cell 0, PX_3b1b0a0b2a1a2.out.b.cell 1, PX_3b1b0a0b2a1a2.out.b.cell 2, PY_3b1b0a0b2a1a2.out.b.cell 0, PY_3b1b0a0b2a1a2.out.b.cell 1, PY_3b1b0a0b2a1a2.out.b.cell 2, PZ_3b1b0a0b2a1a2.out.b.cell 0, PZ_3b1b0a0b2a1a2.out.b.cell 1, PZ_3b1b0a0b2a1a2.out.b.cell 2⟩
            clear hK K
            (try simp only [Act.put, setIfInBounds_toArray, set_cons_zero, set_cons_succ])
            refine Till.ready (rs := [13]) (by kernel_rfl) (by simp) ?_
            refine TillEach.cons rfl (fun K hK => ?_) ?_
            ·go_simp
             refine hK.out _ _ ?_ (fun hh => ?_)
             ·exact ⟨PX_3b1b0a0b2a1a2.out.b.cell 0, PX_3b1b0a0b2a1a2.out.b.cell 1, PX_3b1b0a0b2a1a2.out.b.cell 2, PY_3b1b0a0b2a1a2.out.b.cell 0, PY_3b1b0a0b2a1a2.out.b.cell 1, PY_3b1b0a0b2a1a2.out.b.cell 2, PZ_3b1b0a0b2a1a2.out.b.cell 0, PZ_3b1b0a0b2a1a2.out.b.cell 1, PZ_3b1b0a0b2a1a2.out.b.cell 2⟩
             clear hK K
             (try simp only [Act.put, setIfInBounds_toArray, set_cons_zero, set_cons_succ])
             refine Till.ready (rs := [14]) (by kernel_rfl) (by simp) ?_
             refine TillEach.last rfl (fun K hK => ?_)
             ·go_simp
              refine hK.out _ _ ?_
              clear hK K
              (try simp only [Act.put, setIfInBounds_toArray, set_cons_zero, set_cons_succ])
              refine Till.done (by kernel_rfl) ?_ _
              go_wp2_with fail
              exact ⟨⟨k + 1, A3b1b0a0, c3b1b0a0, _, A3b1b0a0b2a1, c3b1b0a0b2a1, _, A3b1b0a0b2a1a2, c3b1b0a0b2a1a2, _, by omega, rfl, rfl, rfl, by go_num, P_3b1b0a0b2a1a2, MVn, HB_3b1b0a0b2a1a2⟩, by simp [intOf]; omega⟩
            exact TillEach.nil
           exact TillEach.nil
          exact TillEach.nil
         exact TillEach.nil
        exact TillEach.nil
       refine TillEach.cons rfl (fun K hK => ?_) ?_
       ·go_simp
        obtain ⟨u3b1b0b2, hu⟩ : ∃ u, u = u3b1b0.alloc (.cells #[.int .i64 (-(2 * e0)), .int .i64 (-(2 * e1)), .int .i64 (-(2 * e2))] 36) := ⟨_, rfl⟩
        rw [← hu]
        have P_3b1b0b2 := Lib.hid (P_3b1b0.out.alloc (.cells #[.int .i64 (-(2 * e0)), .int .i64 (-(2 * e1)), .int .i64 (-(2 * e2))] 36))
        have PX_3b1b0b2 := Lib.hid (PX_3b1b0.out.alloc (.cells #[.int .i64 (-(2 * e0)), .int .i64 (-(2 * e1)), .int .i64 (-(2 * e2))] 36))
        have PY_3b1b0b2 := Lib.hid (PY_3b1b0.out.alloc (.cells #[.int .i64 (-(2 * e0)), .int .i64 (-(2 * e1)), .int .i64 (-(2 * e2))] 36))
        have PZ_3b1b0b2 := Lib.hid (PZ_3b1b0.out.alloc (.cells #[.int .i64 (-(2 * e0)), .int .i64 (-(2 * e1)), .int .i64 (-(2 * e2))] 36))
        have PB0_3b1b0b2 := Lib.hid (PB0_3b1b0.out.alloc (.cells #[.int .i64 (-(2 * e0)), .int .i64 (-(2 * e1)), .int .i64 (-(2 * e2))] 36))
        have PB1_3b1b0b2 := Lib.hid (PB1_3b1b0.out.alloc (.cells #[.int .i64 (-(2 * e0)), .int .i64 (-(2 * e1)), .int .i64 (-(2 * e2))] 36))
        have PB2_3b1b0b2 := Lib.hid (PB.new_ P_3b1b0.out ⟨-(2 * e0), -(2 * e1), -(2 * e2)⟩)
        have HB_3b1b0b2 : Hid (Below V1.heap.size V1 (u3b1b0.alloc (.cells #[.int .i64 (-(2 * e0)), .int .i64 (-(2 * e1)), .int .i64 (-(2 * e2))] 36))) := Lib.hid ((bw_alloc HB_3b1b0.out _))
        rw [← hu] at P_3b1b0b2 PX_3b1b0b2 PY_3b1b0b2 PZ_3b1b0b2 HB_3b1b0b2 PB0_3b1b0b2 PB1_3b1b0b2 PB2_3b1b0b2
        obtain ⟨g2, hg2⟩ : ∃ g, g = u3b1b0.heap.size := ⟨_, rfl⟩
        rw [← hg2] at PB2_3b1b0b2 ⊢
        refine hK.out _ _ ?_ (fun hh => ?_)
        ·exact ⟨PX_3b1b0b2.out.b.cell 0, PX_3b1b0b2.out.b.cell 1, PX_3b1b0b2.out.b.cell 2, PY_3b1b0b2.out.b.cell 0, PY_3b1b0b2.out.b.cell 1, PY_3b1b0b2.out.b.cell 2, PZ_3b1b0b2.out.b.cell 0, PZ_3b1b0b2.out.b.cell 1, PZ_3b1b0b2.out.b.cell 2⟩
        clear hK K hu hg2
        (try simp only [Act.put, setIfInBounds_toArray, set_cons_zero, set_cons_succ])
        refine Till.ready (rs := [3]) (by kernel_rfl) (by simp) ?_
        refine TillEach.cons rfl (fun K hK => ?_) ?_
        ·refine step_append_sl _ (by rfl) (.tmp 64) (.tmp 66) _ (by rfl) V1.heap.size 36 i0 _ 3 24 Try.underlying34 hi0 hz0 hz1 hz2 rfl (by omega) (.slice Ao k co) k (O.flatMap Tri.cells) (by rfl) P_3b1b0b2.out.o.own (g0 + 1) (some ⟨g0, 0, none⟩) 1 1 [.int .i64 (2 * e0), .int .i64 (2 * e1), .int .i64 (2 * e2)] (by rfl) PB0_3b1b0b2.out.reads (by simp [Value.oneCell']) (by simp only [maxLen]; omega) (by omega) (bw_size HB_3b1b0b2.out) ?_
         intro A3b1b0b2a0 c3b1b0b2a0 u3b1b0b2a0 hown hg hat
         have P_3b1b0b2a0 := Lib.hid (P_3b1b0b2.out.appO (t := ⟨2 * e0, 2 * e1, 2 * e2⟩) hown hg hat)
         have PX_3b1b0b2a0 := Lib.hid (PX_3b1b0b2.out.appO hg hat)
         have PY_3b1b0b2a0 := Lib.hid (PY_3b1b0b2.out.appO hg hat)
         have PZ_3b1b0b2a0 := Lib.hid (PZ_3b1b0b2.out.appO hg hat)
         have PB1_3b1b0b2a0 := Lib.hid (PB1_3b1b0b2.out.appO hg hat)
         have PB2_3b1b0b2a0 := Lib.hid (PB2_3b1b0b2.out.appO hg hat)
         have HB_3b1b0b2a0 := Lib.hid (bw_grow HB_3b1b0b2.out hg (fun x hx => (P_3b1b0b2.out.o.lt_ x hx).1))
         refine hK.out _ _ ?_ (fun hh => ?_)
         ·exact ⟨PX_3b1b0b2a0.out.b.cell 0, PX_3b1b0b2a0.out.b.cell 1, PX_3b1b0b2a0.out.b.cell 2, PY_3b1b0b2a0.out.b.cell 0, PY_3b1b0b2a0.out.b.cell 1, PY_3b1b0b2a0.out.b.cell 2, PZ_3b1b0b2a0.out.b.cell 0, PZ_3b1b0b2a0.out.b.cell 1, PZ_3b1b0b2a0.out.b.cell 2⟩
         clear hK K hown hg hat
         (try simp only [Act.put, setIfInBounds_toArray, set_cons_zero, set_cons_succ])
         refine Till.ready (rs := [7]) (by kernel_rfl) (by simp) ?_
         refine TillEach.cons rfl (fun K hK => ?_) ?_
         ·refine step_append_sl _ (by rfl) (.tmp 68) (.tmp 70) _ (by rfl) V1.heap.size 36 i0 _ 3 24 Try.underlying34 hi0 hz0 hz1 hz2 rfl (by omega) (.slice Aq k cq) k (Q.flatMap Tri.cells) (by rfl) P_3b1b0b2a0.out.q.own (g1 + 1) (some ⟨g1, 0, none⟩) 1 1 [.int .i64 (2 * e0 + 2 * t0), .int .i64 (2 * e1 + 2 * t1), .int .i64 (2 * e2 + 2 * t2)] (by rfl) PB1_3b1b0b2a0.out.reads (by simp [Value.oneCell']) (by simp only [maxLen]; omega) (by omega) (bw_size HB_3b1b0b2a0.out) ?_
          intro A3b1b0b2a0a1 c3b1b0b2a0a1 u3b1b0b2a0a1 hown hg hat
          have P_3b1b0b2a0a1 := Lib.hid (P_3b1b0b2a0.out.appQ (t := ⟨2 * e0 + 2 * t0, 2 * e1 + 2 * t1, 2 * e2 + 2 * t2⟩) hown hg hat)
          have PX_3b1b0b2a0a1 := Lib.hid (PX_3b1b0b2a0.out.appQ hg hat)
          have PY_3b1b0b2a0a1 := Lib.hid (PY_3b1b0b2a0.out.appQ hg hat)
          have PZ_3b1b0b2a0a1 := Lib.hid (PZ_3b1b0b2a0.out.appQ hg hat)
          have PB2_3b1b0b2a0a1 := Lib.hid (PB2_3b1b0b2a0.out.appQ hg hat)
          have HB_3b1b0b2a0a1 := Lib.hid (bw_grow HB_3b1b0b2a0.out hg (fun x hx => (P_3b1b0b2a0.out.q.lt_ x hx).1))
          refine hK.out _ _ ?_ (fun hh => ?_)
          ·exact ⟨PX_3b1b0b2a0a1.out.b.cell 0, PX_3b1b0b2a0a1.out.b.cell 1, PX_3b1b0b2a0a1.out.b.cell 2, PY_3b1b0b2a0a1.out.b.cell 0, PY_3b1b0b2a0a1.out.b.cell 1, PY_3b1b0b2a0a1.out.b.cell 2, PZ_3b1b0b2a0a1.out.b.cell 0, PZ_3b1b0b2a0a1.out.b.cell 1, PZ_3b1b0b2a0a1.out.b.cell 2⟩
          clear hK K hown hg hat
          (try simp only [Act.put, setIfInBounds_toArray, set_cons_zero, set_cons_succ])
          refine Till.ready (rs := [11]) (by kernel_rfl) (by simp) ?_
          refine TillEach.cons rfl (fun K hK => ?_) ?_
          ·refine step_append_sl _ (by rfl) (.tmp 72) (.tmp 74) _ (by rfl) V1.heap.size 36 i0 _ 3 24 Try.underlying34 hi0 hz0 hz1 hz2 rfl (by omega) (.slice Am k cm) k (M.flatMap Tri.cells) (by rfl) P_3b1b0b2a0a1.out.m.own (g2 + 1) (some ⟨g2, 0, none⟩) 1 1 [.int .i64 (-(2 * e0)), .int .i64 (-(2 * e1)), .int .i64 (-(2 * e2))] (by rfl) PB2_3b1b0b2a0a1.out.reads (by simp [Value.oneCell']) (by simp only [maxLen]; omega) (by omega) (bw_size HB_3b1b0b2a0a1.out) ?_
           intro A3b1b0b2a0a1a2 c3b1b0b2a0a1a2 u3b1b0b2a0a1a2 hown hg hat
           have P_3b1b0b2a0a1a2 := Lib.hid (P_3b1b0b2a0a1.out.appM (t := ⟨-(2 * e0), -(2 * e1), -(2 * e2)⟩) hown hg hat)
           have PX_3b1b0b2a0a1a2 := Lib.hid (PX_3b1b0b2a0a1.out.appM hg hat)
           have PY_3b1b0b2a0a1a2 := Lib.hid (PY_3b1b0b2a0a1.out.appM hg hat)
           have PZ_3b1b0b2a0a1a2 := Lib.hid (PZ_3b1b0b2a0a1.out.appM hg hat)
           have HB_3b1b0b2a0a1a2 := Lib.hid (bw_grow HB_3b1b0b2a0a1.out hg (fun x hx => (P_3b1b0b2a0a1.out.m.lt_ x hx).1))
           refine hK.out _ _ ?_ (fun hh => ?_)
           ·exact ⟨PX_3b1b0b2a0a1a2.out.b.cell 0, PX_3b1b0b2a0a1a2.out.b.cell 1, PX_3b1b0b2a0a1a2.out.b.cell 2, PY_3b1b0b2a0a1a2.out.b.cell 0, PY_3b1b0b2a0a1a2.out.b.cell 1, PY_3b1b0b2a0a1a2.out.b.cell 2, PZ_3b1b0b2a0a1a2.out.b.cell 0, PZ_3b1b0b2a0a1a2.out.b.cell 1, PZ_3b1b0b2a0a1a2.out.b.cell 2⟩
           clear hK K hown hg hat
           (try simp only [Act.put, setIfInBounds_toArray, set_cons_zero, set_cons_succ])
           refine Till.ready (rs := [12]) (by kernel_rfl) (by simp) ?_
           refine TillEach.cons rfl (fun K hK => ?_) ?_
           ·go_simp
            refine hK.out _ _ ?_ (fun hh => ?_)
            ·exact ⟨PX_3b1b0b2a0a1a2.out.b.cell 0, PX_3b1b0b2a0a1a2.out.b.cell 1, PX_3b1b0b2a0a1a2.out.b.cell 2, PY_3b1b0b2a0a1a2.out.b.cell 0, PY_3b1b0b2a0a1a2.out.b.cell 1, PY_3b1b0b2a0a1a2.out.b.cell 2, PZ_3b1b0b2a0a1a2.out.b.cell 0, PZ_3b1b0b2a0a1a2.out.b.cell 1, PZ_3b1b0b2a0a1a2.out.b.cell 2⟩
            clear hK K
            (try simp only [Act.put, setIfInBounds_toArray, set_cons_zero, set_cons_succ])
            refine Till.ready (rs := [13]) (by kernel_rfl) (by simp) ?_
            refine TillEach.cons rfl (fun K hK => ?_) ?_
            ·go_simp
             refine hK.out _ _ ?_ (fun hh => ?_)
             ·exact ⟨PX_3b1b0b2a0a1a2.out.b.cell 0, PX_3b1b0b2a0a1a2.out.b.cell 1, PX_3b1b0b2a0a1a2.out.b.cell 2, PY_3b1b0b2a0a1a2.out.b.cell 0, PY_3b1b0b2a0a1a2.out.b.cell 1, PY_3b1b0b2a0a1a2.out.b.cell 2, PZ_3b1b0b2a0a1a2.out.b.cell 0, PZ_3b1b0b2a0a1a2.out.b.cell 1, PZ_3b1b0b2a0a1a2.out.b.cell 2⟩
             clear hK K
             (try simp only [Act.put, setIfInBounds_toArray, set_cons_zero, set_cons_succ])
             refine Till.ready (rs := [14]) (by kernel_rfl) (by simp) ?_
             refine TillEach.last rfl (fun K hK => ?_)
             ·go_simp
              refine hK.out _ _ ?_
              clear hK K
              (try simp only [Act.put, setIfInBounds_toArray, set_cons_zero, set_cons_succ])
              refine Till.done (by kernel_rfl) ?_ _
              go_wp2_with fail
              exact ⟨⟨k + 1, A3b1b0b2a0, c3b1b0b2a0, _, A3b1b0b2a0a1, c3b1b0b2a0a1, _, A3b1b0b2a0a1a2, c3b1b0b2a0a1a2, _, by omega, rfl, rfl, rfl, by go_num, P_3b1b0b2a0a1a2, MVn, HB_3b1b0b2a0a1a2⟩, by simp [intOf]; omega⟩
            exact TillEach.nil
           exact TillEach.nil
          exact TillEach.nil
         exact TillEach.nil
        exact TillEach.nil
       exact TillEach.nil
      refine TillEach.cons rfl (fun K hK => ?_) ?_
      ·go_simp
       obtain ⟨u3b1b2, hu⟩ : ∃ u, u = u3b1.alloc (.cells #[.int .i64 (-(2 * e0)), .int .i64 (-(2 * e1)), .int .i64 (-(2 * e2))] 36) := ⟨_, rfl⟩
       rw [← hu]
       have P_3b1b2 := Lib.hid (P_3b1.out.alloc (.cells #[.int .i64 (-(2 * e0)), .int .i64 (-(2 * e1)), .int .i64 (-(2 * e2))] 36))
       have PX_3b1b2 := Lib.hid (PX_3b1.out.alloc (.cells #[.int .i64 (-(2 * e0)), .int .i64 (-(2 * e1)), .int .i64 (-(2 * e2))] 36))
       have PY_3b1b2 := Lib.hid (PY_3b1.out.alloc (.cells #[.int .i64 (-(2 * e0)), .int .i64 (-(2 * e1)), .int .i64 (-(2 * e2))] 36))
       have PZ_3b1b2 := Lib.hid (PZ_3b1.out.alloc (.cells #[.int .i64 (-(2 * e0)), .int .i64 (-(2 * e1)), .int .i64 (-(2 * e2))] 36))
       have PB1_3b1b2 := Lib.hid (PB1_3b1.out.alloc (.cells #[.int .i64 (-(2 * e0)), .int .i64 (-(2 * e1)), .int .i64 (-(2 * e2))] 36))
       have PB2_3b1b2 := Lib.hid (PB.new_ P_3b1.out ⟨-(2 * e0), -(2 * e1), -(2 * e2)⟩)
       have HB_3b1b2 : Hid (Below V1.heap.size V1 (u3b1.alloc (.cells #[.int .i64 (-(2 * e0)), .int .i64 (-(2 * e1)), .int .i64 (-(2 * e2))] 36))) := Lib.hid ((bw_alloc HB_3b1.out _))
       rw [← hu] at P_3b1b2 PX_3b1b2 PY_3b1b2 PZ_3b1b2 HB_3b1b2 PB1_3b1b2 PB2_3b1b2
       obtain ⟨g2, hg2⟩ : ∃ g, g = u3b1.heap.size := ⟨_, rfl⟩
       rw [← hg2] at PB2_3b1b2 ⊢
       refine hK.out _ _ ?_ (fun hh => ?_)
       ·exact ⟨PX_3b1b2.out.b.cell 0, PX_3b1b2.out.b.cell 1, PX_3b1b2.out.b.cell 2, PY_3b1b2.out.b.cell 0, PY_3b1b2.out.b.cell 1, PY_3b1b2.out.b.cell 2, PZ_3b1b2.out.b.cell 0, PZ_3b1b2.out.b.cell 1, PZ_3b1b2.out.b.cell 2⟩
       clear hK K hu hg2
       (try simp only [Act.put, setIfInBounds_toArray, set_cons_zero, set_cons_succ])
       refine Till.ready (rs := [2]) (by kernel_rfl) (by simp) ?_
       refine TillEach.cons rfl (fun K hK => ?_) ?_
       ·go_simp
        obtain ⟨u3b1b2b0, hu⟩ : ∃ u, u = u3b1b2.alloc (.cells #[.int .i64 (2 * e0), .int .i64 (2 * e1), .int .i64 (2 * e2)] 36) := ⟨_, rfl⟩
        rw [← hu]
        have P_3b1b2b0 := Lib.hid (P_3b1b2.out.alloc (.cells #[.int .i64 (2 * e0), .int .i64 (2 * e1), .int .i64 (2 * e2)] 36))
        have PX_3b1b2b0 := Lib.hid (PX_3b1b2.out.alloc (.cells #[.int .i64 (2 * e0), .int .i64 (2 * e1), .int .i64 (2 * e2)] 36))
        have PY_3b1b2b0 := Lib.hid (PY_3b1b2.out.alloc (.cells #[.int .i64 (2 * e0), .int .i64 (2 * e1), .int .i64 (2 * e2)] 36))
        have PZ_3b1b2b0 := Lib.hid (PZ_3b1b2.out.alloc (.cells #[.int .i64 (2 * e0), .int .i64 (2 * e1), .int .i64 (2 * e2)] 36))
        have PB1_3b1b2b0 := Lib.hid (PB1_3b1b2.out.alloc (.cells #[.int .i64 (2 * e0), .int .i64 (2 * e1), .int .i64 (2 * e2)] 36))
        have PB2_3b1b2b0 := Lib.hid (PB2_3b1b2.out.alloc (.cells #[.int .i64 (2 * e0), .int .i64 (2 * e1), .int .i64 (2 * e2)] 36))
        have PB0_3b1b2b0 := Lib.hid (PB.new_ P_3b1b2.out ⟨2 * e0, 2 * e1, 2 * e2⟩)
        have HB_3b1b2b0 : Hid (Below V1.heap.size V1 (u3b1b2.alloc (.cells #[.int .i64 (2 * e0), .int .i64 (2 * e1), .int .i64 (2 * e2)] 36))) := Lib.hid ((bw_alloc HB_3b1b2.out _))
        rw [← hu] at P_3b1b2b0 PX_3b1b2b0 PY_3b1b2b0 PZ_3b1b2b0 HB_3b1b2b0 PB0_3b1b2b0 PB1_3b1b2b0 PB2_3b1b2b0
        obtain ⟨g0, hg0⟩ : ∃ g, g = u3b1b2.heap.size := ⟨_, rfl⟩
        rw [← hg0] at PB0_3b1b2b0 ⊢
        refine hK.out _ _ ?_ (fun hh => ?_)
        ·exact ⟨PX_3b1b2b0.out.b.cell 0, PX_3b1b2b0.out.b.cell 1, PX_3b1b2b0.out.b.cell 2, PY_3b1b2b0.out.b.cell 0, PY_3b1b2b0.out.b.cell 1, PY_3b1b2b0.out.b.cell 2, PZ_3b1b2b0.out.b.cell 0, PZ_3b1b2b0.out.b.cell 1, PZ_3b1b2b0.out.b.cell 2⟩
        clear hK K hu hg0
        (try simp only [Act.put, setIfInBounds_toArray, set_cons_zero, set_cons_succ])
        refine Till.ready (rs := [3]) (by kernel_rfl) (by simp) ?_
        refine TillEach.cons rfl (fun K hK => ?_) ?_
        ·refine step_append_sl _ (by rfl) (.tmp 64) (.tmp 66) _ (by rfl) V1.heap.size 36 i0 _ 3 24 Try.underlying34 hi0 hz0 hz1 hz2 rfl (by omega) (.slice Ao k co) k (O.flatMap Tri.cells) (by rfl) P_3b1b2b0.out.o.own (g0 + 1) (some ⟨g0, 0, none⟩) 1 1 [.int .i64 (2 * e0), .int .i64 (2 * e1), .int .i64 (2 * e2)] (by rfl) PB0_3b1b2b0.out.reads (by simp [Value.oneCell']) (by simp only [maxLen]; omega) (by omega) (bw_size HB_3b1b2b0.out) ?_
         intro A3b1b2b0a0 c3b1b2b0a0 u3b1b2b0a0 hown hg hat
         have P_3b1b2b0a0 := Lib.hid (P_3b1b2b0.out.appO (t := ⟨2 * e0, 2 * e1, 2 * e2⟩) hown hg hat)
         have PX_3b1b2b0a0 := Lib.hid (PX_3b1b2b0.out.appO hg hat)
         have PY_3b1b2b0a0 := Lib.hid (PY_3b1b2b0.out.appO hg hat)
         have PZ_3b1b2b0a0 := Lib.hid (PZ_3b1b2b0.out.appO hg hat)
         have PB1_3b1b2b0a0 := Lib.hid (PB1_3b1b2b0.out.appO hg hat)
         have PB2_3b1b2b0a0 := Lib.hid (PB2_3b1b2b0.out.appO hg hat)
         have HB_3b1b2b0a0 := Lib.hid (bw_grow HB_3b1b2b0.out hg (fun x hx => (P_3b1b2b0.out.o.lt_ x hx).1))
         refine hK.out _ _ ?_ (fun hh => ?_)
         ·exact ⟨PX_3b1b2b0a0.out.b.cell 0, PX_3b1b2b0a0.out.b.cell 1, PX_3b1b2b0a0.out.b.cell 2, PY_3b1b2b0a0.out.b.cell 0, PY_3b1b2b0a0.out.b.cell 1, PY_3b1b2b0a0.out.b.cell 2, PZ_3b1b2b0a0.out.b.cell 0, PZ_3b1b2b0a0.out.b.cell 1, PZ_3b1b2b0a0.out.b.cell 2⟩
         clear hK K hown hg hat
         (try simp only [Act.put, setIfInBounds_toArray, set_cons_zero, set_cons_succ])
         refine Till.ready (rs := [7]) (by kernel_rfl) (by simp) ?_
         refine TillEach.cons rfl (fun K hK => ?_) ?_
         ·refine step_append_sl _ (by rfl) (.tmp 68) (.tmp 70) _ (by rfl) V1.heap.size 36 i0 _ 3 24 Try.underlying34 hi0 hz0 hz1 hz2 rfl (by omega) (.slice Aq k cq) k (Q.flatMap Tri.cells) (by rfl) P_3b1b2b0a0.out.q.own (g1 + 1) (some ⟨g1, 0, none⟩) 1 1 [.int .i64 (2 * e0 + 2 * t0), .int .i64 (2 * e1 + 2 * t1), .int .i64 (2 * e2 + 2 * t2)] (by rfl) PB1_3b1b2b0a0.out.reads (by simp [Value.oneCell']) (by simp only [maxLen]; omega) (by omega) (bw_size HB_3b1b2b0a0.out) ?_
          intro A3b1b2b0a0a1 c3b1b2b0a0a1 u3b1b2b0a0a1 hown hg hat
          have P_3b1b2b0a0a1 := Lib.hid (P_3b1b2b0a0.out.appQ (t := ⟨2 * e0 + 2 * t0, 2 * e1 + 2 * t1, 2 * e2 + 2 * t2⟩) hown hg hat)
          have PX_3b1b2b0a0a1 := Lib.hid (PX_3b1b2b0a0.out.appQ hg hat)
          have PY_3b1b2b0a0a1 := Lib.hid (PY_3b1b2b0a0.out.appQ hg hat)
          have PZ_3b1b2b0a0a1 := Lib.hid (PZ_3b1b2b0a0.out.appQ hg hat)
          have PB2_3b1b2b0a0a1 := Lib.hid (PB2_3b1b2b0a0.out.appQ hg hat)
          have HB_3b1b2b0a0a1 := Lib.hid (bw_grow HB_3b1b2b0a0.out hg (fun x hx => (P_3b1b2b0a0.out.q.lt_ x hx).1))
          refine hK.out _ _ ?_ (fun hh => ?_)
          ·exact ⟨PX_3b1b2b0a0a1.out.b.cell 0, PX_3b1b2b0a0a1.out.b.cell 1, PX_3b1b2b0a0a1.out.b.cell 2, PY_3b1b2b0a0a1.out.b.cell 0, PY_3b1b2b0a0a1.out.b.cell 1, PY_3b1b2b0a0a1.out.b.cell 2, PZ_3b1b2b0a0a1.out.b.cell 0, PZ_3b1b2b0a0a1.out.b.cell 1, PZ_3b1b2b0a0a1.out.b.cell 2⟩
          clear hK K hown hg hat
          (try simp only [Act.put, setIfInBounds_toArray, set_cons_zero, set_cons_succ])
          refine Till.ready (rs := [11]) (by kernel_rfl) (by simp) ?_
          refine TillEach.cons rfl (fun K hK => ?_) ?_
          ·refine step_append_sl _ (by rfl) (.tmp 72) (.tmp 74) _ (by rfl) V1.heap.size 36 i0 _ 3 24 Try.underlying34 hi0 hz0 hz1 hz2 rfl (by omega) (.slice Am k cm) k (M.flatMap Tri.cells) (by rfl) P_3b1b2b0a0a1.out.m.own (g2 + 1) (some ⟨g2, 0, none⟩) 1 1 [.int .i64 (-(2 * e0)), .int .i64 (-(2 * e1)), .int .i64 (-(2 * e2))] (by rfl) PB2_3b1b2b0a0a1.out.reads (by simp [Value.oneCell']) (by simp only [maxLen]; omega) (by omega) (bw_size HB_3b1b2b0a0a1.out) ?_
           intro A3b1b2b0a0a1a2 c3b1b2b0a0a1a2 u3b1b2b0a0a1a2 hown hg hat
           have P_3b1b2b0a0a1a2 := Lib.hid (P_3b1b2b0a0a1.out.appM (t := ⟨-(2 * e0), -(2 * e1), -(2 * e2)⟩) hown hg hat)
           have PX_3b1b2b0a0a1a2 := Lib.hid (PX_3b1b2b0a0a1.out.appM hg hat)
           have PY_3b1b2b0a0a1a2 := Lib.hid (PY_3b1b2b0a0a1.out.appM hg hat)
           have PZ_3b1b2b0a0a1a2 := Lib.hid (PZ_3b1b2b0a0a1.out.appM hg hat)
           have HB_3b1b2b0a0a1a2 := Lib.hid (bw_grow HB_3b1b2b0a0a1.out hg (fun x hx => (P_3b1b2b0a0a1.out.m.lt_ x hx).1))
           refine hK.out _ _ ?_ (fun hh => ?_)
           ·exact ⟨PX_3b1b2b0a0a1a2.out.b.cell 0, PX_3b1b2b0a0a1a2.out.b.cell 1, PX_3b1b2b0a0a1a2.out.b.cell 2, PY_3b1b2b0a0a1a2.out.b.cell 0, PY_3b1b2b0a0a1a2.out.b.cell 1, PY_3b1b2b0a0a1a2.out.b.cell 2, PZ_3b1b2b0a0a1a2.out.b.cell 0, PZ_3b1b2b0a0a1a2.out.b.cell 1, PZ_3b1b2b0a0a1a2.out.b.cell 2⟩
           clear hK K hown hg hat
           (try simp only [Act.put, setIfInBounds_toArray, set_cons_zero, set_cons_succ])
           refine Till.ready (rs := [12]) (by kernel_rfl) (by simp) ?_
           refine TillEach.cons rfl (fun K hK => ?_) ?_
           ·go_simp
            refine hK.out _ _ ?_ (fun hh => ?_)
            ·exact ⟨PX_3b1b2b0a0a1a2.out.b.cell 0, PX_3b1b2b0a0a1a2.out.b.cell 1, PX_3b1b2b0a0a1a2.out.b.cell 2, PY_3b1b2b0a0a1a2.out.b.cell 0, PY_3b1b2b0a0a1a2.out.b.cell 1, PY_3b1b2b0a0a1a2.out.b.cell 2, PZ_3b1b2b0a0a1a2.out.b.cell 0, PZ_3b1b2b0a0a1a2.out.b.cell 1, PZ_3b1b2b0a0a1a2.out.b.cell 2⟩
            clear hK K
            (try simp only [Act.put, setIfInBounds_toArray, set_cons_zero, set_cons_succ])
            refine Till.ready (rs := [13]) (by kernel_rfl) (by simp) ?_
            refine TillEach.cons rfl (fun K hK => ?_) ?_
            ·go_simp
             refine hK.out _ _ ?_ (fun hh => ?_)
             ·exact ⟨PX_3b1b2b0a0a1a2.out.b.cell 0, PX_3b1b2b0a0a1a2.out.b.cell 1, PX_3b1b2b0a0a1a2.out.b.cell 2, PY_3b1b2b0a0a1a2.out.b.cell 0, PY_3b1b2b0a0a1a2.out.b.cell 1, PY_3b1b2b0a0a1a2.out.b.cell 2, PZ_3b1b2b0a0a1a2.out.b.cell 0, PZ_3b1b2b0a0a1a2.out.b.cell 1, PZ_3b1b2b0a0a1a2.out.b.cell 2⟩
             clear hK K
             (try simp only [Act.put, setIfInBounds_toArray, set_cons_zero, set_cons_succ])
             refine Till.ready (rs := [14]) (by kernel_rfl) (by simp) ?_
             refine TillEach.last rfl (fun K hK => ?_)
             ·go_simp
              refine hK.out _ _ ?_
              clear hK K
              (try simp only [Act.put, setIfInBounds_toArray, set_cons_zero, set_cons_succ])
              refine Till.done (by kernel_rfl) ?_ _
              go_wp2_with fail
              exact ⟨⟨k + 1, A3b1b2b0a0, c3b1b2b0a0, _, A3b1b2b0a0a1, c3b1b2b0a0a1, _, A3b1b2b0a0a1a2, c3b1b2b0a0a1a2, _, by omega, rfl, rfl, rfl, by go_num, P_3b1b2b0a0a1a2, MVn, HB_3b1b2b0a0a1a2⟩, by simp [intOf]; omega⟩
            exact TillEach.nil
           exact TillEach.nil
          exact TillEach.nil
         exact TillEach.nil
        exact TillEach.nil
       exact TillEach.nil
      exact TillEach.nil
     refine TillEach.cons rfl (fun K hK => ?_) ?_
     ·go_simp
      obtain ⟨u3b2, hu⟩ : ∃ u, u = (r3.alloc (.cells #[.int .i64 (-(2 * e0)), .int .i64 (-(2 * e1)), .int .i64 (-(2 * e2))] 36)).drew := ⟨_, rfl⟩
      rw [← hu]
      have HBd := Lib.hid (bw_drew HB_3.out)
      have P_3b2 := Lib.hid ((P_3.out.alloc (.cells #[.int .i64 (-(2 * e0)), .int .i64 (-(2 * e1)), .int .i64 (-(2 * e2))] 36)).drew)
      have PX_3b2 := Lib.hid ((PX_3.out.alloc (.cells #[.int .i64 (-(2 * e0)), .int .i64 (-(2 * e1)), .int .i64 (-(2 * e2))] 36)).drew)
      have PY_3b2 := Lib.hid ((PY_3.out.alloc (.cells #[.int .i64 (-(2 * e0)), .int .i64 (-(2 * e1)), .int .i64 (-(2 * e2))] 36)).drew)
      have PZ_3b2 := Lib.hid ((PZ_3.out.alloc (.cells #[.int .i64 (-(2 * e0)), .int .i64 (-(2 * e1)), .int .i64 (-(2 * e2))] 36)).drew)
      have PB2_3b2 := Lib.hid ((PB.new_ P_3.out ⟨-(2 * e0), -(2 * e1), -(2 * e2)⟩).drew)
      have HB_3b2 : Hid (Below V1.heap.size V1 ((r3.alloc (.cells #[.int .i64 (-(2 * e0)), .int .i64 (-(2 * e1)), .int .i64 (-(2 * e2))] 36)).drew)) := Lib.hid (bw_drew (bw_alloc HB_3.out _))
      rw [← hu] at P_3b2 PX_3b2 PY_3b2 PZ_3b2 HB_3b2 PB2_3b2
      obtain ⟨g2, hg2⟩ : ∃ g, g = r3.heap.size := ⟨_, rfl⟩
      rw [← hg2] at PB2_3b2 ⊢
      refine hK.out _ _ ?_ (fun hh => ?_)
      ·exact ⟨PX_3b2.out.b.cell 0, PX_3b2.out.b.cell 1, PX_3b2.out.b.cell 2, PY_3b2.out.b.cell 0, PY_3b2.out.b.cell 1, PY_3b2.out.b.cell 2, PZ_3b2.out.b.cell 0, PZ_3b2.out.b.cell 1, PZ_3b2.out.b.cell 2⟩
      clear hK K hu hg2 HBd
      (try simp only [Act.put, setIfInBounds_toArray, set_cons_zero, set_cons_succ])
      refine Till.ready (rs := [2, 6]) (by kernel_rfl) (by simp) ?_
      refine TillEach.cons rfl (fun K hK => ?_) ?_
      ·go_simp
       obtain ⟨u3b2b0, hu⟩ : ∃ u, u = u3b2.alloc (.cells #[.int .i64 (2 * e0), .int .i64 (2 * e1), .int .i64 (2 * e2)] 36) := ⟨_, rfl⟩
       rw [← hu]
       have P_3b2b0 := Lib.hid (P_3b2.out.alloc (.cells #[.int .i64 (2 * e0), .int .i64 (2 * e1), .int .i64 (2 * e2)] 36))
       have PX_3b2b0 := Lib.hid (PX_3b2.out.alloc (.cells #[.int .i64 (2 * e0), .int .i64 (2 * e1), .int .i64 (2 * e2)] 36))
       have PY_3b2b0 := Lib.hid (PY_3b2.out.alloc (.cells #[.int .i64 (2 * e0), .int .i64 (2 * e1), .int .i64 (2 * e2)] 36))
       have PZ_3b2b0 := Lib.hid (PZ_3b2.out.alloc (.cells #[.int .i64 (2 * e0), .int .i64 (2 * e1), .int .i64 (2 * e2)] 36))
       have PB2_3b2b0 := Lib.hid (PB2_3b2.out.alloc (.cells #[.int .i64 (2 * e0), .int .i64 (2 * e1), .int .i64 (2 * e2)] 36))
       have PB0_3b2b0 := Lib.hid (PB.new_ P_3b2.out ⟨2 * e0, 2 * e1, 2 * e2⟩)
       have HB_3b2b0 : Hid (Below V1.heap.size V1 (u3b2.alloc (.cells #[.int .i64 (2 * e0), .int .i64 (2 * e1), .int .i64 (2 * e2)] 36))) := Lib.hid ((bw_alloc HB_3b2.out _))
       rw [← hu] at P_3b2b0 PX_3b2b0 PY_3b2b0 PZ_3b2b0 HB_3b2b0 PB0_3b2b0 PB2_3b2b0
       obtain ⟨g0, hg0⟩ : ∃ g, g = u3b2.heap.size := ⟨_, rfl⟩
       rw [← hg0] at PB0_3b2b0 ⊢
       refine hK.out _ _ ?_ (fun hh => ?_)
       ·exact ⟨PX_3b2b0.out.b.cell 0, PX_3b2b0.out.b.cell 1, PX_3b2b0.out.b.cell 2, PY_3b2b0.out.b.cell 0, PY_3b2b0.out.b.cell 1, PY_3b2b0.out.b.cell 2, PZ_3b2b0.out.b.cell 0, PZ_3b2b0.out.b.cell 1, PZ_3b2b0.out.b.cell 2⟩
       clear hK K hu hg0
       (try simp only [Act.put, setIfInBounds_toArray, set_cons_zero, set_cons_succ])
       refine Till.ready (rs := [3, 6]) (by kernel_rfl) (by simp) ?_
       refine TillEach.cons rfl (fun K hK => ?_) ?_
       ·refine step_append_sl _ (by rfl) (.tmp 64) (.tmp 66) _ (by rfl) V1.heap.size 36 i0 _ 3 24 Try.underlying34 hi0 hz0 hz1 hz2 rfl (by omega) (.slice Ao k co) k (O.flatMap Tri.cells) (by rfl) P_3b2b0.out.o.own (g0 + 1) (some ⟨g0, 0, none⟩) 1 1 [.int .i64 (2 * e0), .int .i64 (2 * e1), .int .i64 (2 * e2)] (by rfl) PB0_3b2b0.out.reads (by simp [Value.oneCell']) (by simp only [maxLen]; omega) (by omega) (bw_size HB_3b2b0.out) ?_
        intro A3b2b0a0 c3b2b0a0 u3b2b0a0 hown hg hat
        have P_3b2b0a0 := Lib.hid (P_3b2b0.out.appO (t := ⟨2 * e0, 2 * e1, 2 * e2⟩) hown hg hat)
        have PX_3b2b0a0 := Lib.hid (PX_3b2b0.out.appO hg hat)
        have PY_3b2b0a0 := Lib.hid (PY_3b2b0.out.appO hg hat)
        have PZ_3b2b0a0 := Lib.hid (PZ_3b2b0.out.appO hg hat)
        have PB2_3b2b0a0 := Lib.hid (PB2_3b2b0.out.appO hg hat)
        have HB_3b2b0a0 := Lib.hid (bw_grow HB_3b2b0.out hg (fun x hx => (P_3b2b0.out.o.lt_ x hx).1))
        refine hK.out _ _ ?_ (fun hh => ?_)
        ·exact ⟨PX_3b2b0a0.out.b.cell 0, PX_3b2b0a0.out.b.cell 1, PX_3b2b0a0.out.b.cell 2, PY_3b2b0a0.out.b.cell 0, PY_3b2b0a0.out.b.cell 1, PY_3b2b0a0.out.b.cell 2, PZ_3b2b0a0.out.b.cell 0, PZ_3b2b0a0.out.b.cell 1, PZ_3b2b0a0.out.b.cell 2⟩
        clear hK K hown hg hat
        (try simp only [Act.put, setIfInBounds_toArray, set_cons_zero, set_cons_succ])
        refine Till.ready (rs := [6]) (by kernel_rfl) (by simp) ?_
        refine TillEach.cons rfl (fun K hK => ?_) ?_
        ·go_simp
         obtain ⟨u3b2b0a0b1, hu⟩ : ∃ u, u = u3b2b0a0.alloc (.cells #[.int .i64 (2 * e0 + 2 * t0), .int .i64 (2 * e1 + 2 * t1), .int .i64 (2 * e2 + 2 * t2)] 36) := ⟨_, rfl⟩
         rw [← hu]
         have P_3b2b0a0b1 := Lib.hid (P_3b2b0a0.out.alloc (.cells #[.int .i64 (2 * e0 + 2 * t0), .int .i64 (2 * e1 + 2 * t1), .int .i64 (2 * e2 + 2 * t2)] 36))
         have PX_3b2b0a0b1 := Lib.hid (PX_3b2b0a0.out.alloc (.cells #[.int .i64 (2 * e0 + 2 * t0), .int .i64 (2 * e1 + 2 * t1), .int .i64 (2 * e2 + 2 * t2)] 36))
         have PY_3b2b0a0b1 := Lib.hid (PY_3b2b0a0.out.alloc (.cells #[.int .i64 (2 * e0 + 2 * t0), .int .i64 (2 * e1 + 2 * t1), .int .i64 (2 * e2 + 2 * t2)] 36))
         have PZ_3b2b0a0b1 := Lib.hid (PZ_3b2b0a0.out.alloc (.cells #[.int .i64 (2 * e0 + 2 * t0), .int .i64 (2 * e1 + 2 * t1), .int .i64 (2 * e2 + 2 * t2)] 36))
         have PB2_3b2b0a0b1 := Lib.hid (PB2_3b2b0a0.out.alloc (.cells #[.int .i64 (2 * e0 + 2 * t0), .int .i64 (2 * e1 + 2 * t1), .int .i64 (2 * e2 + 2 * t2)] 36))
         have PB1_3b2b0a0b1 := Lib.hid (PB.new_ P_3b2b0a0.out ⟨2 * e0 + 2 * t0, 2 * e1 + 2 * t1, 2 * e2 + 2 * t2⟩)
         have HB_3b2b0a0b1 : Hid (Below V1.heap.size V1 (u3b2b0a0.alloc (.cells #[.int .i64 (2 * e0 + 2 * t0), .int .i64 (2 * e1 + 2 * t1), .int .i64 (2 * e2 + 2 * t2)] 36))) := Lib.hid ((bw_alloc HB_3b2b0a0.out _))
         rw [← hu] at P_3b2b0a0b1 PX_3b2b0a0b1 PY_3b2b0a0b1 PZ_3b2b0a0b1 HB_3b2b0a0b1 PB1_3b2b0a0b1 PB2_3b2b0a0b1
         obtain ⟨g1, hg1⟩ : ∃ g, g = u3b2b0a0.heap.size := ⟨_, rfl⟩
         rw [← hg1] at PB1_3b2b0a0b1 ⊢
         refine hK.out _ _ ?_ (fun hh => ?_)
         ·exact ⟨PX_3b2b0a0b1.out.b.cell 0, PX_3b2b0a0b1.out.b.cell 1, PX_3b2b0a0b1.out.b.cell 2, PY_3b2b0a0b1.out.b.cell 0, PY_3b2b0a0b1.out.b.cell 1, PY_3b2b0a0b1.out.b.cell 2, PZ_3b2b0a0b1.out.b.cell 0, PZ_3b2b0a0b1.out.b.cell 1, PZ_3b2b0a0b1.out.b.cell 2⟩
         clear hK K hu hg1
         (try simp only [Act.put, setIfInBounds_toArray, set_cons_zero, set_cons_succ])
         refine Till.ready (rs := [7]) (by kernel_rfl) (by simp) ?_
         refine TillEach.cons rfl (fun K hK => ?_) ?_
         ·refine step_append_sl _ (by rfl) (.tmp 68) (.tmp 70) _ (by rfl) V1.heap.size 36 i0 _ 3 24 Try.underlying34 hi0 hz0 hz1 hz2 rfl (by omega) (.slice Aq k cq) k (Q.flatMap Tri.cells) (by rfl) P_3b2b0a0b1.out.q.own (g1 + 1) (some ⟨g1, 0, none⟩) 1 1 [.int .i64 (2 * e0 + 2 * t0), .int .i64 (2 * e1 + 2 * t1), .int .i64 (2 * e2 + 2 * t2)] (by rfl) PB1_3b2b0a0b1.out.reads (by simp [Value.oneCell']) (by simp only [maxLen]; omega) (by omega) (bw_size HB_3b2b0a0b1.out) ?_
          intro A3b2b0a0b1a1 c3b2b0a0b1a1 u3b2b0a0b1a1 hown hg hat
          have P_3b2b0a0b1a1 := Lib.hid (P_3b2b0a0b1.out.appQ (t := ⟨2 * e0 + 2 * t0, 2 * e1 + 2 * t1, 2 * e2 + 2 * t2⟩) hown hg hat)
          have PX_3b2b0a0b1a1 := Lib.hid (PX_3b2b0a0b1.out.appQ hg hat)
          have PY_3b2b0a0b1a1 := Lib.hid (PY_3b2b0a0b1.out.appQ hg hat)
          have PZ_3b2b0a0b1a1 := Lib.hid (PZ_3b2b0a0b1.out.appQ hg hat)
          have PB2_3b2b0a0b1a1 := Lib.hid (PB2_3b2b0a0b1.out.appQ hg hat)
          have HB_3b2b0a0b1a1 := Lib.hid (bw_grow HB_3b2b0a0b1.out hg (fun x hx => (P_3b2b0a0b1.out.q.lt_ x hx).1))
          refine hK.out _ _ ?_ (fun hh => ?_)
          ·exact ⟨PX_3b2b0a0b1a1.out.b.cell 0, PX_3b2b0a0b1a1.out.b.cell 1, PX_3b2b0a0b1a1.out.b.cell 2, PY_3b2b0a0b1a1.out.b.cell 0, PY_3b2b0a0b1a1.out.b.cell 1, PY_3b2b0a0b1a1.out.b.cell 2, PZ_3b2b0a0b1a1.out.b.cell 0, PZ_3b2b0a0b1a1.out.b.cell 1, PZ_3b2b0a0b1a1.out.b.cell 2⟩
          clear hK K hown hg hat
          (try simp only [Act.put, setIfInBounds_toArray, set_cons_zero, set_cons_succ])
          refine Till.ready (rs := [11]) (by kernel_rfl) (by simp) ?_
          refine TillEach.cons rfl (fun K hK => ?_) ?_
          ·refine step_append_sl _ (by rfl) (.tmp 72) (.tmp 74) _ (by rfl) V1.heap.size 36 i0 _ 3 24 Try.underlying34 hi0 hz0 hz1 hz2 rfl (by omega) (.slice Am k cm) k (M.flatMap Tri.cells) (by rfl) P_3b2b0a0b1a1.out.m.own (g2 + 1) (some ⟨g2, 0, none⟩) 1 1 [.int .i64 (-(2 * e0)), .int .i64 (-(2 * e1)), .int .i64 (-(2 * e2))] (by rfl) PB2_3b2b0a0b1a1.out.reads (by simp [Value.oneCell']) (by simp only [maxLen]; omega) (by omega) (bw_size HB_3b2b0a0b1a1.out) ?_
           intro A3b2b0a0b1a1a2 c3b2b0a0b1a1a2 u3b2b0a0b1a1a2 hown hg hat
           have P_3b2b0a0b1a1a2 := Lib.hid (P_3b2b0a0b1a1.out.appM (t := ⟨-(2 * e0), -(2 * e1), -(2 * e2)⟩) hown hg hat)
           have PX_3b2b0a0b1a1a2 := Lib.hid (PX_3b2b0a0b1a1.out.appM hg hat)
           have PY_3b2b0a0b1a1a2 := Lib.hid (PY_3b2b0a0b1a1.out.appM hg hat)
           have PZ_3b2b0a0b1a1a2 := Lib.hid (PZ_3b2b0a0b1a1.out.appM hg hat)
           have HB_3b2b0a0b1a1a2 := Lib.hid (bw_grow HB_3b2b0a0b1a1.out hg (fun x hx => (P_3b2b0a0b1a1.out.m.lt_ x hx).1))
           refine hK.out _ _ ?_ (fun hh => ?_)
           ·exact ⟨PX_3b2b0a0b1a1a2.out.b.cell 0, PX_3b2b0a0b1a1a2.out.b.cell 1, PX_3b2b0a0b1a1a2.out.b.cell 2, PY_3b2b0a0b1a1a2.out.b.cell 0, PY_3b2b0a0b1a1a2.out.b.cell 1, PY_3b2b0a0b1a1a2.out.b.cell 2, PZ_3b2b0a0b1a1a2.out.b.cell 0, PZ_3b2b0a0b1a1a2.out.b.cell 1, PZ_3b2b0a0b1a1a2.out.b.cell 2⟩
           clear hK K hown hg hat
           (try simp only [Act.put, setIfInBounds_toArray, set_cons_zero, set_cons_succ])
           refine Till.ready (rs := [12]) (by kernel_rfl) (by simp) ?_
           refine TillEach.cons rfl (fun K hK => ?_) ?_
           ·go_simp
            refine hK.out _ _ ?_ (fun hh => ?_)
            ·exact ⟨PX_3b2b0a0b1a1a2.out.b.cell 0, PX_3b2b0a0b1a1a2.out.b.cell 1, PX_3b2b0a0b1a1a2.out.b.cell 2, PY_3b2b0a0b1a1a2.out.b.cell 0, PY_3b2b0a0b1a1a2.out.b.cell 1, PY_3b2b0a0b1a1a2.out.b.cell 2, PZ_3b2b0a0b1a1a2.out.b.cell 0, PZ_3b2b0a0b1a1a2.out.b.cell 1, PZ_3b2b0a0b1a1a2.out.b.cell 2⟩
            clear hK K
            (try simp only [Act.put, setIfInBounds_toArray, set_cons_zero, set_cons_succ])
            refine Till.ready (rs := [13]) (by kernel_rfl) (by simp) ?_
            refine TillEach.cons rfl (fun K hK => ?_) ?_
            ·go_simp
             refine hK.out _ _ ?_ (fun hh => ?_)
             ·exact ⟨PX_3b2b0a0b1a1a2.out.b.cell 0, PX_3b2b0a0b1a1a2.out.b.cell 1, PX_3b2b0a0b1a1a2.out.b.cell 2, PY_3b2b0a0b1a1a2.out.b.cell 0, PY_3b2b0a0b1a1a2.out.b.cell 1, PY_3b2b0a0b1a1a2.out.b.cell 2, PZ_3b2b0a0b1a1a2.out.b.cell 0, PZ_3b2b0a0b1a1a2.out.b.cell 1, PZ_3b2b0a0b1a1a2.out.b.cell 2⟩
             clear hK K
             (try simp only [Act.put, setIfInBounds_toArray, set_cons_zero, set_cons_succ])
             refine Till.ready (rs := [14]) (by kernel_rfl) (by simp) ?_
             refine TillEach.last rfl (fun K hK => ?_)
             ·go_simp
              refine hK.out _ _ ?_
              clear hK K
              (try simp only [Act.put, setIfInBounds_toArray, set_cons_zero, set_cons_succ])
              refine Till.done (by kernel_rfl) ?_ _
              go_wp2_with fail
              exact ⟨⟨k + 1, A3b2b0a0, c3b2b0a0, _, A3b2b0a0b1a1, c3b2b0a0b1a1, _, A3b2b0a0b1a1a2, c3b2b0a0b1a1a2, _, by omega, rfl, rfl, rfl, by go_num, P_3b2b0a0b1a1a2, MVn, HB_3b2b0a0b1a1a2⟩, by simp [intOf]; omega⟩
            exact TillEach.nil
           exact TillEach.nil
          exact TillEach.nil
         exact TillEach.nil
        exact TillEach.nil
       refine TillEach.cons rfl (fun K hK => ?_) ?_
       ·go_simp
        obtain ⟨u3b2b0b1, hu⟩ : ∃ u, u = u3b2b0.alloc (.cells #[.int .i64 (2 * e0 + 2 * t0), .int .i64 (2 * e1 + 2 * t1), .int .i64 (2 * e2 + 2 * t2)] 36) := ⟨_, rfl⟩
        rw [← hu]
        have P_3b2b0b1 := Lib.hid (P_3b2b0.out.alloc (.cells #[.int .i64 (2 * e0 + 2 * t0), .int .i64 (2 * e1 + 2 * t1), .int .i64 (2 * e2 + 2 * t2)] 36))
        have PX_3b2b0b1 := Lib.hid (PX_3b2b0.out.alloc (.cells #[.int .i64 (2 * e0 + 2 * t0), .int .i64 (2 * e1 + 2 * t1), .int .i64 (2 * e2 + 2 * t2)] 36))
        have PY_3b2b0b1 := Lib.hid (PY_3b2b0.out.alloc (.cells #[.int .i64 (2 * e0 + 2 * t0), .int .i64 (2 * e1 + 2 * t1), .int .i64 (2 * e2 + 2 * t2)] 36))
        have PZ_3b2b0b1 := Lib.hid (PZ_3b2b0.out.alloc (.cells #[.int .i64 (2 * e0 + 2 * t0), .int .i64 (2 * e1 + 2 * t1), .int .i64 (2 * e2 + 2 * t2)] 36))
        have PB0_3b2b0b1 := Lib.hid (PB0_3b2b0.out.alloc (.cells #[.int .i64 (2 * e0 + 2 * t0), .int .i64 (2 * e1 + 2 * t1), .int .i64 (2 * e2 + 2 * t2)] 36))
        have PB2_3b2b0b1 := Lib.hid (PB2_3b2b0.out.alloc (.cells #[.int .i64 (2 * e0 + 2 * t0), .int .i64 (2 * e1 + 2 * t1), .int .i64 (2 * e2 + 2 * t2)] 36))
        have PB1_3b2b0b1 := Lib.hid (PB.new_ P_3b2b0.out ⟨2 * e0 + 2 * t0, 2 * e1 + 2 * t1, 2 * e2 + 2 * t2⟩)
        have HB_3b2b0b1 : Hid (Below V1.heap.size V1 (u3b2b0.alloc (.cells #[.int .i64 (2 * e0 + 2 * t0), .int .i64 (2 * e1 + 2 * t1), .int .i64 (2 * e2 + 2 * t2)] 36))) := Lib.hid ((bw_alloc HB_3b2b0.out _))
        rw [← hu] at P_3b2b0b1 PX_3b2b0b1 PY_3b2b0b1 PZ_3b2b0b1 HB_3b2b0b1 PB0_3b2b0b1 PB1_3b2b0b1 PB2_3b2b0b1
        obtain ⟨g1, hg1⟩ : ∃ g, g = u3b2b0.heap.size := ⟨_, rfl⟩
        rw [← hg1] at PB1_3b2b0b1 ⊢
        refine hK.out _ _ ?_ (fun hh => ?_)
        ·exact ⟨PX_3b2b0b1.out.b.cell 0, PX_3b2b0b1.out.b.cell 1, PX_3b2b0b1.out.b.cell 2, PY_3b2b0b1.out.b.cell 0, PY_3b2b0b1.out.b.cell 1, PY_3b2b0b1.out.b.cell 2, PZ_3b2b0b1.out.b.cell 0, PZ_3b2b0b1.out.b.cell 1, PZ_3b2b0b1.out.b.cell 2⟩
        clear hK K hu hg1
        (try simp only [Act.put, setIfInBounds_toArray, set_cons_zero, set_cons_succ])
        refine Till.ready (rs := [3]) (by kernel_rfl) (by simp) ?_
        refine TillEach.cons rfl (fun K hK => ?_) ?_
        ·refine step_append_sl _ (by rfl) (.tmp 64) (.tmp 66) _ (by rfl) V1.heap.size 36 i0 _ 3 24 Try.underlying34 hi0 hz0 hz1 hz2 rfl (by omega) (.slice Ao k co) k (O.flatMap Tri.cells) (by rfl) P_3b2b0b1.out.o.own (g0 + 1) (some ⟨g0, 0, none⟩) 1 1 [.int .i64 (2 * e0), .int .i64 (2 * e1), .int .i64 (2 * e2)] (by rfl) PB0_3b2b0b1.out.reads (by simp [Value.oneCell']) (by simp only [maxLen]; omega) (by omega) (bw_size HB_3b2b0b1.out) ?_
         intro A3b2b0b1a0 c3b2b0b1a0 u3b2b0b1a0 hown hg hat
         have P_3b2b0b1a0 := Lib.hid (P_3b2b0b1.out.appO (t := ⟨2 * e0, 2 * e1, 2 * e2⟩) hown hg hat)
         have PX_3b2b0b1a0 := Lib.hid (PX_3b2b0b1.out.appO hg hat)
         have PY_3b2b0b1a0 := Lib.hid (PY_3b2b0b1.out.appO hg hat)
         have PZ_3b2b0b1a0 := Lib.hid (PZ_3b2b0b1.out.appO hg hat)
         have PB1_3b2b0b1a0 := Lib.hid (PB1_3b2b0b1.out.appO hg hat)
         have PB2_3b2b0b1a0 := Lib.hid (PB2_3b2b0b1.out.appO hg hat)
         have HB_3b2b0b1a0 := Lib.hid (bw_grow HB_3b2b0b1.out hg (fun x hx => (P_3b2b0b1.out.o.lt_ x hx).1))
         refine hK.out _ _ ?_ (fun hh => ?_)
         ·exact ⟨PX_3b2b0b1a0.out.b.cell 0, PX_3b2b0b1a0.out.b.cell 1, PX_3b2b0b1a0.out.b.cell 2, PY_3b2b0b1a0.out.b.cell 0, PY_3b2b0b1a0.out.b.cell 1, PY_3b2b0b1a0.out.b.cell 2, PZ_3b2b0b1a0.out.b.cell 0, PZ_3b2b0b1a0.out.b.cell 1, PZ_3b2b0b1a0.out.b.cell 2⟩
         clear hK K hown hg hat
         (try simp only [Act.put, setIfInBounds_toArray, set_cons_zero, set_cons_succ])
         refine Till.ready (rs := [7]) (by kernel_rfl) (by simp) ?_
         refine TillEach.cons rfl (fun K hK => ?_) ?_
         ·refine step_append_sl _ (by rfl) (.tmp 68) (.tmp 70) _ (by rfl) V1.heap.size 36 i0 _ 3 24 Try.underlying34 hi0 hz0 hz1 hz2 rfl (by omega) (.slice Aq k cq) k (Q.flatMap Tri.cells) (by rfl) P_3b2b0b1a0.out.q.own (g1 + 1) (some ⟨g1, 0, none⟩) 1 1 [.int .i64 (2 * e0 + 2 * t0), .int .i64 (2 * e1 + 2 * t1), .int .i64 (2 * e2 + 2 * t2)] (by rfl) PB1_3b2b0b1a0.out.reads (by simp [Value.oneCell']) (by simp only [maxLen]; omega) (by omega) (bw_size HB_3b2b0b1a0.out) ?_
          intro A3b2b0b1a0a1 c3b2b0b1a0a1 u3b2b0b1a0a1 hown hg hat
          have P_3b2b0b1a0a1 := Lib.hid (P_3b2b0b1a0.out.appQ (t := ⟨2 * e0 + 2 * t0, 2 * e1 + 2 * t1, 2 * e2 + 2 * t2⟩) hown hg hat)
          have PX_3b2b0b1a0a1 := Lib.hid (PX_3b2b0b1a0.out.appQ hg hat)
          have PY_3b2b0b1a0a1 := Lib.hid (PY_3b2b0b1a0.out.appQ hg hat)
          have PZ_3b2b0b1a0a1 := Lib.hid (PZ_3b2b0b1a0.out.appQ hg hat)
          have PB2_3b2b0b1a0a1 := Lib.hid (PB2_3b2b0b1a0.out.appQ hg hat)
          have HB_3b2b0b1a0a1 := Lib.hid (bw_grow HB_3b2b0b1a0.out hg (fun x hx => (P_3b2b0b1a0.out.q.lt_ x hx).1))
          refine hK.out _ _ ?_ (fun hh => ?_)
          ·exact ⟨PX_3b2b0b1a0a1.out.b.cell 0, PX_3b2b0b1a0a1.out.b.cell 1, PX_3b2b0b1a0a1.out.b.cell 2, PY_3b2b0b1a0a1.out.b.cell 0, PY_3b2b0b1a0a1.out.b.cell 1, PY_3b2b0b1a0a1.out.b.cell 2, PZ_3b2b0b1a0a1.out.b.cell 0, PZ_3b2b0b1a0a1.out.b.cell 1, PZ_3b2b0b1a0a1.out.b.cell 2⟩
          clear hK K hown hg hat
          (try simp only [Act.put, setIfInBounds_toArray, set_cons_zero, set_cons_succ])
          refine Till.ready (rs := [11]) (by kernel_rfl) (by simp) ?_
          refine TillEach.cons rfl (fun K hK => ?_) ?_
          ·refine step_append_sl _ (by rfl) (.tmp 72) (.tmp 74) _ (by rfl) V1.heap.size 36 i0 _ 3 24 Try.underlying34 hi0 hz0 hz1 hz2 rfl (by omega) (.slice Am k cm) k (M.flatMap Tri.cells) (by rfl) P_3b2b0b1a0a1.out.m.own (g2 + 1) (some ⟨g2, 0, none⟩) 1 1 [.int .i64 (-(2 * e0)), .int .i64 (-(2 * e1)), .int .i64 (-(2 * e2))] (by rfl) PB2_3b2b0b1a0a1.out.reads (by simp [Value.oneCell']) (by simp only [maxLen]; omega) (by omega) (bw_size HB_3b2b0b1a0a1.out) ?_
           intro A3b2b0b1a0a1a2 c3b2b0b1a0a1a2 u3b2b0b1a0a1a2 hown hg hat
           have P_3b2b0b1a0a1a2 := Lib.hid (P_3b2b0b1a0a1.out.appM (t := ⟨-(2 * e0), -(2 * e1), -(2 * e2)⟩) hown hg hat)
           have PX_3b2b0b1a0a1a2 := Lib.hid (PX_3b2b0b1a0a1.out.appM hg hat)
           have PY_3b2b0b1a0a1a2 := Lib.hid (PY_3b2b0b1a0a1.out.appM hg hat)
           have PZ_3b2b0b1a0a1a2 := Lib.hid (PZ_3b2b0b1a0a1.out.appM hg hat)
           have HB_3b2b0b1a0a1a2 := Lib.hid (bw_grow HB_3b2b0b1a0a1.out hg (fun x hx => (P_3b2b0b1a0a1.out.m.lt_ x hx).1))
           refine hK.out _ _ ?_ (fun hh => ?_)
           ·exact ⟨PX_3b2b0b1a0a1a2.out.b.cell 0, PX_3b2b0b1a0a1a2.out.b.cell 1, PX_3b2b0b1a0a1a2.out.b.cell 2, PY_3b2b0b1a0a1a2.out.b.cell 0, PY_3b2b0b1a0a1a2.out.b.cell 1, PY_3b2b0b1a0a1a2.out.b.cell 2, PZ_3b2b0b1a0a1a2.out.b.cell 0, PZ_3b2b0b1a0a1a2.out.b.cell 1, PZ_3b2b0b1a0a1a2.out.b.cell 2⟩
           clear hK K hown hg hat
           (try simp only [Act.put, setIfInBounds_toArray, set_cons_zero, set_cons_succ])
           refine Till.ready (rs := [12]) (by kernel_rfl) (by simp) ?_
           refine TillEach.cons rfl (fun K hK => ?_) ?_
           ·go_simp
            refine hK.out _ _ ?_ (fun hh => ?_)
            ·exact ⟨PX_3b2b0b1a0a1a2.out.b.cell 0, PX_3b2b0b1a0a1a2.out.b.cell 1, PX_3b2b0b1a0a1a2.out.b.cell 2, PY_3b2b0b1a0a1a2.out.b.cell 0, PY_3b2b0b1a0a1a2.out.b.cell 1, PY_3b2b0b1a0a1a2.out.b.cell 2, PZ_3b2b0b1a0a1a2.out.b.cell 0, PZ_3b2b0b1a0a1a2.out.b.cell 1, PZ_3b2b0b1a0a1a2.out.b.cell 2⟩
            clear hK K
            (try simp only [Act.put, setIfInBounds_toArray, set_cons_zero, set_cons_succ])
            refine Till.ready (rs := [13]) (by kernel_rfl) (by simp) ?_
            refine TillEach.cons rfl (fun K hK => ?_) ?_
            ·go_simp
             refine hK.out _ _ ?_ (fun hh => ?_)
             ·exact ⟨PX_3b2b0b1a0a1a2.out.b.cell 0, PX_3b2b0b1a0a1a2.out.b.cell 1, PX_3b2b0b1a0a1a2.out.b.cell 2, PY_3b2b0b1a0a1a2.out.b.cell 0, PY_3b2b0b1a0a1a2.out.b.cell 1, PY_3b2b0b1a0a1a2.out.b.cell 2, PZ_3b2b0b1a0a1a2.out.b.cell 0, PZ_3b2b0b1a0a1a2.out.b.cell 1, PZ_3b2b0b1a0a1a2.out.b.cell 2⟩
             clear hK K
             (try simp only [Act.put, setIfInBounds_toArray, set_cons_zero, set_cons_succ])
             refine Till.ready (rs := [14]) (by kernel_rfl) (by simp) ?_
             refine TillEach.last rfl (fun K hK => ?_)
             ·go_simp
              refine hK.out _ _ ?_
              clear hK K
              (try simp only [Act.put, setIfInBounds_toArray, set_cons_zero, set_cons_succ])
              refine Till.done (by kernel_rfl) ?_ _
              go_wp2_with fail
              exact ⟨⟨k + 1, A3b2b0b1a0, c3b2b0b1a0, _, A3b2b0b1a0a1, c3b2b0b1a0a1, _, A3b2b0b1a0a1a2, c3b2b0b1a0a1a2, _, by omega, rfl, rfl, rfl, by go_num, P_3b2b0b1a0a1a2, MVn, HB_3b2b0b1a0a1a2⟩, by simp [intOf]; omega⟩
            exact TillEach.nil
           exact TillEach.nil
          exact TillEach.nil
         exact TillEach.nil
        exact TillEach.nil
       exact TillEach.nil
      refine TillEach.cons rfl (fun K hK => ?_) ?_
      ·go_simp
       obtain ⟨u3b2b1, hu⟩ : ∃ u, u = u3b2.alloc (.cells #[.int .i64 (2 * e0 + 2 * t0), .int .i64 (2 * e1 + 2 * t1), .int .i64 (2 * e2 + 2 * t2)] 36) := ⟨_, rfl⟩
       rw [← hu]
       have P_3b2b1 := Lib.hid (P_3b2.out.alloc (.cells #[.int .i64 (2 * e0 + 2 * t0), .int .i64 (2 * e1 + 2 * t1), .int .i64 (2 * e2 + 2 * t2)] 36))
       have PX_3b2b1 := Lib.hid (PX_3b2.out.alloc (.cells #[.int .i64 (2 * e0 + 2 * t0), .int .i64 (2 * e1 + 2 * t1), .int .i64 (2 * e2 + 2 * t2)] 36))
       have PY_3b2b1 := Lib.hid (PY_3b2.out.alloc (.cells #[.int .i64 (2 * e0 + 2 * t0), .int .i64 (2 * e1 + 2 * t1), .int .i64 (2 * e2 + 2 * t2)] 36))
       have PZ_3b2b1 := Lib.hid (PZ_3b2.out.alloc (.cells #[.int .i64 (2 * e0 + 2 * t0), .int .i64 (2 * e1 + 2 * t1), .int .i64 (2 * e2 + 2 * t2)] 36))
       have PB2_3b2b1 := Lib.hid (PB2_3b2.out.alloc (.cells #[.int .i64 (2 * e0 + 2 * t0), .int .i64 (2 * e1 + 2 * t1), .int .i64 (2 * e2 + 2 * t2)] 36))
       have PB1_3b2b1 := Lib.hid (PB.new_ P_3b2.out ⟨2 * e0 + 2 * t0, 2 * e1 + 2 * t1, 2 * e2 + 2 * t2⟩)
       have HB_3b2b1 : Hid (Below V1.heap.size V1 (u3b2.alloc (.cells #[.int .i64 (2 * e0 + 2 * t0), .int .i64 (2 * e1 + 2 * t1), .int .i64 (2 * e2 + 2 * t2)] 36))) := Lib.hid ((bw_alloc HB_3b2.out _))
       rw [← hu] at P_3b2b1 PX_3b2b1 PY_3b2b1 PZ_3b2b1 HB_3b2b1 PB1_3b2b1 PB2_3b2b1
       obtain ⟨g1, hg1⟩ : ∃ g, g = u3b2.heap.size := ⟨_, rfl⟩
       rw [← hg1] at PB1_3b2b1 ⊢
       refine hK.out _ _ ?_ (fun hh => ?_)
       ·exact ⟨PX_3b2b1.out.b.cell 0, PX_3b2b1.out.b.cell 1, PX_3b2b1.out.b.cell 2, PY_3b2b1.out.b.cell 0, PY_3b2b1.out.b.cell 1, PY_3b2b1.out.b.cell 2, PZ_3b2b1.out.b.cell 0, PZ_3b2b1.out.b.cell 1, PZ_3b2b1.out.b.cell 2⟩
       clear hK K hu hg1
       (try simp only [Act.put, setIfInBounds_toArray, set_cons_zero, set_cons_succ])
       refine Till.ready (rs := [2]) (by kernel_rfl) (by simp) ?_
       refine TillEach.cons rfl (fun K hK => ?_) ?_
       ·go_simp
        obtain ⟨u3b2b1b0, hu⟩ : ∃ u, u = u3b2b1.alloc (.cells #[.int .i64 (2 * e0), .int .i64 (2 * e1), .int .i64 (2 * e2)] 36) := ⟨_, rfl⟩
        rw [← hu]
        have P_3b2b1b0 := Lib.hid (P_3b2b1.out.alloc (.cells #[.int .i64 (2 * e0), .int .i64 (2 * e1), .int .i64 (2 * e2)] 36))
        have PX_3b2b1b0 := Lib.hid (PX_3b2b1.out.alloc (.cells #[.int .i64 (2 * e0), .int .i64 (2 * e1), .int .i64 (2 * e2)] 36))
        have PY_3b2b1b0 := Lib.hid (PY_3b2b1.out.alloc (.cells #[.int .i64 (2 * e0), .int .i64 (2 * e1), .int .i64 (2 * e2)] 36))
        have PZ_3b2b1b0 := Lib.hid (PZ_3b2b1.out.alloc (.cells #[.int .i64 (2 * e0), .int .i64 (2 * e1), .int .i64 (2 * e2)] 36))
        have PB1_3b2b1b0 := Lib.hid (PB1_3b2b1.out.alloc (.cells #[.int .i64 (2 * e0), .int .i64 (2 * e1), .int .i64 (2 * e2)] 36))
        have PB2_3b2b1b0 := Lib.hid (PB2_3b2b1.out.alloc (.cells #[.int .i64 (2 * e0), .int .i64 (2 * e1), .int .i64 (2 * e2)] 36))
        have PB0_3b2b1b0 := Lib.hid (PB.new_ P_3b2b1.out ⟨2 * e0, 2 * e1, 2 * e2⟩)
        have HB_3b2b1b0 : Hid (Below V1.heap.size V1 (u3b2b1.alloc (.cells #[.int .i64 (2 * e0), .int .i64 (2 * e1), .int .i64 (2 * e2)] 36))) := Lib.hid ((bw_alloc HB_3b2b1.out _))
        rw [← hu] at P_3b2b1b0 PX_3b2b1b0 PY_3b2b1b0 PZ_3b2b1b0 HB_3b2b1b0 PB0_3b2b1b0 PB1_3b2b1b0 PB2_3b2b1b0
        obtain ⟨g0, hg0⟩ : ∃ g, g = u3b2b1.heap.size := ⟨_, rfl⟩
        rw [← hg0] at PB0_3b2b1b0 ⊢
        refine hK.out _ _ ?_ (fun hh => ?_)
        ·exact ⟨PX_3b2b1b0.out.b.cell 0, PX_3b2b1b0.out.b.cell 1, PX_3b2b1b0.out.b.cell 2, PY_3b2b1b0.out.b.cell 0, PY_3b2b1b0.out.b.cell 1, PY_3b2b1b0.out.b.cell 2, PZ_3b2b1b0.out.b.cell 0, PZ_3b2b1b0.out.b.cell 1, PZ_3b2b1b0.out.b.cell 2⟩
        clear hK K hu hg0
        (try simp only [Act.put, setIfInBounds_toArray, set_cons_zero, set_cons_succ])
        refine Till.ready (rs := [3]) (by kernel_rfl) (by simp) ?_
        refine TillEach.cons rfl (fun K hK => ?_) ?_
        ·refine step_append_sl _ (by rfl) (.tmp 64) (.tmp 66) _ (by rfl) V1.heap.size 36 i0 _ 3 24 Try.underlying34 hi0 hz0 hz1 hz2 rfl (by omega) (.slice Ao k co) k (O.flatMap Tri.cells) (by rfl) P_3b2b1b0.out.o.own (g0 + 1) (some ⟨g0, 0, none⟩) 1 1 [.int .i64 (2 * e0), .int .i64 (2 * e1), .int .i64 (2 * e2)] (by rfl) PB0_3b2b1b0.out.reads (by simp [Value.oneCell']) (by simp only [maxLen]; omega) (by omega) (bw_size HB_3b2b1b0.out) ?_
         intro A3b2b1b0a0 c3b2b1b0a0 u3b2b1b0a0 hown hg hat
         have P_3b2b1b0a0 := Lib.hid (P_3b2b1b0.out.appO (t := ⟨2 * e0, 2 * e1, 2 * e2⟩) hown hg hat)
         have PX_3b2b1b0a0 := Lib.hid (PX_3b2b1b0.out.appO hg hat)
         have PY_3b2b1b0a0 := Lib.hid (PY_3b2b1b0.out.appO hg hat)
         have PZ_3b2b1b0a0 := Lib.hid (PZ_3b2b1b0.out.appO hg hat)
         have PB1_3b2b1b0a0 := Lib.hid (PB1_3b2b1b0.out.appO hg hat)
         have PB2_3b2b1b0a0 := Lib.hid (PB2_3b2b1b0.out.appO hg hat)
         have HB_3b2b1b0a0 := Lib.hid (bw_grow HB_3b2b1b0.out hg (fun x hx => (P_3b2b1b0.out.o.lt_ x hx).1))
         refine hK.out _ _ ?_ (fun hh => ?_)
         ·exact ⟨PX_3b2b1b0a0.out.b.cell 0, PX_3b2b1b0a0.out.b.cell 1, PX_3b2b1b0a0.out.b.cell 2, PY_3b2b1b0a0.out.b.cell 0, PY_3b2b1b0a0.out.b.cell 1, PY_3b2b1b0a0.out.b.cell 2, PZ_3b2b1b0a0.out.b.cell 0, PZ_3b2b1b0a0.out.b.cell 1, PZ_3b2b1b0a0.out.b.cell 2⟩
         clear hK K hown hg hat
         (try simp only [Act.put, setIfInBounds_toArray, set_cons_zero, set_cons_succ])
         refine Till.ready (rs := [7]) (by kernel_rfl) (by simp) ?_
         refine TillEach.cons rfl (fun K hK => ?_) ?_
         ·refine step_append_sl _ (by rfl) (.tmp 68) (.tmp 70) _ (by rfl) V1.heap.size 36 i0 _ 3 24 Try.underlying34 hi0 hz0 hz1 hz2 rfl (by omega) (.slice Aq k cq) k (Q.flatMap Tri.cells) (by rfl) P_3b2b1b0a0.out.q.own (g1 + 1) (some ⟨g1, 0, none⟩) 1 1 [.int .i64 (2 * e0 + 2 * t0), .int .i64 (2 * e1 + 2 * t1), .int .i64 (2 * e2 + 2 * t2)] (by rfl) PB1_3b2b1b0a0.out.reads (by simp [Value.oneCell']) (by simp only [maxLen]; omega) (by omega) (bw_size HB_3b2b1b0a0.out) ?_
          intro A3b2b1b0a0a1 c3b2b1b0a0a1 u3b2b1b0a0a1 hown hg hat
          have P_3b2b1b0a0a1 := Lib.hid (P_3b2b1b0a0.out.appQ (t := ⟨2 * e0 + 2 * t0, 2 * e1 + 2 * t1, 2 * e2 + 2 * t2⟩) hown hg hat)
          have PX_3b2b1b0a0a1 := Lib.hid (PX_3b2b1b0a0.out.appQ hg hat)
          have PY_3b2b1b0a0a1 := Lib.hid (PY_3b2b1b0a0.out.appQ hg hat)
          have PZ_3b2b1b0a0a1 := Lib.hid (PZ_3b2b1b0a0.out.appQ hg hat)
          have PB2_3b2b1b0a0a1 := Lib.hid (PB2_3b2b1b0a0.out.appQ hg hat)
          have HB_3b2b1b0a0a1 := Lib.hid (bw_grow HB_3b2b1b0a0.out hg (fun x hx => (P_3b2b1b0a0.out.q.lt_ x hx).1))
          refine hK.out _ _ ?_ (fun hh => ?_)
          ·exact ⟨PX_3b2b1b0a0a1.out.b.cell 0, PX_3b2b1b0a0a1.out.b.cell 1, PX_3b2b1b0a0a1.out.b.cell 2, PY_3b2b1b0a0a1.out.b.cell 0, PY_3b2b1b0a0a1.out.b.cell 1, PY_3b2b1b0a0a1.out.b.cell 2, PZ_3b2b1b0a0a1.out.b.cell 0, PZ_3b2b1b0a0a1.out.b.cell 1, PZ_3b2b1b0a0a1.out.b.cell 2⟩
          clear hK K hown hg hat
          (try simp only [Act.put, setIfInBounds_toArray, set_cons_zero, set_cons_succ])
          refine Till.ready (rs := [11]) (by kernel_rfl) (by simp) ?_
          refine TillEach.cons rfl (fun K hK => ?_) ?_
          ·refine step_append_sl _ (by rfl) (.tmp 72) (.tmp 74) _ (by rfl) V1.heap.size 36 i0 _ 3 24 Try.underlying34 hi0 hz0 hz1 hz2 rfl (by omega) (.slice Am k cm) k (M.flatMap Tri.cells) (by rfl) P_3b2b1b0a0a1.out.m.own (g2 + 1) (some ⟨g2, 0, none⟩) 1 1 [.int .i64 (-(2 * e0)), .int .i64 (-(2 * e1)), .int .i64 (-(2 * e2))] (by rfl) PB2_3b2b1b0a0a1.out.reads (by simp [Value.oneCell']) (by simp only [maxLen]; omega) (by omega) (bw_size HB_3b2b1b0a0a1.out) ?_
           intro A3b2b1b0a0a1a2 c3b2b1b0a0a1a2 u3b2b1b0a0a1a2 hown hg hat
           have P_3b2b1b0a0a1a2 := Lib.hid (P_3b2b1b0a0a1.out.appM (t := ⟨-(2 * e0), -(2 * e1), -(2 * e2)⟩) hown hg hat)
           have PX_3b2b1b0a0a1a2 := Lib.hid (PX_3b2b1b0a0a1.out.appM hg hat)
           have PY_3b2b1b0a0a1a2 := Lib.hid (PY_3b2b1b0a0a1.out.appM hg hat)
           have PZ_3b2b1b0a0a1a2 := Lib.hid (PZ_3b2b1b0a0a1.out.appM hg hat)
           have HB_3b2b1b0a0a1a2 := Lib.hid (bw_grow HB_3b2b1b0a0a1.out hg (fun x hx => (P_3b2b1b0a0a1.out.m.lt_ x hx).1))
           refine hK.out _ _ ?_ (fun hh => ?_)
           ·exact ⟨PX_3b2b1b0a0a1a2.out.b.cell 0, PX_3b2b1b0a0a1a2.out.b.cell 1, PX_3b2b1b0a0a1a2.out.b.cell 2, PY_3b2b1b0a0a1a2.out.b.cell 0, PY_3b2b1b0a0a1a2.out.b.cell 1, PY_3b2b1b0a0a1a2.out.b.cell 2, PZ_3b2b1b0a0a1a2.out.b.cell 0, PZ_3b2b1b0a0a1a2.out.b.cell 1, PZ_3b2b1b0a0a1a2.out.b.cell 2⟩
           clear hK K hown hg hat
           (try simp only [Act.put, setIfInBounds_toArray, set_cons_zero, set_cons_succ])
           refine Till.ready (rs := [12]) (by kernel_rfl) (by simp) ?_
           refine TillEach.cons rfl (fun K hK => ?_) ?_
           ·go_simp
            refine hK.out _ _ ?_ (fun hh => ?_)
            ·exact ⟨PX_3b2b1b0a0a1a2.out.b.cell 0, PX_3b2b1b0a0a1a2.out.b.cell 1, PX_3b2b1b0a0a1a2.out.b.cell 2, PY_3b2b1b0a0a1a2.out.b.cell 0, PY_3b2b1b0a0a1a2.out.b.cell 1, PY_3b2b1b0a0a1a2.out.b.cell 2, PZ_3b2b1b0a0a1a2.out.b.cell 0, PZ_3b2b1b0a0a1a2.out.b.cell 1, PZ_3b2b1b0a0a1a2.out.b.cell 2⟩
            clear hK K
            (try simp only [Act.put, setIfInBounds_toArray, set_cons_zero, set_cons_succ])
            refine Till.ready (rs := [13]) (by kernel_rfl) (by simp) ?_
            refine TillEach.cons rfl (fun K hK => ?_) ?_
            ·go_simp
             refine hK.out _ _ ?_ (fun hh => ?_)
             ·exact ⟨PX_3b2b1b0a0a1a2.out.b.cell 0, PX_3b2b1b0a0a1a2.out.b.cell 1, PX_3b2b1b0a0a1a2.out.b.cell 2, PY_3b2b1b0a0a1a2.out.b.cell 0, PY_3b2b1b0a0a1a2.out.b.cell 1, PY_3b2b1b0a0a1a2.out.b.cell 2, PZ_3b2b1b0a0a1a2.out.b.cell 0, PZ_3b2b1b0a0a1a2.out.b.cell 1, PZ_3b2b1b0a0a1a2.out.b.cell 2⟩
             clear hK K
             (try simp only [Act.put, setIfInBounds_toArray, set_cons_zero, set_cons_succ])
             refine Till.ready (rs := [14]) (by kernel_rfl) (by simp) ?_
             refine TillEach.last rfl (fun K hK => ?_)
             ·go_simp
              refine hK.out _ _ ?_
              clear hK K
              (try simp only [Act.put, setIfInBounds_toArray, set_cons_zero, set_cons_succ])
              refine Till.done (by kernel_rfl) ?_ _
              go_wp2_with fail
              exact ⟨⟨k + 1, A3b2b1b0a0, c3b2b1b0a0, _, A3b2b1b0a0a1, c3b2b1b0a0a1, _, A3b2b1b0a0a1a2, c3b2b1b0a0a1a2, _, by omega, rfl, rfl, rfl, by go_num, P_3b2b1b0a0a1a2, MVn, HB_3b2b1b0a0a1a2⟩, by simp [intOf]; omega⟩
            exact TillEach.nil
           exact TillEach.nil
          exact TillEach.nil
         exact TillEach.nil
        exact TillEach.nil
       exact TillEach.nil
      exact TillEach.nil
     exact TillEach.nil
end Go.Proofs.Ytcpfolojfdnojaa
