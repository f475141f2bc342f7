/- The document's Opp, Corner and Same of layer 10, walked. No condition but sizes. -/
import Derived.Test.YtdmibpcpocacpaaCorR2
namespace Go.Proofs.Ytdmibpcpocacpaa
open Go.RowKit

set_option linter.unusedSimpArgs false
set_option linter.unusedVariables false
theorem run_ne_tri (a b c : Int) (w : World) : (binOp .neq 50 (.agg #[.int .i64 a, .int .i64 b, .int .i64 c]) (.agg #[.int .i64 a, .int .i64 b, .int .i64 c])).run Try.prog w = .ok (.bool false) w := by
  rw [run_neq_struct]
  show ((Op.equalIn (9998 + 1 + 1) _ _ _).run _ _).andThen _ = _
  unfold Op.equalIn
  simp [go_sem, Try.underlying3, Result.andThen, List.range']
set_option maxRecDepth 100000 in
set_option maxHeartbeats 4000000 in
theorem refSame10_any (N : Int) (X : List Tri) (A A' : Option Addr) (n c c' : Nat) (w : World) (hn : n ≤ 1000000) (h1 : TrisAt w w.heap.size A n X) (h2 : TrisAt w w.heap.size A' n X) :
    Calls Try.prog 33 #[.agg #[.int .i64 N, .slice A n c], .agg #[.int .i64 N, .slice A' n c']] w (BoolPost w true) := by
  obtain ⟨V, hV⟩ : ∃ V, V = (w.alloc (.cells #[.int .i64 N, .slice A n c] 24)).alloc (.cells #[.int .i64 N, .slice A' n c'] 24) := ⟨_, rfl⟩
  have HB : Hid (Below w.heap.size w V) := by subst hV; exact Lib.hid (bw_alloc (bw_alloc (Below.refl _ _) _) _)
  have HX : Hid (Blk V w.heap.size 24 #[.int .i64 N, .slice A n c]) := by subst hV; exact Lib.hid ((Blk.new _ _ _).alloc _)
  have HY : Hid (Blk V (w.heap.size + 1) 24 #[.int .i64 N, .slice A' n c']) := by subst hV; exact Lib.hid (blk_new1 _ _ _ _)
  have H1 := Lib.hid ((h1.below HB.out).more HB.out.size)
  have H2 := Lib.hid ((h2.below HB.out).more HB.out.size)
  clear h1 h2
  go_enter Try.func33, Try.ntmps33
  go_wp2_with fail
  rw [← hV]
  clear hV
  go_loopw [5] (fun iv wr => ∃ k q : Nat, k ≤ n ∧ iv = .int .i64 k ∧ wr = V.drewN q) (fun iv _ => n - (intOf iv).toNat)
  case atStart => exact ⟨0, 0, by omega, rfl, rfl⟩
  case round =>
    obtain ⟨k, q, hk, rfl, rfl⟩ := hrel
    obtain ⟨x0, x1, _, _, _⟩ := soup_facts HX.out
    obtain ⟨y0, y1, _, _, _⟩ := soup_facts HY.out
    by_cases hlt : k < n
    · obtain ⟨ad, t, rfl, htk, _, hadb, hc3⟩ := H1.out.at_ hlt
      obtain ⟨ad2, t2, rfl, htk2, _, hadb2, hc4⟩ := H2.out.at_ hlt
      rw [htk] at htk2
      cases htk2
      obtain ⟨d0, d1, d2, d3, d4, d5⟩ := hc3
      obtain ⟨e0, e1, e2, e3, e4, e5⟩ := hc4
      obtain ⟨ta, tb, tc⟩ := t
      have hne := run_ne_tri ta tb tc
      have hk0 : (0 : Int) ≤ (k : Int) := by omega
      have hk1 : (k : Int) < (n : Int) := by omega
      simp only at d0 d1 d2 d3 d4 d5 e0 e1 e2 e3 e4 e5
      clear htk
      go_wp2_with fail
      go_quiet (fail)
      go_wp2_with fail
      exact ⟨⟨k + 1, _, by omega, by go_num, rfl⟩, by simp [intOf]; omega⟩
    · obtain rfl : k = n := by omega
      go_wp2_with fail
      go_ret
      exact ⟨rfl, below_drewN HB.out q⟩

attribute [local irreducible] Blk LRow World.alloc World.setCell World.cell? World.frozen? MapV
set_option maxRecDepth 100000 in
set_option maxHeartbeats 4000000 in
theorem refOpp_any (N : Int) (A : Option Addr) (c : Nat) (T : List Tri) (k : Nat) (w : World) (hT : T.length ≤ 8192) (hk : k < 3 * T.length) (ht : TrisAt w w.heap.size A T.length T) :
    Calls Try.prog 22 #[.agg #[.int .i64 N, .slice A T.length c], .int .i64 (k : Int)] w (IntPost w (facingI T ((ce T k).2, (ce T k).1))) := by
  have HT := Lib.hid ht
  clear ht
  obtain ⟨V, hV⟩ : ∃ V, V = w.alloc (.cells #[.int .i64 N, .slice A T.length c] 24) := ⟨_, rfl⟩
  have GA : Hid (Blk V w.heap.size 24 #[.int .i64 N, .slice A T.length c]) := by subst hV; exact Lib.hid (Blk.new _ _ _)
  have HB : Hid (Below w.heap.size w V) := by subst hV; exact Lib.hid (bw_alloc (Below.refl _ _) _)
  have HE := Lib.hid (refEdge_any N A c T k V hT hk ((HT.out.below HB.out).more HB.out.size))
  obtain ⟨E, hE⟩ : ∃ E, ce T k = E := ⟨_, rfl⟩
  rw [hE] at HE ⊢
  clear hE
  obtain ⟨a, b⟩ := E
  go_enter Try.func22, Try.ntmps22
  go_upto_region 1 with (fail)
  rw [← hV]
  clear hV
  generalize w.heap.size = ga at GA ⊢
  obtain ⟨s0, s1, _, _, _⟩ := soup_facts GA.out
  go_wp2_with fail
  refine HE.out.mono ?_
  rintro e w1 ⟨rfl, hb⟩
  have GA1 := Lib.hid (blk_call GA.out hb)
  have HB1 := Lib.hid (bw_call HB.out hb)
  clear hb GA HB HE s0 s1
  obtain ⟨V, hV⟩ : ∃ V, V = w1.alloc (.cells #[.int .i64 a, .int .i64 b] 31) := ⟨_, rfl⟩
  have GE : Hid (Blk V w1.heap.size 31 #[.int .i64 a, .int .i64 b]) := by subst hV; exact Lib.hid (Blk.new _ _ _)
  have GA : Hid (Blk V ga 24 #[.int .i64 N, .slice A T.length c]) := by subst hV; exact Lib.hid (GA1.out.alloc _)
  have HB : Hid (Below w.heap.size w V) := by subst hV; exact Lib.hid (bw_alloc HB1.out _)
  go_upto_region 2 with (fail)
  rw [← hV]
  clear hV GA1 HB1
  generalize w1.heap.size = ge at GE ⊢
  obtain ⟨s0, s1, _, _, _⟩ := soup_facts GA.out
  obtain ⟨g0, g1, _, _⟩ := edge_facts GE.out
  go_wp2_with fail
  refine (refFacing_any N A c T b a V hT ((HT.out.below HB.out).more HB.out.size)).mono ?_
  rintro e w2 ⟨rfl, hb⟩
  have HB2 := Lib.hid (bw_call HB.out hb)
  clear hb
  go_wp2_with fail
  go_ret
  exact ⟨rfl, HB2.out⟩
set_option maxRecDepth 100000 in
set_option maxHeartbeats 4000000 in
theorem refCorner_any (N : Int) (A : Option Addr) (c : Nat) (T : List Tri) (x : Int) (w : World) (hT : T.length ≤ 8192) (ht : TrisAt w w.heap.size A T.length T) :
    Calls Try.prog 27 #[.agg #[.int .i64 N, .slice A T.length c], .int .i64 x] w (IntPost w (optI (cornerF T x))) := by
  have HT := Lib.hid ht
  clear ht
  obtain ⟨r, HRR⟩ : ∃ r, Hid (optI (cornerF T x) = r) := ⟨_, Lib.hid rfl⟩
  rw [HRR.out]
  obtain ⟨V, hV⟩ : ∃ V, V = w.alloc (.cells #[.int .i64 N, .slice A T.length c] 24) := ⟨_, rfl⟩
  have GA : Hid (Blk V w.heap.size 24 #[.int .i64 N, .slice A T.length c]) := by subst hV; exact Lib.hid (Blk.new _ _ _)
  have HB : Hid (Below w.heap.size w V) := by subst hV; exact Lib.hid (bw_alloc (Below.refl _ _) _)
  go_enter Try.func27, Try.ntmps27
  go_upto_region 1 with (fail)
  rw [← hV]
  clear hV
  generalize w.heap.size = ga at GA ⊢
  go_wp2_with fail
  go_loopw [5] (fun iv wr => ∃ k : Nat, k ≤ 3 * T.length ∧ iv = .int .i64 k ∧ Hid (∀ i, i < k → cv T i ≠ x) ∧ Hid (Blk wr ga 24 #[.int .i64 N, .slice A T.length c]) ∧ Hid (Below w.heap.size w wr)) (fun iv _ => 3 * T.length - (intOf iv).toNat)
  case atStart => exact ⟨0, by omega, rfl, Lib.hid (fun i hi => absurd hi (by omega)), GA, HB⟩
  case round =>
    obtain ⟨k, hk, rfl, HF, GAk, HBk⟩ := hrel
    obtain ⟨wB, hwB⟩ : ∃ wB : World, wB = wr := ⟨_, rfl⟩
    rw [← hwB] at GAk HBk ⊢
    clear hwB GA HB
    obtain ⟨s0, s1, _, _, _⟩ := soup_facts GAk.out
    by_cases hlt : k < 3 * T.length
    · have hki : (k : Int) < 3 * (T.length : Int) := by omega
      have HV := Lib.hid (refVertex_any N A c T k wB hT hlt ((HT.out.below HBk.out).more HBk.out.size))
      by_cases he : cv T k = x
      · have HR : Hid (Ending.returned (.int .i64 (k : Int)) = .returned (.int .i64 r)) := Lib.hid (by
          rw [← HRR.out]
          unfold cornerF
          rw [leastF_is (p := fun c => decide (cv T c = x)) (Nat.zero_le k) (by omega) (by simpa using he) (fun i _ hi => by simpa using HF.out i hi)]
          rfl)
        have hb : (cv T k == x) = true := by simp [he]
        clear he
        generalize cv T k = y at *
        go_wp2_with fail
        refine HV.out.mono ?_
        rintro e w1 ⟨rfl, hbb⟩
        have HB1 := Lib.hid (bw_call HBk.out hbb)
        clear hbb
        go_wp2_with fail
        go_ret
        exact ⟨HR.out, HB1.out⟩
      · have HF2 : Hid (∀ i, i < k + 1 → cv T i ≠ x) := Lib.hid (fun i hi => by
          by_cases h : i = k
          · rw [h]; exact he
          · exact HF.out i (by omega))
        have hb : (cv T k == x) = false := by simp [he]
        clear he
        generalize cv T k = y at HV hb
        go_wp2_with fail
        refine HV.out.mono ?_
        rintro e w1 ⟨rfl, hbb⟩
        have HB1 := Lib.hid (bw_call HBk.out hbb)
        have GA1 := Lib.hid (blk_call GAk.out hbb)
        clear hbb
        go_wp2_with fail
        exact ⟨⟨k + 1, by omega, by go_num, HF2, GA1, HB1⟩, by simp [intOf]; omega⟩
    · obtain rfl : k = 3 * T.length := by omega
      have HR : Hid (Ending.returned (.int .i64 (-1)) = .returned (.int .i64 r)) := Lib.hid (by
        rw [← HRR.out]
        unfold cornerF
        rw [leastF_no (p := fun c => decide (cv T c = x)) (fun i _ hi => by simpa using HF.out i (by omega))]
        rfl)
      go_wp2_with fail
      go_ret
      exact ⟨HR.out, HBk.out⟩
end Go.Proofs.Ytdmibpcpocacpaa
