/- soup.fits and soup.Fits, walked. No condition. -/
import Derived.Test.YtcahbcminonfbaaSoup8
namespace Go.Proofs.Ytcahbcminonfbaa
open Go.RowKit

theorem take_snoc_T (T : List Tri) (k : Nat) {t : Tri} (h : T[k]? = some t) : T.take (k + 1) = T.take k ++ [t] := by
  rw [List.take_add_one, h]
  rfl
theorem ret_bool {a b : Bool} (h : a = b) : Ending.returned (.bool a) = .returned (.bool b) := by rw [h]
set_option maxRecDepth 100000 in
set_option maxHeartbeats 4000000 in
theorem fits1_any (t : Tri) (N : Int) (w : World) : Calls Try.prog 68 #[.agg #[.int .i64 t.a, .int .i64 t.b, .int .i64 t.c], .int .i64 N] w (BoolPost w (fitT N t)) := by
  obtain ⟨a, b, c⟩ := t
  go_enter Try.func68, Try.ntmps68
  go_wp2_with fail
  obtain ⟨V, hV⟩ : ∃ V, V = w.alloc (.cells #[.int .i64 a, .int .i64 b, .int .i64 c] 78) := ⟨_, rfl⟩
  have HX : Hid (Blk V w.heap.size 78 #[.int .i64 a, .int .i64 b, .int .i64 c]) := by subst hV; exact Lib.hid (Blk.new _ _ _)
  have HB : Hid (Below w.heap.size w V) := by subst hV; exact Lib.hid ((Below.refl _ _).alloc (Nat.le_refl _) _)
  rw [← hV]
  clear hV
  have e0 : ∀ w, (Instr.index 78 (.agg #[.int .i64 a, .int .i64 b, .int .i64 c]) (.int .i64 0)).run Try.prog w = .ok (.int .i64 a) w := fun _ => by kernel_rfl
  have e1 : ∀ w, (Instr.index 78 (.agg #[.int .i64 a, .int .i64 b, .int .i64 c]) (.int .i64 1)).run Try.prog w = .ok (.int .i64 b) w := fun _ => by kernel_rfl
  have e2 : ∀ w, (Instr.index 78 (.agg #[.int .i64 a, .int .i64 b, .int .i64 c]) (.int .i64 2)).run Try.prog w = .ok (.int .i64 c) w := fun _ => by kernel_rfl
  go_loopw [8] (fun iv wr => ∃ q : Nat, q ≤ 3 ∧ iv = .int .i64 q ∧ Hid ((0 < q → 0 ≤ a ∧ a < N) ∧ (1 < q → 0 ≤ b ∧ b < N) ∧ (2 < q → 0 ≤ c ∧ c < N)) ∧ wr = V) (fun iv _ => 3 - (intOf iv).toNat)
  case atStart => exact ⟨0, by omega, rfl, Lib.hid ⟨fun h => absurd h (by omega), fun h => absurd h (by omega), fun h => absurd h (by omega)⟩, rfl⟩
  case round =>
    obtain ⟨q, hq, hkv, HQ, rfl⟩ := hrel
    rcases (by omega : q = 0 ∨ q = 1 ∨ q = 2 ∨ q = 3) with rfl | rfl | rfl | rfl
    · have hkv' : _ = Value.int .i64 0 := hkv
      subst hkv'
      clear hkv
      by_cases h0 : a < 0
      · go_wp2_with fail
        go_ret
        refine ⟨ret_bool (Eq.symm ?_), HB.out⟩
        cases h : fitT N ⟨a, b, c⟩ with
        | false => rfl
        | true => have := (fitT_iff.1 h).1; simp only at this; omega
      · by_cases h1 : N ≤ a
        · go_wp2_with fail
          go_ret
          refine ⟨ret_bool (Eq.symm ?_), HB.out⟩
          cases h : fitT N ⟨a, b, c⟩ with
          | false => rfl
          | true => have := (fitT_iff.1 h).1; simp only at this; omega
        · go_wp2_with fail
          refine ⟨⟨1, by omega, by go_num, Lib.hid ?_, by first | rfl | trivial⟩, by simp [intOf]⟩
          have := HQ.out
          omega
    · have hkv' : _ = Value.int .i64 1 := hkv
      subst hkv'
      clear hkv
      by_cases h0 : b < 0
      · go_wp2_with fail
        go_ret
        refine ⟨ret_bool (Eq.symm ?_), HB.out⟩
        cases h : fitT N ⟨a, b, c⟩ with
        | false => rfl
        | true => have := (fitT_iff.1 h).1; simp only at this; omega
      · by_cases h1 : N ≤ b
        · go_wp2_with fail
          go_ret
          refine ⟨ret_bool (Eq.symm ?_), HB.out⟩
          cases h : fitT N ⟨a, b, c⟩ with
          | false => rfl
          | true => have := (fitT_iff.1 h).1; simp only at this; omega
        · go_wp2_with fail
          refine ⟨⟨2, by omega, by go_num, Lib.hid ?_, by first | rfl | trivial⟩, by simp [intOf]⟩
          have := HQ.out
          omega
    · have hkv' : _ = Value.int .i64 2 := hkv
      subst hkv'
      clear hkv
      by_cases h0 : c < 0
      · go_wp2_with fail
        go_ret
        refine ⟨ret_bool (Eq.symm ?_), HB.out⟩
        cases h : fitT N ⟨a, b, c⟩ with
        | false => rfl
        | true => have := (fitT_iff.1 h).1; simp only at this; omega
      · by_cases h1 : N ≤ c
        · go_wp2_with fail
          go_ret
          refine ⟨ret_bool (Eq.symm ?_), HB.out⟩
          cases h : fitT N ⟨a, b, c⟩ with
          | false => rfl
          | true => have := (fitT_iff.1 h).1; simp only at this; omega
        · go_wp2_with fail
          refine ⟨⟨3, by omega, by go_num, Lib.hid ?_, by first | rfl | trivial⟩, by simp [intOf]⟩
          have := HQ.out
          omega
    · have hkv' : _ = Value.int .i64 3 := hkv
      subst hkv'
      clear hkv
      have x0 := HX.out.cell 0
      have x1 := HX.out.cell 1
      have x2 := HX.out.cell 2
      simp at x0 x1 x2
      have hR := HQ.out
      go_wp2_with fail
      all_goals
        go_ret
        refine ⟨ret_bool ?_, HB.out⟩
        rw [Bool.eq_iff_iff, fitT_iff]
        have := HQ.out
        clear e0 e1 e2 HB HX HQ x0 x1 x2
        simp [*]
set_option maxHeartbeats 2000000 in
theorem fitsNot_any (t : Tri) (N : Int) (S : Value) (g : Nat) (w : World) (hg : Blk w g 24 #[.int .i64 N, S]) :
    Calls Try.prog 67 #[.agg #[.int .i64 t.a, .int .i64 t.b, .int .i64 t.c], .pointer (some ⟨g, 0, none⟩)] w (BoolPost w (!(fitT N t))) := by
  obtain ⟨V, hV⟩ : ∃ V, V = w.alloc (.cells #[.int .i64 t.a, .int .i64 t.b, .int .i64 t.c] 78) := ⟨_, rfl⟩
  have HG : Hid (Blk V g 24 #[.int .i64 N, S]) := by subst hV; exact Lib.hid (hg.alloc _)
  have HV : Hid (Below w.heap.size w V) := by subst hV; exact Lib.hid ((Below.refl _ _).alloc (Nat.le_refl _) _)
  have x0 : V.cell? ⟨w.heap.size, 0, none⟩ = some (.int .i64 t.a) := by subst hV; exact (Blk.new w 78 #[.int .i64 t.a, .int .i64 t.b, .int .i64 t.c]).cell 0
  have x1 : V.cell? ⟨w.heap.size, 1, none⟩ = some (.int .i64 t.b) := by subst hV; exact (Blk.new w 78 #[.int .i64 t.a, .int .i64 t.b, .int .i64 t.c]).cell 1
  have x2 : V.cell? ⟨w.heap.size, 2, none⟩ = some (.int .i64 t.c) := by subst hV; exact (Blk.new w 78 #[.int .i64 t.a, .int .i64 t.b, .int .i64 t.c]).cell 2
  have c0 := HG.out.cell 0
  simp at c0
  clear hg
  have HF := Lib.hid fun w => fits1_any t N w
  generalize fitT N t = b at *
  go_enter Try.func67, Try.ntmps67
  subst hV
  go_wp2_with fail
  refine (HF.out _).mono ?_
  rintro e w1 ⟨rfl, hb⟩
  have HB1 := Lib.hid (HV.out.trans (hb.mono HV.out.size))
  cases b with
  | true =>
    go_wp2_with fail
    go_ret
    exact ⟨rfl, HB1.out⟩
  | false =>
    go_wp2_with fail
    go_ret
    exact ⟨rfl, HB1.out⟩
/-- The first triangle that does not fit; -1: all do. -/
def misfit (N : Int) (T : List Tri) : Int := match T.findIdx? (fun t => !(fitT N t)) with
  | some i => (i : Int)
  | none => -1
set_option maxRecDepth 100000 in
set_option maxHeartbeats 4000000 in
theorem indexFunc_any (A : Option Addr) (n c : Nat) (T : List Tri) (N : Int) (S : Value) (g : Nat) (w : World) (hn : n ≤ 10000) (ht : TrisAt w w.heap.size A n T) (hg : Blk w g 24 #[.int .i64 N, S]) :
    Calls Try.prog 90 #[.slice A n c, .func (.func 67) #[] #[.pointer (some ⟨g, 0, none⟩)]] w (fun e w' => (∃ i : Int, e = .returned (.int .i64 i) ∧ ((decide (0 ≤ i)) = !(T.all (fitT N)))) ∧ Below w.heap.size w w') := by
  obtain rfl : n = T.length := ht.len.symm
  have HT := Lib.hid ht
  have HG := Lib.hid hg
  clear ht hg
  go_enter Try.func90, Try.ntmps90
  go_wp2_with fail
  go_loopw [8] (fun iv wr => ∃ k : Nat, k ≤ T.length ∧ iv = .int .i64 k ∧ Hid ((T.take k).all (fitT N) = true) ∧ Hid (Below w.heap.size w wr)) (fun iv _ => T.length - (intOf iv).toNat)
  case atStart => exact ⟨0, by omega, rfl, Lib.hid (by simp), Lib.hid (Below.refl _ _)⟩
  case round =>
    obtain ⟨k, hk, rfl, HA, HB⟩ := hrel
    by_cases hlt : k < T.length
    · obtain ⟨ad, t, rfl, htk, _, hadb, hc3⟩ := ((HT.out.below HB.out).more HB.out.size).at_ hlt
      obtain ⟨d0, d1, d2, d3, d4, d5⟩ := hc3
      have hk0 : (0 : Int) ≤ (k : Int) := by omega
      have hk1 : (k : Int) < (T.length : Int) := by omega
      have HTK := Lib.hid htk
      have HF := Lib.hid (fitsNot_any t N S g wr (HG.out.below HB.out HG.out.lt))
      clear htk
      go_wp2_with fail
      refine HF.out.mono ?_
      rintro e w1 ⟨rfl, hb⟩
      have HB1 := Lib.hid (HB.out.trans (hb.mono HB.out.size))
      cases h : fitT N t with
      | false =>
        have hne : T.all (fitT N) = false := by
          cases e : T.all (fitT N) with
          | false => rfl
          | true =>
            have := (List.all_eq_true.1 e) t (List.mem_of_getElem? HTK.out)
            rw [h] at this
            cases this
        go_wp2_with fail
        go_ret
        exact ⟨⟨k, rfl, by rw [hne]; simp⟩, HB1.out⟩
      | true =>
        go_wp2_with fail
        refine ⟨⟨k + 1, by omega, by go_num, Lib.hid ?_, HB1⟩, by simp [intOf]; omega⟩
        rw [take_snoc_T T k HTK.out, List.all_append, HA.out]
        simp [h]
    · obtain rfl : k = T.length := by omega
      have hall := HA.out
      rw [List.take_length] at hall
      go_wp2_with fail
      go_ret
      exact ⟨⟨-1, rfl, by rw [hall]; rfl⟩, HB.out⟩
set_option maxHeartbeats 2000000 in
theorem containsFunc_any (A : Option Addr) (n c : Nat) (T : List Tri) (N : Int) (S : Value) (g : Nat) (w : World) (hn : n ≤ 10000) (ht : TrisAt w w.heap.size A n T) (hg : Blk w g 24 #[.int .i64 N, S]) :
    Calls Try.prog 66 #[.slice A n c, .func (.func 67) #[] #[.pointer (some ⟨g, 0, none⟩)]] w (BoolPost w (!(T.all (fitT N)))) := by
  have HI := Lib.hid (indexFunc_any A n c T N S g w hn ht hg)
  clear ht hg
  generalize T.all (fitT N) = b at *
  go_enter Try.func66, Try.ntmps66
  go_wp2_with fail
  refine HI.out.mono ?_
  rintro e w1 ⟨⟨i, rfl, hi⟩, hb⟩
  by_cases h : 0 ≤ i
  · go_wp2_with fail
    go_ret
    refine ⟨ret_bool ?_, hb⟩
    rw [← hi]
    first | done | simp [h]
  · go_wp2_with fail
    go_ret
    refine ⟨ret_bool ?_, hb⟩
    rw [← hi]
    first | done | simp [h]
set_option maxRecDepth 100000 in
set_option maxHeartbeats 4000000 in
/-- Does a soup fit? -/
theorem fits_any (N : Int) (A : Option Addr) (n c : Nat) (T : List Tri) (w : World) (hn : n ≤ 8192) (ht : TrisAt w w.heap.size A n T) :
    Calls Try.prog 43 #[.agg #[.int .i64 N, .slice A n c]] w (BoolPost w (fitL N T)) := by
  have HT := Lib.hid ht
  clear ht
  go_enter Try.func43, Try.ntmps43
  obtain ⟨V, hV⟩ : ∃ V, V = w.alloc (.cells #[.int .i64 N, .slice A n c] 24) := ⟨_, rfl⟩
  have HX : Hid (Blk V w.heap.size 24 #[.int .i64 N, .slice A n c]) := by subst hV; exact Lib.hid (Blk.new _ _ _)
  have HB : Hid (Below w.heap.size w V) := by subst hV; exact Lib.hid ((Below.refl _ _).alloc (Nat.le_refl _) _)
  have hn2 : ¬ (8192 : Int) < (n : Int) := by omega
  by_cases h0 : N < 0
  · go_wp2_with fail
    go_ret
    refine ⟨ret_bool ?_, by rw [← hV]; exact HB.out⟩
    unfold fitL
    rw [show decide (0 ≤ N) = false by simp; omega]
    rfl
  by_cases h1 : 4096 < N
  · go_wp2_with fail
    go_ret
    refine ⟨ret_bool ?_, by rw [← hV]; exact HB.out⟩
    unfold fitL
    rw [show decide (N ≤ 4096) = false by simp; omega]
    simp
  have hfl : fitL N T = T.all (fitT N) := by
    unfold fitL
    rw [show decide (N ≤ 4096) = true by simp; omega, show decide (0 ≤ N) = true by simp; omega]
    rfl
  rw [hfl]
  have HC := Lib.hid (containsFunc_any A n c T N _ w.heap.size V (by omega) ((HT.out.below HB.out).more HB.out.size) HX.out)
  clear hfl
  generalize T.all (fitT N) = b at *
  go_wp2_with fail
  rw [← hV]
  refine HC.out.mono ?_
  rintro e w1 ⟨rfl, hb⟩
  have HB1 := Lib.hid (HB.out.trans (hb.mono HB.out.size))
  cases b with
  | true =>
    go_wp2_with fail
    go_ret
    exact ⟨rfl, HB1.out⟩
  | false =>
    go_wp2_with fail
    go_ret
    exact ⟨rfl, HB1.out⟩
end Go.Proofs.Ytcahbcminonfbaa
