/- The small functions of what is told of a vertex, walked. No condition but sizes. -/
import Derived.Test.YtcpfolojfdnojaaPtA
import Derived.Test.YtcpfolojfdnojaaCornerB
import Derived.Test.YtcpfolojfdnojaaZl
namespace Go.Proofs.Ytcpfolojfdnojaa
open Go.RowKit

set_option linter.unusedSimpArgs false
set_option linter.unusedVariables false
theorem cut_any (x : Int) (w : World) : Calls Try.prog 30 #[.int .i64 x] w (IsPost w (.int .i64 (cutI x))) := by
  rw [← cut_minmax]
  go_enter Try.func30, Try.ntmps30
  go_wp2_with fail
  go_ret
  exact ⟨rfl, rfl⟩
theorem refCut_any (x : Int) (w : World) : Calls Try.prog 32 #[.int .i64 x] w (IsPost w (.int .i64 (cutI x))) := by
  unfold cutI
  by_cases h1 : 1048576 < x
  · rw [if_pos h1]
    go_enter Try.func32, Try.ntmps32
    go_wp2_with fail
    go_ret
    exact ⟨rfl, rfl⟩
  rw [if_neg h1]
  by_cases h2 : x < -1048576
  · rw [if_pos h2]
    go_enter Try.func32, Try.ntmps32
    go_wp2_with fail
    go_ret
    exact ⟨rfl, rfl⟩
  rw [if_neg h2]
  go_enter Try.func32, Try.ntmps32
  go_wp2_with fail
  go_ret
  exact ⟨rfl, rfl⟩
theorem refHas_any (A : Option Addr) (n c : Nat) (v : Int) (w : World) (hn : n ≤ 1000000) : Calls Try.prog 31 #[.slice A n c, .int .i64 v] w (IsPost w (.bool (decide (hasP n v)))) := by
  by_cases h0 : v < 0
  · rw [decide_eq_false (fun h => by have := h.1; omega)]
    go_enter Try.func31, Try.ntmps31
    go_wp2_with fail
    go_ret
    exact ⟨rfl, rfl⟩
  have h0' : 0 ≤ v := by omega
  by_cases h1 : v < (n : Int)
  · rw [decide_eq_true (show hasP n v from ⟨h0', h1⟩)]
    go_enter Try.func31, Try.ntmps31
    go_wp2_with fail
    go_ret
    exact ⟨rfl, rfl⟩
  · rw [decide_eq_false (fun h => h1 h.2)]
    go_enter Try.func31, Try.ntmps31
    go_wp2_with fail
    go_ret
    exact ⟨rfl, rfl⟩
set_option maxRecDepth 100000 in
set_option maxHeartbeats 2000000 in
/-- Are all of these points' numbers? -/
theorem ptIs_any (gp : Nat) (Ap : Option Addr) (np cp : Nat) (Al : Option Addr) (m cl : Nat) (l : List Int) (w : World) (hm : m ≤ 1000) (hg : Blk w gp 34 #[.slice Ap np cp]) (hl : Reads w w.heap.size 1 Al m (ZL l)) :
    Calls Try.prog 28 #[.slice Al m cl, .pointer (some ⟨gp, 0, none⟩)] w (IsPost w (.bool (decide (∀ v ∈ l, hasP np v)))) := by
  have hlm : l.length = m := by have := hl.1; simpa [ZL] using this
  have HLM := Lib.hid hlm
  have HL := Lib.hid hl
  have HG := Lib.hid hg
  clear hlm hl hg
  obtain ⟨r, HR⟩ : ∃ r, Hid (decide (∀ v ∈ l, hasP np v) = r) := ⟨_, Lib.hid rfl⟩
  rw [HR.out]
  go_enter Try.func28, Try.ntmps28
  go_wp2_with fail
  go_loopw [8] (fun iv wr => ∃ k : Nat, k ≤ m ∧ iv = .int .i64 k ∧ Hid (∀ v ∈ l.take k, hasP np v) ∧ wr = w) (fun iv _ => m - (intOf iv).toNat)
  case atStart => exact ⟨0, by omega, rfl, Lib.hid (fun v hv => by simp at hv), rfl⟩
  case round =>
    obtain ⟨k, hk, rfl, HK, hw⟩ := hrel
    obtain ⟨wB, hwB⟩ : ∃ wB : World, wB = wr := ⟨_, rfl⟩
    rw [← hwB] at hw ⊢
    clear hwB
    subst hw
    have g0 := HG.out.cell 0
    simp at g0
    by_cases hlt : k < m
    · obtain ⟨ad, x, rfl, _, hx, hc⟩ := zl_read HL.out hlt
      have hki : (k : Int) < (m : Int) := by omega
      have HX := Lib.hid hx
      clear hx
      by_cases h0 : x < 0
      · have HNO : Hid (decide (∀ v ∈ l, hasP np v) = false) := Lib.hid (decide_eq_false fun h => by have := (h x (List.mem_of_getElem? HX.out)).1; omega)
        go_wp2_with fail
        go_ret
        exact ⟨by rw [← HR.out, HNO.out]; rfl, rfl⟩
      by_cases h1 : (np : Int) ≤ x
      · have HNO : Hid (decide (∀ v ∈ l, hasP np v) = false) := Lib.hid (decide_eq_false fun h => by have := (h x (List.mem_of_getElem? HX.out)).2; omega)
        go_wp2_with fail
        go_ret
        exact ⟨by rw [← HR.out, HNO.out]; rfl, rfl⟩
      have HK2 : Hid (∀ v ∈ l.take (k + 1), hasP np v) := Lib.hid (fun v hv => by
        rw [List.take_add_one, HX.out] at hv
        rcases List.mem_append.1 hv with hv | hv
        · exact HK.out v hv
        · simp at hv
          subst hv
          exact ⟨by omega, by omega⟩)
      go_wp2_with fail
      exact ⟨⟨k + 1, by omega, by go_num, HK2, by trivial⟩, by simp [intOf]; omega⟩
    · obtain rfl : k = m := by omega
      have HYES : Hid (decide (∀ v ∈ l, hasP np v) = true) := Lib.hid (decide_eq_true fun v hv => HK.out v (by rw [← HLM.out, List.take_length]; exact hv))
      go_wp2_with fail
      go_ret
      exact ⟨by rw [← HR.out, HYES.out]; rfl, rfl⟩
set_option maxRecDepth 100000 in
set_option maxHeartbeats 2000000 in
/-- A point's coordinate, cut. -/
theorem ptAt_any (gp : Nat) (Ap : Option Addr) (np cp : Nat) (P : List Tri) (v : Int) (i : Nat) (B : Nat) (w : World) (hn : np ≤ 10000) (hi : i < 3) (hv : hasP np v) (hg : Blk w gp 34 #[.slice Ap np cp]) (hp : TrisAt w B Ap np P) :
    Calls Try.prog 29 #[.int .i64 v, .int .i64 i, .pointer (some ⟨gp, 0, none⟩)] w (IsPost w (.int .i64 (pc P v i))) := by
  obtain ⟨k, rfl⟩ := Int.eq_ofNat_of_zero_le hv.1
  have hk : k < np := by have := hv.2; omega
  obtain ⟨ad, t, rfl, htt, _, _, hc3⟩ := hp.at_ hk
  obtain ⟨d0, d1, d2, d3, d4, d5⟩ := hc3
  have HPC : Hid (pc P (k : Int) i = cutI (cornerT t i)) := Lib.hid (by unfold pc; rw [Int.toNat_natCast, tri_of htt])
  rw [HPC.out]
  have g0 := hg.cell 0
  simp at g0
  have hki : (k : Int) < (np : Int) := by omega
  clear hp hv htt hg
  rcases (by omega : i = 0 ∨ i = 1 ∨ i = 2) with rfl | rfl | rfl
  · rw [show cornerT t 0 = t.a from rfl]
    rw [show ((0 : Nat) : Int) = 0 from rfl]
    go_enter Try.func29, Try.ntmps29
    go_wp2_with fail
    refine (cut_any t.a w).mono ?_
    rintro e w1 ⟨rfl, rfl⟩
    go_wp2_with fail
    go_ret
    exact ⟨rfl, rfl⟩
  · rw [show cornerT t 1 = t.b from rfl]
    rw [show ((1 : Nat) : Int) = 1 from rfl]
    go_enter Try.func29, Try.ntmps29
    go_wp2_with fail
    refine (cut_any t.b w).mono ?_
    rintro e w1 ⟨rfl, rfl⟩
    go_wp2_with fail
    go_ret
    exact ⟨rfl, rfl⟩
  · rw [show cornerT t 2 = t.c from rfl]
    rw [show ((2 : Nat) : Int) = 2 from rfl]
    go_enter Try.func29, Try.ntmps29
    go_wp2_with fail
    refine (cut_any t.c w).mono ?_
    rintro e w1 ⟨rfl, rfl⟩
    go_wp2_with fail
    go_ret
    exact ⟨rfl, rfl⟩
end Go.Proofs.Ytcpfolojfdnojaa
