/- SoupJoins, walked. No condition. -/
import Derived.Test.YtmmjonpkpeanpaaJoin8
import Derived.Test.YtmmjonpkpeanpaaRefJoin8
namespace Go.Proofs.Ytmmjonpkpeanpaa
open Go.RowKit

set_option linter.unusedSimpArgs false
set_option linter.unusedVariables false
attribute [local irreducible] Blk LRow World.alloc World.setCell World.cell? World.frozen?
theorem joinL_len (l : List Sp) (h : ∀ s ∈ l, s.T.length ≤ 40) (hl : l.length ≤ 6) : (joinL l).2.1.length ≤ 240 := by
  have h1 := joinS_len l 40 h l.length (Nat.le_refl _)
  rw [List.take_length] at h1
  unfold joinL
  split
  · simp
  · split
    · simp
    · simp only
      omega
set_option maxRecDepth 100000 in
set_option maxHeartbeats 8000000 in
theorem joinsLaw_any (A : Option Addr) (n c : Nat) (l : List Sp) (w : World) (ht : SoupsAt w w.heap.size A n l) :
    Calls Try.prog 5 #[.slice A n c] w (BoolPost w true) := by
  obtain rfl : l.length = n := ht.len
  have HT := Lib.hid ht
  clear ht
  go_enter Try.func5, Try.ntmps5
  go_wp2_with fail
  refine (awake_any _).mono ?_
  rintro e w1 ⟨rfl, hb⟩
  have HB1 := Lib.hid hb
  clear hb
  by_cases hm : 6 < l.length
  · have hm' : (6 : Int) < (l.length : Int) := by omega
    go_wp2_with fail
    go_ret
    exact ⟨rfl, HB1.out⟩
  have hm' : ¬ (6 : Int) < (l.length : Int) := by omega
  go_wp2_with fail
  go_loopw [3] (fun iv wr => ∃ k : Nat, k ≤ l.length ∧ iv = .int .i64 k ∧ Hid (∀ s ∈ l.take k, s.T.length ≤ 40) ∧ Hid (Below w.heap.size w wr)) (fun iv _ => l.length - (intOf iv).toNat)
  case atStart => exact ⟨0, by omega, rfl, Lib.hid (by simp), HB1⟩
  case round =>
    obtain ⟨k, hk, rfl, HG, HBK⟩ := hrel
    obtain ⟨w2, hw2⟩ : ∃ w2 : World, w2 = wr := ⟨_, rfl⟩
    rw [← hw2] at HBK ⊢
    clear hw2 HB1
    by_cases hlt : k < l.length
    · obtain ⟨ad, s, rfl, hs, hadb, hc2, hst⟩ := (HT.out.below HBK.out).at_ hlt
      have HS := Lib.hid hs
      obtain ⟨sN, sA, sc, sT⟩ := s
      obtain ⟨e0, e1, e2, e3⟩ := hc2
      simp only at e0 e1 e2 e3
      have hk0 : (0 : Int) ≤ (k : Int) := by omega
      have hk1 : (k : Int) < (l.length : Int) := by omega
      clear hs hst hadb
      go_wp2_with fail
      refine (great_any _ _ _ _ _).mono ?_
      rintro e w3 ⟨rfl, hb⟩
      have HB3 := Lib.hid (bw_call HBK.out hb)
      clear hb HBK e0 e1 e2 e3
      by_cases hg : 40 < sT.length
      · rw [decide_eq_true hg]
        go_wp2_with fail
        go_ret
        exact ⟨rfl, HB3.out⟩
      · rw [decide_eq_false hg]
        go_wp2_with fail
        exact ⟨⟨k + 1, by omega, by go_num, Lib.hid (by
          rw [take_snoc_S l k HS.out]
          intro s hs
          rcases List.mem_append.1 hs with hs | hs
          · exact HG.out s hs
          · obtain rfl := List.mem_singleton.1 hs
            simp only
            omega), HB3⟩, by simp [intOf]; omega⟩
    · obtain rfl : k = l.length := by omega
      rw [List.take_length] at HG
      have hjl := joinL_len l HG.out (by omega)
      have HC1 := Lib.hid (fun (W : World) (h : Below w.heap.size w W) => join_any A l.length c l W (by omega) (fun s hs => Nat.le_trans (HG.out s hs) (by omega)) ((HT.out.below h).more h.size))
      have HC2 := Lib.hid (fun (W : World) (h : Below w.heap.size w W) => refJoin_any A l.length c l W (by omega) (fun s hs => Nat.le_trans (HG.out s hs) (by omega)) ((HT.out.below h).more h.size))
      generalize joinL l = r at *
      obtain ⟨rn, rT, re⟩ := r
      simp only at hjl
      go_wp2_with fail
      refine (HC1.out _ HBK.out).mono ?_
      rintro e w3 ⟨A1, c1, rfl, hr, hb⟩
      simp only at hr
      have HX3 : Hid (LRow w3 0 A1 c1 rT) := Lib.hid (LRow.base hr (Nat.zero_le _))
      have HB3 := Lib.hid (bw_call HBK.out hb)
      clear hr hb HBK HC1
      obtain ⟨w4, hw4⟩ : ∃ w4, w4 = w3.alloc (.cells #[.int .i64 rn, .slice A1 rT.length c1] 24) := ⟨_, rfl⟩
      have XB4 : Hid (Blk w4 w3.heap.size 24 #[.int .i64 rn, .slice A1 rT.length c1]) := by subst hw4; exact Lib.hid (Blk.new _ _ _)
      have XR4 : Hid (LRow w4 0 A1 c1 rT) := by subst hw4; exact Lib.hid (HX3.out.alloc _)
      have HB4 : Hid (Below w.heap.size w w4) := by subst hw4; exact Lib.hid (bw_alloc HB3.out _)
      go_wp2_with fail
      rw [← hw4]
      generalize w3.heap.size = g1 at *
      clear hw4 HX3 HB3
      refine (HC2.out _ HB4.out).mono ?_
      rintro e w5 ⟨A2, c2, rfl, hr, hb⟩
      simp only at hr
      have YR5 : Hid (LRow w5 0 A2 c2 rT) := Lib.hid (LRow.base hr (Nat.zero_le _))
      have XB5 := Lib.hid (blk_call XB4.out hb)
      have XR5 := Lib.hid (XR4.out.below hb)
      have HB5 := Lib.hid (bw_call HB4.out hb)
      clear hr hb XB4 XR4 HB4 HC2
      obtain ⟨w6, hw6⟩ : ∃ W, W = w5.alloc (.cells #[.int .i64 rn, .slice A2 rT.length c2] 24) := ⟨_, rfl⟩
      have YB6 : Hid (Blk w6 w5.heap.size 24 #[.int .i64 rn, .slice A2 rT.length c2]) := by subst hw6; exact Lib.hid (Blk.new _ _ _)
      have XB6 : Hid (Blk w6 g1 24 #[.int .i64 rn, .slice A1 rT.length c1]) := by subst hw6; exact Lib.hid (XB5.out.alloc _)
      have XR6 : Hid (LRow w6 0 A1 c1 rT) := by subst hw6; exact Lib.hid (XR5.out.alloc _)
      have YR6 : Hid (LRow w6 0 A2 c2 rT) := by subst hw6; exact Lib.hid (YR5.out.alloc _)
      have HB6 : Hid (Below w.heap.size w w6) := by subst hw6; exact Lib.hid (bw_alloc HB5.out _)
      have FX : w6.cell? ⟨g1, 0, none⟩ = some (.int .i64 rn) ∧ w6.cell? ⟨g1, 1, none⟩ = some (.slice A1 rT.length c1) ∧ w6.cell? ⟨w5.heap.size, 0, none⟩ = some (.int .i64 rn) ∧ w6.cell? ⟨w5.heap.size, 1, none⟩ = some (.slice A2 rT.length c2) := ⟨(soup_facts XB6.out).1, (soup_facts XB6.out).2.1, (soup_facts YB6.out).1, (soup_facts YB6.out).2.1⟩
      rw [hw6] at FX
      obtain ⟨x0, x1, y0, y1⟩ := FX
      go_wp2_with fail
      rw [← hw6]
      refine (refSame_any rn rT A1 A2 rT.length c1 c2 w6 (by omega) XR6.out.tris YR6.out.tris).mono ?_
      rintro e w7 ⟨rfl, hb⟩
      have HB7 := Lib.hid (bw_call HB6.out hb)
      clear hb
      go_wp2_with fail
      go_ret
      exact ⟨rfl, HB7.out⟩
end Go.Proofs.Ytmmjonpkpeanpaa
