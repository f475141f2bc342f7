/- CertifyLonely, walked. No condition. -/
import Derived.Test.YtnnbcflpbpafeaaWake9
import Derived.Test.YtnnbcflpbpafeaaLonelyLaw
namespace Go.Proofs.Ytnnbcflpbpafeaa
open Go.RowKit

theorem below_drewN {B : Nat} {a w : World} (h : Below B a w) (n : Nat) : Below B a (w.drewN n) := ⟨h.os, h.tape, h.output, h.size, h.block⟩
theorem great_ex {N : Int} {A : Option Addr} {n c : Nat} {w : World} (b : Bool) (h : (decide (40 < n) || decide (40 < N)) = b) : Calls Try.prog 12 #[.agg #[.int .i64 N, .slice A n c]] w fun e w' => e = .returned (.bool b) ∧ Below w.heap.size w w' := by
  subst h
  exact great_any N A n c w

set_option maxRecDepth 100000 in
set_option maxHeartbeats 4000000 in
theorem lonelyLaw_any (N : Int) (A : Option Addr) (n c : Nat) (T : List Tri) (w : World) (ht : TrisAt w w.heap.size A n T) :
    Calls Try.prog 8 #[.agg #[.int .i64 N, .slice A n c]] w (TrueB w) := by
  have hb0 : Below w.heap.size w (w.alloc (.cells #[.int .i64 N, .slice A n c] 24)) := (Below.refl _ _).alloc (Nat.le_refl _) _
  have HX : Hid (Blk (w.alloc (.cells #[.int .i64 N, .slice A n c] 24)) w.heap.size 24 #[.int .i64 N, .slice A n c]) := Lib.hid (Blk.new _ _ _)
  have HT := Lib.hid ht
  have HB0 := Lib.hid hb0
  clear ht hb0
  go_enter Try.func8, Try.ntmps8
  go_wp2_with fail
  refine (awake_any _).mono ?_
  rintro e w1 ⟨rfl, hb⟩
  have HX1 := Lib.hid (HX.out.below hb (by simp))
  have HB1 := Lib.hid (HB0.out.trans (hb.mono HB0.out.size))
  clear hb HX HB0
  have c0 := HX1.out.cell 0
  have c1 := HX1.out.cell 1
  simp at c0 c1
  have hl1 := HX1.out.lt
  by_cases hg : (decide (40 < n) || decide (40 < N)) = true
  · go_wp2_with fail
    refine (great_ex true hg).mono ?_
    rintro e w2 ⟨rfl, hb⟩
    have HB2 := Lib.hid (HB1.out.trans (hb.mono HB1.out.size))
    clear hb HX1 HB1 c0 c1
    go_wp2_with fail
    refine (awake_any _).mono ?_
    rintro e w3 ⟨rfl, hb⟩
    have HB3 := Lib.hid (HB2.out.trans (hb.mono HB2.out.size))
    clear hb
    go_wp2_with fail
    go_ret
    exact ⟨rfl, HB3.out⟩
  · have hgf : (decide (40 < n) || decide (40 < N)) = false := by cases h : (decide (40 < n) || decide (40 < N)) with | true => exact absurd h hg | false => rfl
    have hn40 : n ≤ 40 := by simp at hg; omega
    have hN40 : N ≤ 40 := by simp at hg; omega
    clear hg
    go_wp2_with fail
    refine (great_ex false hgf).mono ?_
    rintro e w2 ⟨rfl, hb⟩
    have HX2 := Lib.hid (HX1.out.below hb hl1)
    have HB2 := Lib.hid (HB1.out.trans (hb.mono HB1.out.size))
    clear hb HX1 HB1 c0 c1 hgf
    have c0 := HX2.out.cell 0
    have c1 := HX2.out.cell 1
    simp at c0 c1
    have hl2 := HX2.out.lt
    by_cases hs : checkR N T = (0, 0, 0)
    · go_wp2_with fail
      refine (is_true (by omega) ((HT.out.below HB2.out).more HB2.out.size) hs).mono ?_
      rintro e w3 ⟨rfl, hb⟩
      have HX3 := Lib.hid (HX2.out.below hb hl2)
      have HB3 := Lib.hid (HB2.out.trans (hb.mono HB2.out.size))
      have HSF := Lib.hid ((check_is N T).1 hs)
      clear hb HX2 HB2 c0 c1 hs
      have c0 := HX3.out.cell 0
      have c1 := HX3.out.cell 1
      simp at c0 c1
      have hl3 := HX3.out.lt
      go_wp2_with fail
      refine (own_any N A n c T w3 (by omega) ((HT.out.below HB3.out).more HB3.out.size)).mono ?_
      rintro e w4 ⟨A4, c4, rfl, ho, hb⟩
      have HX4 := Lib.hid (HX3.out.below hb hl3)
      have HB4 := Lib.hid (HB3.out.trans (hb.mono HB3.out.size))
      have HO := Lib.hid ho
      obtain ⟨m, hsf⟩ := surf_of HSF.out
      have hNm : N = (m : Int) := hsf.n
      have hNw : -100 ≤ N := by omega
      have HLL := Lib.hid (lonely_law hsf (by omega))
      clear hb HX3 HB3 c0 c1 ho hsf hNm
      go_wp2_with fail
      have hbx : Below w4.heap.size w4 (w4.alloc (.cells #[.int .i64 (N + 1), .slice A4 T.length c4] 24)) := (Below.refl _ _).alloc (Nat.le_refl _) _
      have htr : TrisAt (w4.alloc (.cells #[.int .i64 (N + 1), .slice A4 T.length c4] 24)) (w4.alloc (.cells #[.int .i64 (N + 1), .slice A4 T.length c4] 24)).heap.size A4 T.length T := ((TrisAt.mk_ (Reads.of_own HO.out)).below hbx).more hbx.size
      have HX5 := Lib.hid (HX4.out.below hbx HX4.out.lt)
      have HB5 := Lib.hid (HB4.out.trans (hbx.mono HB4.out.size))
      have hlen : T.length ≤ 1000 := by rw [HT.out.len]; omega
      have hall := all_any (N + 1) A4 T.length c4 T _ hlen htr
      rw [allL_ref, HLL.out] at hall
      have HALL := Lib.hid hall
      clear hall htr hbx hlen HX4 HB4
      refine HALL.out.mono ?_
      rintro e w5 ⟨A5, c5, rfl, hr, hb⟩
      have hx6 := HX5.out.below hb HX5.out.lt
      have c0 := hx6.cell 0
      simp at c0
      have HB6 := Lib.hid (HB5.out.trans (hb.mono HB5.out.size))
      obtain ⟨ad, eA, hadb, hcs⟩ := (Reads.of_own hr).2 (by simp)
      subst eA
      have d0 := hcs 0 _ rfl
      have d1 := hcs 1 _ rfl
      have d2 := hcs 2 _ rfl
      rw [add_zero_] at d0
      obtain ⟨e0, e1, e2, e3, e4, e5⟩ := cells3 d0 d1 d2
      have e0' : w5.cell? (ad.add 0) = some (.int .i64 5) := by rw [add_zero_]; exact e0
      have heq : ∀ w, (binOp .eql 34 (.agg #[.int .i64 5, .int .i64 N, .int .i64 0]) (.agg #[.int .i64 5, .int .i64 N, .int .i64 0])).run Try.prog w = .ok (.bool true) w := fun w => by
        have := run_eq_wit (5, N, 0) (5, N, 0) w
        rw [decide_eq_true rfl] at this
        exact this
      rw [show ([((5 : Int), N, (0 : Int))] : List (Int × Int × Int)).length = 1 from rfl]
      simp only at e0 e1 e2 e3 e4 e5
      clear hb hx6 hr hcs d0 d1 d2 HALL HB5
      go_wp2_with fail
      go_quiet (fail)
      go_wp2_with fail
      go_ret
      exact ⟨rfl, below_drewN HB6.out _⟩
    · go_wp2_with fail
      refine (is_false (by omega) ((HT.out.below HB2.out).more HB2.out.size) hs).mono ?_
      rintro e w3 ⟨rfl, hb⟩
      have HB3 := Lib.hid (HB2.out.trans (hb.mono HB2.out.size))
      clear hb HX2 HB2 c0 c1 hs
      go_wp2_with fail
      refine (awake_any _).mono ?_
      rintro e w4 ⟨rfl, hb⟩
      have HB4 := Lib.hid (HB3.out.trans (hb.mono HB3.out.size))
      clear hb
      go_wp2_with fail
      go_ret
      exact ⟨rfl, HB4.out⟩
end Go.Proofs.Ytnnbcflpbpafeaa
