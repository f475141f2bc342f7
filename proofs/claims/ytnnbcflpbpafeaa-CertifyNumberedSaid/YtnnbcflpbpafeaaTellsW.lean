/- CertifyTells, walked. No condition. -/
import Derived.Test.YtnnbcflpbpafeaaRef9e
import Derived.Test.YtnnbcflpbpafeaaSame9
import Derived.Test.YtnnbcflpbpafeaaSlEqual
import Derived.Test.YtnnbcflpbpafeaaWake9
import Derived.Test.YtnnbcflpbpafeaaLonelyLaw
namespace Go.Proofs.Ytnnbcflpbpafeaa
open Go.RowKit

/-- A witness as three numbers in a row. -/
def asTri (x : Int × Int × Int) : Tri := ⟨x.1, x.2.1, x.2.2⟩
theorem asTri_cells (L : List (Int × Int × Int)) : (L.map asTri).flatMap Tri.cells = L.flatMap w3 := by
  rw [List.flatMap_map]
  rfl
theorem wits_at {w : World} {B : Nat} {t : TypeId} {A : Option Addr} {c : Nat} {L : List (Int × Int × Int)} (h : w.ownsRow B t 3 (.slice A L.length c) L.length (L.flatMap w3)) : TrisAt w w.heap.size A L.length (L.map asTri) := by
  rw [← asTri_cells] at h
  exact TrisAt.mk_ (Reads.of_own h)
theorem row_len {w : World} {B : Nat} {t : TypeId} {A : Option Addr} {c n size : Nat} {xs : List Value} (h : w.ownsRow B t size (.slice A n c) n xs) : n ≤ maxLen := by
  rcases h.2 with ⟨_, h0⟩ | ⟨g, cap, cur, _, _, _, h1, h2, _, _⟩
  · omega
  · omega

theorem of6 {A B C D E F : Prop} (h : A ∧ B ∧ C ∧ D ∧ E ∧ F) : F := h.2.2.2.2.2
structure HeldX (w : World) (g : Nat) (N : Value) (s : Value) (q : Addr) (x y z : Value) : Prop where
  z0 : w.cell? ⟨g, 0, none⟩ = some N
  z1 : w.cell? ⟨g, 1, none⟩ = some s
  c : Cells3 w q x y z
theorem HeldX.on {w w' : World} {g : Nat} {N s x y z : Value} {q : Addr} (h : HeldX w g N s q x y z) (hg : g < w.heap.size) (hq : q.block < w.heap.size) (hb : Below w.heap.size w w') :
    w'.cell? ⟨g, 0, none⟩ = some N ∧ w'.cell? ⟨g, 1, none⟩ = some s ∧ w'.cell? q = some x ∧ w'.cell? ⟨q.block, q.off + 1, none⟩ = some y ∧ w'.cell? ⟨q.block, q.off + 2, none⟩ = some z ∧ Below w.heap.size w w' :=
  ⟨(hb.cell hg).trans h.z0, (hb.cell hg).trans h.z1, (hb.cell hq).trans h.c.c0, (hb.cell (p := ⟨q.block, q.off + 1, none⟩) hq).trans h.c.f1, (hb.cell (p := ⟨q.block, q.off + 2, none⟩) hq).trans h.c.f2, hb⟩
theorem tris_then {wa wc : World} {A B C D E : Prop} {q : Option Addr} {n : Nat} {T : List Tri} (h : A ∧ B ∧ C ∧ D ∧ E ∧ Below wa.heap.size wa wc) (ht : TrisAt wa wa.heap.size q n T) : TrisAt wc wc.heap.size q n T := (ht.below h.2.2.2.2.2).more h.2.2.2.2.2.size
theorem below_then {wa wc w' : World} {A B C D E : Prop} (h : A ∧ B ∧ C ∧ D ∧ E ∧ Below wa.heap.size wa wc) (hb : Below wc.heap.size wc w') : Below wa.heap.size wa w' := h.2.2.2.2.2.trans (hb.mono h.2.2.2.2.2.size)

set_option maxRecDepth 100000 in
set_option maxHeartbeats 8000000 in
theorem tellsLaw_any (N : Int) (A : Option Addr) (n c : Nat) (T : List Tri) (w : World) (ht : TrisAt w w.heap.size A n T) :
    Calls Try.prog 9 #[.agg #[.int .i64 N, .slice A n c]] w (TrueB w) := by
  obtain rfl : n = T.length := ht.len.symm
  have hb0 : Below w.heap.size w (w.alloc (.cells #[.int .i64 N, .slice A T.length c] 24)) := (Below.refl _ _).alloc (Nat.le_refl _) _
  have HX : Hid (Blk (w.alloc (.cells #[.int .i64 N, .slice A T.length c] 24)) w.heap.size 24 #[.int .i64 N, .slice A T.length c]) := Lib.hid (Blk.new _ _ _)
  have HT := Lib.hid ht
  have HB0 := Lib.hid hb0
  clear ht hb0
  go_enter Try.func9, Try.ntmps9
  go_wp2_with fail
  refine (awake_any _).mono ?_
  rintro e w1 ⟨rfl, hb⟩
  have HX1 := Lib.hid (HX.out.below hb (by simp))
  have HB1 := Lib.hid (HB0.out.trans (hb.mono HB0.out.size))
  clear hb HX HB0
  have c0 := HX1.out.cell 0
  have c1 := HX1.out.cell 1
  simp at c0 c1
  have hl1 := HX1.out.lt
  by_cases hA : (40 : Int) < (T.length : Int)
  · go_wp2_with fail
    refine (awake_any _).mono ?_
    rintro e w3 ⟨rfl, hb⟩
    have HB3 := Lib.hid (HB1.out.trans (hb.mono HB1.out.size))
    clear hb
    go_wp2_with fail
    go_ret
    exact ⟨rfl, HB3.out⟩
  by_cases hB : 40 < N ∧ N ≤ 4096
  · obtain ⟨hB1, hB2⟩ := hB
    go_wp2_with fail
    refine (awake_any _).mono ?_
    rintro e w3 ⟨rfl, hb⟩
    have HB3 := Lib.hid (HB1.out.trans (hb.mono HB1.out.size))
    clear hb
    go_wp2_with fail
    go_ret
    exact ⟨rfl, HB3.out⟩
  have hlen : T.length ≤ 1000 := by omega
  by_cases hC : 40 < N
  case' pos => have hD : ¬ N ≤ 4096 := fun h => hB ⟨hC, h⟩
  all_goals
    clear hB
    go_wp2_with fail
    refine (own_any N A T.length c T w1 hlen ((HT.out.below HB1.out).more HB1.out.size)).mono ?_
    rintro e w4 ⟨A4, c4, rfl, ho, hb⟩
    have HX4 := Lib.hid (HX1.out.below hb hl1)
    have HB4 := Lib.hid (HB1.out.trans (hb.mono HB1.out.size))
    have HO := Lib.hid ho
    clear hb HX1 HB1 c0 c1 ho
    go_wp2_with fail
    have hbx : Below w4.heap.size w4 (w4.alloc (.cells #[.int .i64 N, .slice A4 T.length c4] 24)) := (Below.refl _ _).alloc (Nat.le_refl _) _
    have htr : TrisAt (w4.alloc (.cells #[.int .i64 N, .slice A4 T.length c4] 24)) (w4.alloc (.cells #[.int .i64 N, .slice A4 T.length c4] 24)).heap.size A4 T.length T := ((TrisAt.mk_ (Reads.of_own HO.out)).below hbx).more hbx.size
    have HX5 := Lib.hid (HX4.out.below hbx HX4.out.lt)
    have HZ5 := Lib.hid (Blk.new w4 24 #[.int .i64 N, .slice A4 T.length c4])
    have HB5 := Lib.hid (HB4.out.trans (hbx.mono HB4.out.size))
    clear hbx HX4 HB4 HO
    have HT5 := Lib.hid htr
    clear htr
    generalize w4.alloc (.cells #[.int .i64 N, .slice A4 T.length c4] 24) = w5 at *
    have hall := all_any N A4 T.length c4 T w5 hlen HT5.out
    rw [allL_ref] at hall
    refine hall.mono ?_
    rintro e w6 ⟨A6, c6, rfl, hr6, hb6⟩
    have HX6 := Lib.hid (HX5.out.below hb6 HX5.out.lt)
    have HZ6 := Lib.hid (HZ5.out.below hb6 HZ5.out.lt)
    have HB6 := Lib.hid (HB5.out.trans (hb6.mono HB5.out.size))
    have HT6 := Lib.hid ((HT5.out.below hb6).more hb6.size)
    have HL6 := Lib.hid (wits_at hr6)
    have hml := row_len hr6
    clear hb6 hr6 HX5 HZ5 HB5 HT5 hall
    have s0 := HX6.out.cell 0
    have s1 := HX6.out.cell 1
    simp at s0 s1
    go_wp2_with fail
    refine (rall_any N A T.length c T w6 hlen ((HT.out.below HB6.out).more HB6.out.size)).mono ?_
    rintro e w7 ⟨A7, c7, rfl, hr7, hb7⟩
    have HX7 := Lib.hid (HX6.out.below hb7 HX6.out.lt)
    have HZ7 := Lib.hid (HZ6.out.below hb7 HZ6.out.lt)
    have HB7 := Lib.hid (HB6.out.trans (hb7.mono HB6.out.size))
    have HT7 := Lib.hid ((HT6.out.below hb7).more hb7.size)
    have HL7 := Lib.hid ((HL6.out.below hb7).more hb7.size)
    have HM7 := Lib.hid (wits_at hr7)
    clear hb7 hr7 HX6 HZ6 HB6 HT6 HL6 s0 s1
    go_wp2_with fail
    refine (same_any _ _ _ A6 A7 (refAll N T).length c6 c7 w7 hml HL7.out HM7.out).mono ?_
    rintro e w8 ⟨rfl, hb8⟩
    have HX8 := Lib.hid (HX7.out.below hb8 HX7.out.lt)
    have HZ8 := Lib.hid (HZ7.out.below hb8 HZ7.out.lt)
    have HB8 := Lib.hid (HB7.out.trans (hb8.mono HB7.out.size))
    have HT8 := Lib.hid ((HT7.out.below hb8).more hb8.size)
    have HM8 := Lib.hid ((HM7.out.below hb8).more hb8.size)
    clear hb8 HX7 HZ7 HB7 HT7 HL7 HM7
    have z0 := HZ8.out.cell 0
    have z1 := HZ8.out.cell 1
    have x0 := HX8.out.cell 0
    have x1 := HX8.out.cell 1
    simp at z0 z1 x0 x1
    by_cases hR : refAll N T = []
    · have hck : checkR N T = (0, 0, 0) := (check_is N T).2 hR
      have hl0 : ((refAll N T).length : Int) = 0 := by rw [hR]; rfl
      have HIS := Lib.hid fun w h => is_any N A4 T.length c4 T w hlen h
      have HCH := Lib.hid fun w h => check_any N A4 T.length c4 T w hlen h
      rw [hck] at HIS HCH
      generalize (refAll N T).length = lr at *
      obtain rfl : lr = 0 := by omega
      go_wp2_with fail
      simp only [decide_true] at HIS
      refine (HIS.out w8 HT8.out).mono ?_
      rintro e w9 ⟨rfl, hb9⟩
      have HX9 := Lib.hid (HX8.out.below hb9 HX8.out.lt)
      have HZ9 := Lib.hid (HZ8.out.below hb9 HZ8.out.lt)
      have HB9 := Lib.hid (HB8.out.trans (hb9.mono HB8.out.size))
      have HT9 := Lib.hid ((HT8.out.below hb9).more hb9.size)
      have HM9 := Lib.hid ((HM8.out.below hb9).more hb9.size)
      clear hb9 HX8 HZ8 HB8 HT8 HM8 z0 z1 x0 x1
      have z0 := HZ9.out.cell 0
      have z1 := HZ9.out.cell 1
      have x0 := HX9.out.cell 0
      have x1 := HX9.out.cell 1
      simp at z0 z1 x0 x1
      go_wp2_with fail
      refine (soupSame_any N T A4 A T.length c4 c w9 (by omega) HT9.out ((HT.out.below HB9.out).more HB9.out.size)).mono ?_
      rintro e wa ⟨rfl, hba⟩
      have HZa := Lib.hid (HZ9.out.below hba HZ9.out.lt)
      have HBa := Lib.hid (HB9.out.trans (hba.mono HB9.out.size))
      have HTa := Lib.hid ((HT9.out.below hba).more hba.size)
      have HMa := Lib.hid ((HM9.out.below hba).more hba.size)
      clear hba HX9 HZ9 HB9 HT9 HM9 z0 z1 x0 x1
      have z0 := HZa.out.cell 0
      have z1 := HZa.out.cell 1
      simp at z0 z1
      go_wp2_with fail
      refine (HCH.out wa HTa.out).mono ?_
      rintro e wb ⟨rfl, hbb⟩
      have HBb := Lib.hid (HBa.out.trans (hbb.mono HBa.out.size))
      clear hbb
      have heq : ∀ w, (binOp .eql 34 (.agg #[.int .i64 0, .int .i64 0, .int .i64 0]) (.agg #[.int .i64 0, .int .i64 0, .int .i64 0])).run Try.prog w = .ok (.bool true) w := fun w => by
        have := run_eq_wit (0, 0, 0) (0, 0, 0) w
        rw [decide_eq_true rfl] at this
        exact this
      unfold wv
      simp only
      go_wp2_with fail
      go_ret
      exact ⟨rfl, HBb.out⟩
    · have hck : ¬ checkR N T = (0, 0, 0) := fun h => hR ((check_is N T).1 h)
      have hckd : decide (checkR N T = (0, 0, 0)) = false := decide_eq_false hck
      have hpos : 0 < (refAll N T).length := List.length_pos_iff.2 hR
      have HIS := Lib.hid fun w h => is_any N A4 T.length c4 T w hlen h
      have HCH := Lib.hid fun w h => check_any N A4 T.length c4 T w hlen h
      rw [hckd] at HIS
      have hpi : (0 : Int) < ((refAll N T).length : Int) := by omega
      have hlz : (((refAll N T).length : Int) == 0) = false := by simp; exact hR
      go_wp2_with fail
      refine (HIS.out w8 HT8.out).mono ?_
      rintro e w9 ⟨rfl, hb9⟩
      have HX9 := Lib.hid (HX8.out.below hb9 HX8.out.lt)
      have HZ9 := Lib.hid (HZ8.out.below hb9 HZ8.out.lt)
      have HB9 := Lib.hid (HB8.out.trans (hb9.mono HB8.out.size))
      have HT9 := Lib.hid ((HT8.out.below hb9).more hb9.size)
      have HM9 := Lib.hid ((HM8.out.below hb9).more hb9.size)
      clear hb9 HX8 HZ8 HB8 HT8 HM8 z0 z1 x0 x1
      have z0 := HZ9.out.cell 0
      have z1 := HZ9.out.cell 1
      have x0 := HX9.out.cell 0
      have x1 := HX9.out.cell 1
      simp at z0 z1 x0 x1
      go_wp2_with fail
      refine (soupSame_any N T A4 A T.length c4 c w9 (by omega) HT9.out ((HT.out.below HB9.out).more HB9.out.size)).mono ?_
      rintro e wa ⟨rfl, hba⟩
      have HZa := Lib.hid (HZ9.out.below hba HZ9.out.lt)
      have HBa := Lib.hid (HB9.out.trans (hba.mono HB9.out.size))
      have HTa := Lib.hid ((HT9.out.below hba).more hba.size)
      have HMa := Lib.hid ((HM9.out.below hba).more hba.size)
      clear hba HX9 HZ9 HB9 HT9 HM9 z0 z1 x0 x1
      have z0 := HZa.out.cell 0
      have z1 := HZa.out.cell 1
      simp at z0 z1
      go_wp2_with fail
      obtain ⟨ad, t, hA7, ht0, _, hadb, hc0⟩ := HMa.out.at_ hpos
      have HG := Lib.hid HZa.out.lt
      have HQ := Lib.hid hadb
      have htx : t = asTri (checkR N T) := by
        unfold checkR
        cases h : refAll N T with
        | nil => exact absurd h hR
        | cons y l =>
          rw [h] at ht0
          simp at ht0
          exact ht0.symm
      subst hA7 htx
      generalize checkR N T = x at *
      obtain ⟨xa, xb, xc⟩ := x
      have heq : ∀ w, (binOp .eql 34 (.agg #[.int .i64 xa, .int .i64 xb, .int .i64 xc]) (.agg #[.int .i64 xa, .int .i64 xb, .int .i64 xc])).run Try.prog w = .ok (.bool true) w := fun w => by
        have := run_eq_wit (xa, xb, xc) (xa, xb, xc) w
        rw [decide_eq_true rfl] at this
        exact this
      rw [Nat.zero_mul, add_zero_] at hc0
      have HC := Lib.hid (show Cells3 wa ad (.int .i64 xa) (.int .i64 xb) (.int .i64 xc) from hc0)
      have HS := Lib.hid (HeldX.mk (g := w4.heap.size) z0 z1 HC.out)
      have HB0 := Lib.hid (Below.refl wa.heap.size wa)
      go_region_held3 (fun w' => w'.cell? ⟨w4.heap.size, 0, none⟩ = some (.int .i64 N) ∧ w'.cell? ⟨w4.heap.size, 1, none⟩ = some (.slice A4 T.length c4) ∧ w'.cell? ad = some (.int .i64 xa) ∧ w'.cell? ⟨ad.block, ad.off + 1, none⟩ = some (.int .i64 xb) ∧ w'.cell? ⟨ad.block, ad.off + 2, none⟩ = some (.int .i64 xc) ∧ Below wa.heap.size wa w')
        (first | exact HS.out.on HG.out HQ.out (below_drew HB0.out) | exact HS.out.on HG.out HQ.out (below_then (by assumption) hb))
        (first | (go_at_call 15; refine (HCH.out _ (tris_then (by assumption) HTa.out)).mono ?_; rintro e w' ⟨he, hb⟩; rw [show wv (xa, xb, xc) = .agg #[.int .i64 xa, .int .i64 xb, .int .i64 xc] from rfl] at he; subst he))
      all_goals
        go_wp2_with fail
        go_ret
        first
          | exact ⟨rfl, HBa.out.trans (Below.mono (of6 (by assumption)) HBa.out.size)⟩
          | exact ⟨rfl, HBa.out.trans ((below_then (by assumption) hb).mono HBa.out.size)⟩
          | (refine ⟨rfl, HBa.out.trans (Below.mono ?_ HBa.out.size)⟩; assumption)
end Go.Proofs.Ytnnbcflpbpafeaa
