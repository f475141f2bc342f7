/- The document's answer for layer 9: pairs, walked. No condition. -/
import Derived.Test.YtbdicndkkenbgaaGreatRef9b
import Derived.BigRegion
namespace Go.Proofs.YtbdicndkkenbgaaGreat
open Go.RowKit

def rowD (test : Tri → Tri → Bool) (T : List Tri) (b a : Nat) : List (Int × Int) := ((List.range a).filter fun i => test (tri T i) (tri T b)).map fun i : Nat => ((i : Int), (b : Int))
theorem rowD_succ (test : Tri → Tri → Bool) (T : List Tri) (b a : Nat) : rowD test T b (a + 1) = if test (tri T a) (tri T b) then rowD test T b a ++ [((a : Int), (b : Int))] else rowD test T b a := by
  unfold rowD
  rw [List.range_succ, List.filter_append, List.map_append]
  by_cases h : test (tri T a) (tri T b) <;> simp [h]
theorem rowD_len (test : Tri → Tri → Bool) (T : List Tri) (b a : Nat) : (rowD test T b a).length ≤ a := by
  unfold rowD
  rw [List.length_map]
  exact Nat.le_trans (List.length_filter_le _ _) (by simp)
theorem refD_succ (test : Tri → Tri → Bool) (T : List Tri) (b : Nat) : refD test T (b + 1) = refD test T b ++ rowD test T b b := by
  unfold refD
  rw [List.range_succ, List.flatMap_append]
  simp [rowD]
theorem refD_len (test : Tri → Tri → Bool) (T : List Tri) : ∀ b, b ≤ 1000 → (refD test T b).length ≤ b * 1000
  | 0, _ => by simp [refD]
  | b + 1, h => by
    rw [refD_succ, List.length_append]
    have := refD_len test T b (by omega)
    have := rowD_len test T b b
    omega
/-- The rows of a kind, up to a pair. -/
def rowW (kind : Int) (test : Tri → Tri → Bool) (T : List Tri) (b a : Nat) : List (Int × Int × Int) := (refD test T b ++ rowD test T b a).map (wit kind)
theorem rowW_zero (kind : Int) (test : Tri → Tri → Bool) (T : List Tri) (b : Nat) : rowW kind test T b 0 = refW kind test T b := by simp [rowW, rowD, refW]
theorem rowW_end (kind : Int) (test : Tri → Tri → Bool) (T : List Tri) (b : Nat) : rowW kind test T b b = refW kind test T (b + 1) := by rw [rowW, refW, refD_succ]
theorem rowW_succ (kind : Int) (test : Tri → Tri → Bool) (T : List Tri) (b a : Nat) : rowW kind test T b (a + 1) = if test (tri T a) (tri T b) then rowW kind test T b a ++ [(kind, (a : Int), (b : Int))] else rowW kind test T b a := by
  unfold rowW
  rw [rowD_succ]
  split
  · simp [wit]
  · rfl
theorem rowW_len (kind : Int) (test : Tri → Tri → Bool) (T : List Tri) {b a : Nat} (hb : b ≤ 1000) (ha : a ≤ 1000) : (rowW kind test T b a).length ≤ 2000000 := by
  unfold rowW
  rw [List.length_map, List.length_append]
  have := refD_len test T b hb
  have := rowD_len test T b a
  omega
theorem blk_drew {w : World} {i t : Nat} {cs : Array Value} (h : Blk w i t cs) : Blk w.drew i t cs := h
theorem r9below_drew {B : Nat} {a w : World} (h : Below B a w) : Below B a w.drew := r9below_drewN h 1

set_option maxRecDepth 100000 in
set_option maxHeartbeats 8000000 in
theorem rpairs_any (kind : Int) (test : Tri → Tri → Bool) (hkt : (kind = 3 ∧ test = twiceB) ∨ (kind = 4 ∧ test = mirrB)) (N : Int) (A : Option Addr) (n c : Nat) (T : List Tri) (w : World) (hn : n ≤ 1000) (ht : TrisAt w w.heap.size A n T) :
    Calls Tryz.prog 76 #[.agg #[.int .i64 N, .slice A n c], .int .i64 kind] w (RPost w (refW kind test T n)) := by
  obtain ⟨i0, hi0, hz0, hz1, hz2⟩ := info_parts rwit_info
  have HT := Lib.hid ht
  clear ht
  go_enter Tryz.func76, Tryz.ntmps76
  go_wp2_with fail
  obtain ⟨W, hW⟩ : ∃ W, W = w.alloc (.cells #[.int .i64 N, .slice A n c] 24) := ⟨_, rfl⟩
  have HX : Hid (Blk W w.heap.size 24 #[.int .i64 N, .slice A n c]) := by subst hW; exact Lib.hid (Blk.new _ _ _)
  have HW : Hid (Below w.heap.size w W) := by subst hW; exact Lib.hid ((Below.refl _ _).alloc (Nat.le_refl _) _)
  have hws : w.heap.size < W.heap.size := HX.out.lt
  rw [← hW]
  clear hW
  go_loopw [5, 6] (fun lv iv wr => ∃ k : Nat, k ≤ n ∧ iv = .int .i64 k ∧ RRel W wr (refW kind test T k) lv) (fun _ iv _ => n - (intOf iv).toNat)
  case atStart => exact ⟨0, by omega, rfl, RRel.start0 _⟩
  case round =>
    obtain ⟨k, hk, rfl, A', c', rfl, HO, HB⟩ := hrel
    have b1 := (HX.out.below HB.out hws).cell 1
    simp at b1
    by_cases hlt : k < n
    · obtain ⟨ad, u, rfl, htk, _, hadb, hu3⟩ := ((HT.out.below HW.out).below (HB.out.mono (Nat.le_of_lt hws))).at_ hlt
      have HU : Hid (tri T k = u) := Lib.hid (by unfold tri; simp [List.getD, htk])
      have HTK := Lib.hid htk
      clear htk
      go_wp2_with fail
      obtain ⟨wB, hwB⟩ : ∃ wB : World, wB = wr := ⟨_, rfl⟩
      rw [← hwB] at HO HB b1 hu3 ⊢
      clear hwB
      go_loopw [5, 7] (fun lv jv wq => ∃ j : Nat, j ≤ k ∧ jv = .int .i64 j ∧ RRel W wq (rowW kind test T k j) lv) (fun _ jv _ => k - (intOf jv).toNat)
      case atStart => exact ⟨0, by omega, rfl, ⟨A', c', by rw [rowW_zero], by rw [rowW_zero]; exact HO, HB⟩⟩
      case round =>
        obtain ⟨j, hj, rfl, ⟨A2, c2, rfl, HO2, HB2⟩⟩ := hrel
        by_cases hlt2 : j < k
        · obtain ⟨ad', t, e', htj, _, _, ht3⟩ := ((HT.out.below HW.out).below (HB2.out.mono (Nat.le_of_lt hws))).at_ (show j < n by omega)
          cases e'
          have HTT : Hid (tri T j = t) := Lib.hid (by unfold tri; simp [List.getD, htj])
          have HT3 := Lib.hid ht3
          obtain ⟨ad2, u2, e', htk, _, _, hu4⟩ := ((HT.out.below HW.out).below (HB2.out.mono (Nat.le_of_lt hws))).at_ (show k < n by omega)
          cases e'
          rw [HTK.out] at htk
          cases htk
          have HU4 := Lib.hid hu4
          clear hu4
          have d1 := (HX.out.below HB2.out hws).cell 1
          simp at d1
          have c0 := HT3.out.c0
          have c1 := HT3.out.c1
          have c2 := HT3.out.c2
          have g0 := HT3.out.f0
          have g1 := HT3.out.f1
          have g2 := HT3.out.f2
          have u0 := HU4.out.c0
          have u1 := HU4.out.c1
          have u2 := HU4.out.c2
          have v0 := HU4.out.f0
          have v1 := HU4.out.f1
          have v2 := HU4.out.f2
          clear htj ht3
          have hj0 : (0 : Int) ≤ (j : Int) := by omega
          have hjn : (j : Int) < (n : Int) := by omega
          have hk0 : (0 : Int) ≤ (k : Int) := by omega
          have hkn : (k : Int) < (n : Int) := by omega
          have hs1 : w.heap.size < wr.heap.size := Nat.lt_of_lt_of_le hws HB2.out.size
          have hs2 : w.heap.size < wr.heap.size + 1 := by omega
          have hk1 : (ad.add (k * 3)).block < wr.heap.size := by rw [block_of_add]; omega
          have hk2 : (ad.add (k * 3)).block < wr.heap.size + 1 := by omega
          have hj1 : (ad.add (j * 3)).block < wr.heap.size := by rw [block_of_add]; omega
          have hj2 : (ad.add (j * 3)).block < wr.heap.size + 1 := by omega
          go_wp2_with fail
          go_cut [8, 9] (fun pv qv wx => ∃ p q : Nat, pv = .pointer (some ⟨p, 0, none⟩) ∧ qv = .pointer (some ⟨q, 0, none⟩) ∧ Hid (Blk wx p 71 #[.int .i64 t.a, .int .i64 t.b, .int .i64 t.c]) ∧ Hid (Blk wx q 71 #[.int .i64 u.a, .int .i64 u.b, .int .i64 u.c]) ∧ Hid (Below wr.heap.size wr wx))
          case first =>
            go_region
            all_goals go_wp2_with fail
            all_goals go_meet
            all_goals first
              | exact ⟨_, _, rfl, rfl, Lib.hid (blk_drew ((Blk.new _ _ _).alloc _)), Lib.hid (blk_drew (Blk.new_ (by simp) _ _)), Lib.hid (r9below_drew (((Below.refl _ _).alloc (Nat.le_refl _) _).alloc (by simp) _))⟩
              | exact ⟨_, _, rfl, rfl, Lib.hid (blk_drew (Blk.new_ (by simp) _ _)), Lib.hid (blk_drew ((Blk.new _ _ _).alloc _)), Lib.hid (r9below_drew (((Below.refl _ _).alloc (Nat.le_refl _) _).alloc (by simp) _))⟩
          case rest =>
            obtain ⟨p, q, rfl, rfl, HP, HQ, HBX⟩ := hcut
            obtain ⟨wx, hwx⟩ : ∃ wx : World, wx = wc := ⟨_, rfl⟩
            rw [← hwx] at HP HQ HBX ⊢
            clear hwx
            clear c0 c1 c2 g0 g1 g2 u0 u1 u2 v0 v1 v2 d1
            have HBW : Hid (Below W.heap.size W wx) := Lib.hid (HB2.out.trans (HBX.out.mono HB2.out.size))
            go_upto_region 9 with (fail)
            go_cut [60] (fun bv wy => bv = .bool (test t u) ∧ Hid (Below wx.heap.size wx wy))
            case first =>
              have x0 := HP.out.cell 0
              have x1 := HP.out.cell 1
              have x2 := HP.out.cell 2
              have y0 := HQ.out.cell 0
              have y1 := HQ.out.cell 1
              have y2 := HQ.out.cell 2
              simp at x0 x1 x2 y0 y1 y2
              rcases hkt with ⟨rfl, rfl⟩ | ⟨rfl, rfl⟩
              · have H1 := Lib.hid fun w => twiceR_any t u w
                generalize twiceB t u = b1 at *
                go_wp2_with fail
                refine (H1.out _).mono ?_
                rintro e w1 ⟨rfl, hb⟩
                have HB1 := Lib.hid hb
                clear hb
                cases b1 with
                | true =>
                  go_wp2_with fail
                  go_meet
                  exact ⟨rfl, HB1⟩
                | false =>
                  go_wp2_with fail
                  go_meet
                  exact ⟨rfl, HB1⟩
              · have HM : Hid (mirrB t u = (hasB u t.a && hasB u t.b && hasB u t.c)) := Lib.hid rfl
                have H1 := Lib.hid fun w => r9has_any u t.a w
                have H2 := Lib.hid fun w => r9has_any u t.b w
                have H3 := Lib.hid fun w => r9has_any u t.c w
                generalize hasB u t.a = b1 at H1 HM
                generalize hasB u t.b = b2 at H2 HM
                generalize hasB u t.c = b3 at H3 HM
                go_wp2_with fail
                refine (H1.out _).mono ?_
                rintro e w1 ⟨rfl, hb⟩
                have HB1 := Lib.hid hb
                have HP1 := Lib.hid (HP.out.below hb HP.out.lt)
                have HQ1 := Lib.hid (HQ.out.below hb HQ.out.lt)
                clear hb x0 x1 x2 y0 y1 y2
                cases b1 with
                | false =>
                  go_wp2_with fail
                  go_meet
                  exact ⟨by rw [HM.out]; rfl, HB1⟩
                | true =>
                  have x0 := HP1.out.cell 0
                  have x1 := HP1.out.cell 1
                  have x2 := HP1.out.cell 2
                  have y0 := HQ1.out.cell 0
                  have y1 := HQ1.out.cell 1
                  have y2 := HQ1.out.cell 2
                  simp at x0 x1 x2 y0 y1 y2
                  go_wp2_with fail
                  refine (H2.out _).mono ?_
                  rintro e w2 ⟨rfl, hb⟩
                  have HB2' := Lib.hid (HB1.out.trans (hb.mono HB1.out.size))
                  have HP2 := Lib.hid (HP1.out.below hb HP1.out.lt)
                  have HQ2 := Lib.hid (HQ1.out.below hb HQ1.out.lt)
                  clear hb x0 x1 x2 y0 y1 y2
                  cases b2 with
                  | false =>
                    go_wp2_with fail
                    go_meet
                    exact ⟨by rw [HM.out]; rfl, HB2'⟩
                  | true =>
                    have x0 := HP2.out.cell 0
                    have x1 := HP2.out.cell 1
                    have x2 := HP2.out.cell 2
                    have y0 := HQ2.out.cell 0
                    have y1 := HQ2.out.cell 1
                    have y2 := HQ2.out.cell 2
                    simp at x0 x1 x2 y0 y1 y2
                    go_wp2_with fail
                    refine (H3.out _).mono ?_
                    rintro e w3 ⟨rfl, hb⟩
                    have HB3 := Lib.hid (HB2'.out.trans (hb.mono HB2'.out.size))
                    clear hb
                    go_wp2_with fail
                    go_meet
                    exact ⟨by rw [HM.out]; simp, HB3⟩
            case rest =>
              obtain ⟨rfl, HBY⟩ := hcut
              have HS := Lib.hid (rowW_succ kind test T k j)
              rw [HTT.out, HU.out] at HS
              have hlen := rowW_len kind test T (b := k) (a := j) (by omega) (by omega)
              have HB3 : Hid (Below wr.heap.size wr wc) := Lib.hid (HBX.out.trans (HBY.out.mono HBX.out.size))
              have HO3 : Hid (RRow wc W.heap.size A2 c2 (rowW kind test T k j)) := Lib.hid (own_same HO2.out fun i hi => HB3.out.block i (HO2.out.lt i hi).2)
              obtain ⟨wy, hwy⟩ : ∃ wy : World, wy = wc := ⟨_, rfl⟩
              rw [← hwy] at HB3 HO3 HBY ⊢
              clear hwy
              have hsz : W.heap.size ≤ wy.heap.size := Nat.le_trans HB2.out.size HB3.out.size
              generalize test t u = bt at *
              cases bt with
              | true =>
                go_wp2_with (at_builtin; go_must (refine wpList_append_sl _ rfl (.tmp 61) (.tmp 66) _ rfl W.heap.size 116 i0 _ 3 24 Tryz.underlying101 hi0 hz0 hz1 hz2 rfl (by omega) (.slice A2 (rowW kind test T k j).length c2) _ _ rfl ((show wy.ownsRow W.heap.size 116 3 (.slice A2 (rowW kind test T k j).length c2) (rowW kind test T k j).length ((rowW kind test T k j).flatMap w3) from HO3.out).alloc _) (wy.heap.size + 1) (some ⟨wy.heap.size, 0, none⟩) 1 1 (w3 (kind, (j : Int), (k : Int))) rfl (reads_newN _ _ _ 1 3 rfl rfl) (by simp [w3, Value.oneCell']) (by simp only [maxLen]; omega) (by omega) (by simp; omega) ?_); intro A1 c1 w1 hown1 hg1 hat1)
                refine ⟨⟨j + 1, by omega, by go_num, ?_⟩, by simp [intOf]; omega⟩
                rw [HS.out, if_pos rfl]
                exact RRel.grow HO2 HB2 (HB3.out.alloc HB3.out.size _) hown1 hg1
              | false =>
                go_wp2_with fail
                refine ⟨⟨j + 1, by omega, by go_num, ?_⟩, by simp [intOf]; omega⟩
                rw [HS.out, if_neg (by decide)]
                exact RRel.keep ⟨A2, c2, rfl, HO2, HB2⟩ HB3.out
        · obtain rfl : j = k := by omega
          go_wp2_with fail
          refine ⟨⟨j + 1, by omega, by go_num, ?_⟩, by simp [intOf]; omega⟩
          rw [← rowW_end]
          exact ⟨A2, c2, rfl, HO2, HB2⟩
    · obtain rfl : k = n := by omega
      go_wp2_with fail
      go_ret
      exact ⟨A', c', rfl, own_mono HO.out (Nat.le_of_lt hws), HW.out.trans (HB.out.mono (Nat.le_of_lt hws))⟩
end Go.Proofs.YtbdicndkkenbgaaGreat
