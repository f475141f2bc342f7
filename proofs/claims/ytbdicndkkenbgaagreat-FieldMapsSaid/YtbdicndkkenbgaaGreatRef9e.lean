/- The document's answer for layer 9: All, walked. No condition. -/
import Derived.Test.YtbdicndkkenbgaaGreatRef9c
import Derived.Test.YtbdicndkkenbgaaGreatRef9d
namespace Go.Proofs.YtbdicndkkenbgaaGreat
open Go.RowKit

theorem pinched_refW (N : Int) (T : List Tri) : refAll N T = firstL [indexL N T.length T, picks 2 (loopB T) T.length, refW 3 twiceB T T.length, refW 4 mirrB T T.length, picks 5 (fun v => !usedTo T T.length v) N.toNat, picks 6 (fun v => pinchedB T T.length v) N.toNat] := rfl
theorem RRel.of_post {w W w1 : World} {L : List (Int × Int × Int)} {A : Option Addr} {c : Nat} (hb : Below w.heap.size w W) (ho : RRow w1 W.heap.size A c L) (hb1 : Below W.heap.size W w1) : RRel w w1 L (.slice A L.length c) := ⟨A, c, rfl, Lib.hid (own_mono ho hb.size), Lib.hid (hb.trans (hb1.mono hb.size))⟩
theorem RRel.post {w w1 : World} {L : List (Int × Int × Int)} {v : Value} (h : RRel w w1 L v) : RPost w L (.returned v) w1 := by
  obtain ⟨A, c, rfl, h1, h2⟩ := h
  exact ⟨A, c, rfl, h1.out, h2.out⟩

set_option maxRecDepth 100000 in
set_option maxHeartbeats 8000000 in
theorem rall_any (N : Int) (A : Option Addr) (n c : Nat) (T : List Tri) (w : World) (hn : n ≤ 1000) (ht : TrisAt w w.heap.size A n T) :
    Calls Tryz.prog 58 #[.agg #[.int .i64 N, .slice A n c]] w (RPost w (refAll N T)) := by
  obtain ⟨i0, hi0, hz0, hz1, hz2⟩ := info_parts rwit_info
  have HR : Hid (refAll N T = firstL [indexL N n T, picks 2 (loopB T) n, refW 3 twiceB T n, refW 4 mirrB T n, picks 5 (fun v => !usedTo T n v) N.toNat, picks 6 (fun v => pinchedB T n v) N.toNat]) := by
    have := pinched_refW N T
    rw [ht.len] at this
    exact Lib.hid this
  have HIX := Lib.hid fun w h => rindex_any N A n c T w (by omega) h
  have HP3 := Lib.hid fun w h => rpairs_any 3 twiceB (.inl ⟨rfl, rfl⟩) N A n c T w hn h
  have HP4 := Lib.hid fun w h => rpairs_any 4 mirrB (.inr ⟨rfl, rfl⟩) N A n c T w hn h
  have HI0 : Hid (indexL N n T = [] → N ≤ 4096) := Lib.hid fun h => by
    unfold indexL sizeB at h
    split at h
    · cases h
    · rename_i h2
      simp only [Bool.or_eq_true, decide_eq_true_eq] at h2
      omega
  generalize indexL N n T = L0 at HR HIX HI0
  generalize refW 3 twiceB T n = L2 at HR HP3
  generalize refW 4 mirrB T n = L3 at HR HP4
  have HT := Lib.hid ht
  clear ht
  go_enter Tryz.func58, Tryz.ntmps58
  go_wp2_with fail
  obtain ⟨W, hW⟩ : ∃ W, W = w.alloc (.cells #[.int .i64 N, .slice A n c] 24) := ⟨_, rfl⟩
  have HX : Hid (Blk W w.heap.size 24 #[.int .i64 N, .slice A n c]) := by subst hW; exact Lib.hid (Blk.new _ _ _)
  have HW : Hid (Below w.heap.size w W) := by subst hW; exact Lib.hid ((Below.refl _ _).alloc (Nat.le_refl _) _)
  have hws : w.heap.size < W.heap.size := HX.out.lt
  rw [← hW]
  clear hW
  refine (HIX.out W ((HT.out.below HW.out).more HW.out.size)).mono ?_
  rintro e w1 ⟨A1, c1, rfl, ho1, hb1⟩
  have HO1 : Hid (RRow w1 W.heap.size A1 c1 L0) := Lib.hid ho1
  have HB1 : Hid (Below W.heap.size W w1) := Lib.hid hb1
  clear ho1 hb1
  by_cases hL0 : L0 = []
  case neg =>
    have hp : 0 < L0.length := List.length_pos_iff.2 hL0
    have hpi : (0 : Int) < (L0.length : Int) := by omega
    go_wp2_with fail
    go_ret
    rw [HR.out, firstL_yes hL0]
    exact ⟨A1, c1, rfl, own_mono HO1.out HW.out.size, HW.out.trans (HB1.out.mono HW.out.size)⟩
  subst hL0
  have hN : N ≤ 4096 := HI0.out rfl
  rw [firstL_no rfl] at HR
  clear HIX HI0
  go_wp2_with fail
  go_loopw [3, 4] (fun lv iv wr => ∃ k : Nat, k ≤ n ∧ iv = .int .i64 k ∧ RRel W wr (picks 2 (loopB T) k) lv) (fun _ iv _ => n - (intOf iv).toNat)
  case atStart => exact ⟨0, by omega, rfl, A1, c1, rfl, HO1, HB1⟩
  case round =>
    obtain ⟨k, hk, rfl, A', c', rfl, HO, HB⟩ := hrel
    have b1 := (HX.out.below HB.out hws).cell 1
    have b0 := (HX.out.below HB.out hws).cell 0
    simp at b1 b0
    by_cases hlt : k < n
    · obtain ⟨ad, t, rfl, htk, _, hadb, hc3⟩ := ((HT.out.below HW.out).below (HB.out.mono (Nat.le_of_lt hws))).at_ hlt
      obtain ⟨d0, d1, d2, d3, d4, d5⟩ := hc3
      have HP := Lib.hid (picks_succ 2 (loopB T) k)
      have HL : Hid (loopB T k = (t.a == t.b || t.b == t.c || t.c == t.a)) := Lib.hid (by unfold loopB; rw [htk])
      have hsz := HB.out.size
      have hpl := picks_len 2 (loopB T) k
      have hk0 : (0 : Int) ≤ (k : Int) := by omega
      have hkn : (k : Int) < (n : Int) := by omega
      have hs1 : w.heap.size < wr.heap.size := Nat.lt_of_lt_of_le hws HB.out.size
      have hk1 : (ad.add (k * 3)).block < wr.heap.size := by rw [block_of_add]; omega
      clear htk
      go_wp2_with (at_builtin; go_must (refine wpList_append_sl _ rfl (.tmp 47) (.tmp 50) _ rfl W.heap.size 116 i0 _ 3 24 Tryz.underlying101 hi0 hz0 hz1 hz2 rfl (by omega) (.slice A' (picks 2 (loopB T) k).length c') _ _ rfl (((show wr.ownsRow W.heap.size 116 3 (.slice A' (picks 2 (loopB T) k).length c') (picks 2 (loopB T) k).length ((picks 2 (loopB T) k).flatMap w3) from HO.out).alloc _).alloc _) (wr.heap.size + 1 + 1) (some ⟨wr.heap.size + 1, 0, none⟩) 1 1 (w3 (2, (k : Int), 0)) rfl (reads_newN _ _ _ 1 3 rfl (by simp)) (by simp [w3, Value.oneCell']) (by simp only [maxLen]; omega) (by omega) (by simp; omega) ?_); intro A2 c2 w2 hown1 hg1 hat1)
      all_goals
        refine ⟨⟨k + 1, by omega, by go_num, ?_⟩, by simp [intOf]; omega⟩
        rw [HP.out, HL.out]
      all_goals first
        | (have hb : (t.a == t.b || t.b == t.c || t.c == t.a) = true := by first | (simp only [Bool.or_eq_true]; assumption) | (simp [*]; done)
           rw [if_pos hb]
           exact RRel.grow HO HB (((Below.refl _ _).alloc (Nat.le_refl _) _).alloc (by simp) _) hown1 hg1)
        | (rw [if_neg (by simp [*])]
           exact RRel.keep ⟨A', c', rfl, HO, HB⟩ ((Below.refl _ _).alloc (Nat.le_refl _) _))
    · obtain rfl : k = n := by omega
      clear hlt hk
      have hkz : ¬ ((k : Int) < (k : Int)) := by omega
      generalize picks 2 (loopB T) k = L1 at *
      by_cases hL1 : L1 = []
      case neg =>
        have hp : 0 < L1.length := List.length_pos_iff.2 hL1
        have hpi : (0 : Int) < (L1.length : Int) := by omega
        go_wp2_with fail
        go_ret
        rw [HR.out, firstL_yes hL1]
        exact ⟨A', c', rfl, own_mono HO.out HW.out.size, HW.out.trans (HB.out.mono HW.out.size)⟩
      subst hL1
      rw [firstL_no rfl] at HR
      go_wp2_with fail
      refine (HP3.out wr (((HT.out.below HW.out).below (HB.out.mono (Nat.le_of_lt hws))).more (Nat.le_trans (Nat.le_of_lt hws) HB.out.size))).mono ?_
      rintro e wp3 ⟨A3, c3, rfl, ho3, hb3⟩
      have HO3 : Hid (RRow wp3 W.heap.size A3 c3 L2) := Lib.hid (own_mono ho3 HB.out.size)
      have HB3 : Hid (Below W.heap.size W wp3) := Lib.hid (HB.out.trans (hb3.mono HB.out.size))
      clear ho3 hb3 HP3 HO HB b0 b1
      have b1 := (HX.out.below HB3.out hws).cell 1
      have b0 := (HX.out.below HB3.out hws).cell 0
      simp at b1 b0
      by_cases hL2 : L2 = []
      case neg =>
        have hp : 0 < L2.length := List.length_pos_iff.2 hL2
        have hpi : (0 : Int) < (L2.length : Int) := by omega
        go_wp2_with fail
        go_ret
        rw [HR.out, firstL_yes hL2]
        exact ⟨A3, c3, rfl, own_mono HO3.out HW.out.size, HW.out.trans (HB3.out.mono HW.out.size)⟩
      subst hL2
      rw [firstL_no rfl] at HR
      go_wp2_with fail
      refine (HP4.out wp3 (((HT.out.below HW.out).below (HB3.out.mono (Nat.le_of_lt hws))).more (Nat.le_trans (Nat.le_of_lt hws) HB3.out.size))).mono ?_
      rintro e w4 ⟨A4, c4, rfl, ho4, hb4⟩
      have HO4 : Hid (RRow w4 W.heap.size A4 c4 L3) := Lib.hid (own_mono ho4 HB3.out.size)
      have HB4 : Hid (Below W.heap.size W w4) := Lib.hid (HB3.out.trans (hb4.mono HB3.out.size))
      clear ho4 hb4 HP4 HO3 HB3 b0 b1
      by_cases hL3 : L3 = []
      case neg =>
        have hp : 0 < L3.length := List.length_pos_iff.2 hL3
        have hpi : (0 : Int) < (L3.length : Int) := by omega
        go_wp2_with fail
        go_ret
        rw [HR.out, firstL_yes hL3]
        exact ⟨A4, c4, rfl, own_mono HO4.out HW.out.size, HW.out.trans (HB4.out.mono HW.out.size)⟩
      subst hL3
      rw [firstL_no rfl] at HR
      go_wp2_with fail
      obtain ⟨m, hm⟩ : ∃ m, m = N.toNat := ⟨_, rfl⟩
      rw [← hm] at HR
      have hm1 : m ≤ 4096 := by omega
      go_loopw [3, 6] (fun lv iv wr => ∃ v : Nat, v ≤ m ∧ iv = .int .i64 v ∧ RRel W wr (picks 5 (fun v => !usedTo T k v) v) lv) (fun _ iv _ => m - (intOf iv).toNat)
      case atStart => exact ⟨0, by omega, rfl, A4, c4, rfl, HO4, HB4⟩
      case round =>
        obtain ⟨v, hv, rfl, A5, c5, rfl, HO5, HB5⟩ := hrel
        have b1 := (HX.out.below HB5.out hws).cell 1
        have b0 := (HX.out.below HB5.out hws).cell 0
        simp at b1 b0
        by_cases hvt : v < m
        · have hvN : (v : Int) < N := by omega
          have HP := Lib.hid (picks_succ 5 (fun v => !usedTo T k v) v)
          have hpl := picks_len 5 (fun v => !usedTo T k v) v
          go_wp2_with fail
          obtain ⟨wB, hwB⟩ : ∃ wB : World, wB = wr := ⟨_, rfl⟩
          rw [← hwB] at HO5 HB5 b0 b1 ⊢
          clear hwB
          go_loopw [7, 8] (fun bv iv wq => ∃ i : Nat, i ≤ k ∧ iv = .int .i64 i ∧ bv = .bool (usedTo T i v) ∧ Hid (Below wB.heap.size wB wq)) (fun _ iv _ => k - (intOf iv).toNat)
          case atStart => exact ⟨0, by omega, rfl, rfl, Lib.hid (Below.refl _ _)⟩
          case round =>
            obtain ⟨i, hi, rfl, rfl, HBq⟩ := hrel
            have HB6 : Hid (Below W.heap.size W wr) := Lib.hid (HB5.out.trans (HBq.out.mono HB5.out.size))
            have e1 := (HX.out.below HB6.out hws).cell 1
            simp at e1
            by_cases hit : i < k
            · obtain ⟨ad, t, rfl, htk, _, hadb, hc3⟩ := ((HT.out.below HW.out).below (HB6.out.mono (Nat.le_of_lt hws))).at_ hit
              obtain ⟨d0, d1, d2, d3, d4, d5⟩ := hc3
              have HU : Hid (usedTo T (i + 1) v = (usedTo T i v || hasB t v)) := Lib.hid (by unfold usedTo; rw [take_snoc_ T i htk, List.any_append]; simp [hasV, hasB])
              have H1 := Lib.hid fun w => r9has_any t v w
              have hi0 : (0 : Int) ≤ (i : Int) := by omega
              have hi1 : (i : Int) < (k : Int) := by omega
              clear htk
              generalize usedTo T i v = bu at HU ⊢
              generalize hasB t v = bh at HU H1
              cases bu with
              | true =>
                go_wp2_with fail
                exact ⟨⟨i + 1, by omega, by go_num, by rw [HU.out]; rfl, HBq⟩, by simp [intOf]; omega⟩
              | false =>
                go_wp2_with fail
                refine (H1.out _).mono ?_
                rintro e w6 ⟨rfl, hb6⟩
                have HB7 := Lib.hid (HBq.out.trans (hb6.mono HBq.out.size))
                clear hb6
                go_wp2_with fail
                exact ⟨⟨i + 1, by omega, by go_num, by rw [HU.out]; simp, HB7⟩, by simp [intOf]; omega⟩
            · obtain rfl : i = k := by omega
              have hsz : W.heap.size ≤ wr.heap.size := HB6.out.size
              have HO6 : Hid (RRow wr W.heap.size A5 c5 (picks 5 (fun v => !usedTo T i v) v)) := Lib.hid (own_same HO5.out fun x hx => HBq.out.block x (HO5.out.lt x hx).2)
              generalize picks 5 (fun v => !usedTo T i v) v = Lp at *
              generalize usedTo T i v = bu at HP ⊢
              cases bu with
              | true =>
                go_wp2_with fail
                refine ⟨⟨v + 1, by omega, by go_num, ?_⟩, by simp [intOf]; omega⟩
                rw [HP.out, if_neg (by decide)]
                exact RRel.keep ⟨A5, c5, rfl, HO5, HB5⟩ HBq.out
              | false =>
                go_wp2_with (at_builtin; go_must (refine wpList_append_sl _ rfl (.tmp 93) (.tmp 96) _ rfl W.heap.size 116 i0 _ 3 24 Tryz.underlying101 hi0 hz0 hz1 hz2 rfl (by omega) (.slice A5 Lp.length c5) _ _ rfl ((show wr.ownsRow W.heap.size 116 3 (.slice A5 Lp.length c5) Lp.length (Lp.flatMap w3) from HO6.out).alloc _) (wr.heap.size + 1) (some ⟨wr.heap.size, 0, none⟩) 1 1 (w3 (5, (v : Int), 0)) rfl (reads_newN _ _ _ 1 3 rfl rfl) (by simp [w3, Value.oneCell']) (by simp only [maxLen]; omega) (by omega) (by simp; omega) ?_); intro A7 c7 w7 hown1 hg1 hat1)
                refine ⟨⟨v + 1, by omega, by go_num, ?_⟩, by simp [intOf]; omega⟩
                rw [HP.out, if_pos (by rfl)]
                exact RRel.grow HO5 HB5 (HBq.out.alloc HBq.out.size _) hown1 hg1
        · obtain rfl : v = m := by omega
          have hvN : ¬ ((v : Int) < N) := by omega
          generalize picks 5 (fun v => !usedTo T k v) v = L4 at *
          by_cases hL4 : L4 = []
          case neg =>
            have hp : 0 < L4.length := List.length_pos_iff.2 hL4
            have hpi : (0 : Int) < (L4.length : Int) := by omega
            go_wp2_with fail
            go_ret
            rw [HR.out, firstL_yes hL4]
            exact ⟨A5, c5, rfl, own_mono HO5.out HW.out.size, HW.out.trans (HB5.out.mono HW.out.size)⟩
          subst hL4
          rw [firstL_no rfl] at HR
          go_wp2_with fail
          go_loopw [3, 9] (fun lv iv wr => ∃ x : Nat, x ≤ v ∧ iv = .int .i64 x ∧ RRel W wr (picks 6 (fun v => pinchedB T k v) x) lv) (fun _ iv _ => v - (intOf iv).toNat)
          case atStart => exact ⟨0, by omega, rfl, A5, c5, rfl, HO5, HB5⟩
          case round =>
            obtain ⟨x, hx, rfl, A6, c6, rfl, HO6, HB6⟩ := hrel
            have e1 := (HX.out.below HB6.out hws).cell 1
            have e0 := (HX.out.below HB6.out hws).cell 0
            simp at e1 e0
            have HP := Lib.hid (picks_succ 6 (fun v => pinchedB T k v) x)
            have hpl := picks_len 6 (fun v => pinchedB T k v) x
            by_cases hxt : x < v
            · have hxN : (x : Int) < N := by omega
              have H1 := Lib.hid fun w h => rpinched_any x N A k c T w hn h
              generalize picks 6 (fun v => pinchedB T k v) x = Lp at *
              generalize pinchedB T k x = bx at *
              go_wp2_with fail
              refine (H1.out wr (((HT.out.below HW.out).below (HB6.out.mono (Nat.le_of_lt hws))).more (Nat.le_trans (Nat.le_of_lt hws) HB6.out.size))).mono ?_
              rintro e w7 ⟨rfl, hb7⟩
              have HB7 := Lib.hid hb7
              have HO7 : Hid (RRow w7 W.heap.size A6 c6 Lp) := Lib.hid (own_same HO6.out fun i hi => hb7.block i (HO6.out.lt i hi).2)
              have hsz : W.heap.size ≤ w7.heap.size := Nat.le_trans HB6.out.size hb7.size
              clear hb7
              cases bx with
              | true =>
                go_wp2_with (at_builtin; go_must (refine wpList_append_sl _ rfl (.tmp 111) (.tmp 114) _ rfl W.heap.size 116 i0 _ 3 24 Tryz.underlying101 hi0 hz0 hz1 hz2 rfl (by omega) (.slice A6 Lp.length c6) _ _ rfl ((show w7.ownsRow W.heap.size 116 3 (.slice A6 Lp.length c6) Lp.length (Lp.flatMap w3) from HO7.out).alloc _) (w7.heap.size + 1) (some ⟨w7.heap.size, 0, none⟩) 1 1 (w3 (6, (x : Int), 0)) rfl (reads_newN _ _ _ 1 3 rfl rfl) (by simp [w3, Value.oneCell']) (by simp only [maxLen]; omega) (by omega) (by simp; omega) ?_); intro A8 c8 w8 hown1 hg1 hat1)
                refine ⟨⟨x + 1, by omega, by go_num, ?_⟩, by simp [intOf]; omega⟩
                rw [HP.out]
                simp only [if_true]
                exact RRel.grow HO6 HB6 (HB7.out.alloc HB7.out.size _) hown1 hg1
              | false =>
                go_wp2_with fail
                refine ⟨⟨x + 1, by omega, by go_num, ?_⟩, by simp [intOf]; omega⟩
                rw [HP.out, if_neg (by simp)]
                exact RRel.keep ⟨A6, c6, rfl, HO6, HB6⟩ HB7.out
            · obtain rfl : x = v := by omega
              generalize picks 6 (fun v => pinchedB T k v) x = Lp at *
              go_wp2_with fail
              go_ret
              have hL : firstL [Lp] = Lp := by cases Lp <;> rfl
              rw [HR.out, hL]
              exact ⟨A6, c6, rfl, own_mono HO6.out HW.out.size, HW.out.trans (HB6.out.mono HW.out.size)⟩
end Go.Proofs.YtbdicndkkenbgaaGreat
