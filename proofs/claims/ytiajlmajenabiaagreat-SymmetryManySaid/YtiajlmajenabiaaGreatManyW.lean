/- The law SymmetryMany, walked: it holds. No condition. -/
import Derived.Test.YtiajlmajenabiaaGreatManyP
import Derived.Test.YtiajlmajenabiaaGreatSp47
namespace Go.Proofs.YtiajlmajenabiaaGreat
open Go.RowKit

set_option linter.unusedSimpArgs false
set_option linter.unusedVariables false
/-- What symmetry.All answers, where but the kind of answer counts. -/
def AllSaid (ok : Bool) (w : World) (e : Ending) (w' : World) : Prop :=
  ∃ (v : Value) (er : Int), e = .returned (.tuple #[v, .int .i64 er]) ∧ er = (if ok then 0 else 7) ∧ Below w.heap.size w w'
theorem many_all (n : Nat) (hn : n < 41) (A : Option Addr) (c : Nat) (w : World) (ht : TrisAt w w.heap.size A n (loneN n)) :
    Calls Tryz.prog 25 #[.agg #[.int .i64 ((3 * n : Nat) : Int), .slice A n c]] w (AllSaid (decide (n < 4)) w) := by
  have hl := loneN_len n
  have ho := (many_is n hn).1
  rw [← lone_ord n n (Nat.le_refl _)] at ho
  by_cases h4 : n < 4
  · obtain ⟨h1, h2⟩ := many_few n h4
    rw [h1] at ho
    have := symAll_yes (3 * n) A c (loneN n) w (loneN_chk hn) (by omega) (many_parts n) (wantN n) (by rw [lone_k]; exact ho) h2 (by rw [lone_k]; exact many_ok h4) (by omega) (many_rows n h4).1 (many_rows n h4).2 (by rw [hl]; exact ht)
    rw [hl] at this
    refine this.mono ?_
    rintro e w' ⟨A', c', ws, rfl, _, _, _, hb⟩
    exact ⟨_, _, rfl, by rw [decide_eq_true h4]; rfl, hb⟩
  · have := symAll_full (3 * n) A c (loneN n) w (loneN_chk hn) (by omega) (many_parts n) (fun x hx => by
      rw [lone_k, ho] at hx
      cases hf : fullB n with
      | true => rw [hf] at hx; cases hx
      | false =>
        rw [hf] at hx
        have := (many_big n hn hf (by omega)).1
        injection hx with hx
        omega) (by rw [hl]; exact ht)
    rw [hl] at this
    refine this.mono ?_
    rintro e w' ⟨rfl, hb⟩
    exact ⟨_, _, rfl, by rw [decide_eq_false h4]; rfl, hb⟩
theorem many_order (n : Nat) (hn : n < 41) (A : Option Addr) (c : Nat) (w : World) (ht : TrisAt w w.heap.size A n (loneN n)) :
    Calls Tryz.prog 21 #[.agg #[.int .i64 ((3 * n : Nat) : Int), .slice A n c]] w (OrderPost w (if fullB n then none else some (wantN n))) := by
  have hl := loneN_len n
  have ho := (many_is n hn).1
  rw [← lone_ord n n (Nat.le_refl _)] at ho
  have := symOrder_yes (3 * n) A c (loneN n) w (loneN_chk hn) (by omega) (many_parts n) (by rw [hl]; exact ht)
  rw [hl, lone_k, ho] at this
  exact this
attribute [local irreducible] Blk World.alloc World.setCell World.cell? World.frozen? MapV MapI
set_option maxRecDepth 100000 in
set_option maxHeartbeats 8000000 in
theorem lawMany_any (k : Nat) (hk : k < 256) (w : World) : Calls Tryz.prog 7 #[.int .u8 (k : Int)] w (BoolPost w true) := by
  have HAW := Lib.hid (awake_any w)
  obtain ⟨i0, hi0, hz0, hz1, hz2⟩ := info_parts ltri_info
  obtain ⟨n, hn⟩ : ∃ n, n = k % 41 := ⟨_, rfl⟩
  have hn41 : n < 41 := by omega
  have hrem : IntKind.i64.wrap (k : Int) = (k : Int) := by rw [IntKind.wrap_i64]; omega
  have hkn : (k : Int) % 41 = (n : Int) := by omega
  have hkt : Int.tmod (k : Int) 41 = (n : Int) := by rw [Int.tmod_eq_emod_of_nonneg (by omega)]; exact hkn
  clear hn
  go_enter Tryz.func7, Tryz.ntmps7
  go_wp2_with fail
  refine HAW.out.mono ?_
  rintro e w1 ⟨rfl, hb⟩
  have HB1 := Lib.hid hb
  clear hb HAW
  go_upto_region 5 with (fail)
  obtain ⟨wA, hwA⟩ : ∃ U, U = w1.alloc (.cells #[.int .i64 (3 * (n : Int)), .slice none 0 0] 24) := ⟨_, rfl⟩
  have HOA : Hid (OneSoup wA w1.heap.size w1.heap.size (.int .i64 (3 * (n : Int))) none 0 (loneN 0)) := by subst hwA; exact Lib.hid ⟨Blk.new _ _ _, LRow.nil _ _, Nat.le_refl _⟩
  have HBA : Hid (Below w.heap.size w wA) := by subst hwA; exact Lib.hid (bw_alloc HB1.out _)
  have HS1 : Hid (w.heap.size ≤ w1.heap.size) := Lib.hid HB1.out.size
  rw [← hwA]
  obtain ⟨b, hb⟩ : ∃ b, b = w1.heap.size := ⟨_, rfl⟩
  rw [← hb] at HOA HS1
  simp only [← hb]
  clear hwA hb HB1
  go_wp2_with fail
  go_loopw [5, 6, 7] (fun wv fv iv wr => ∃ (i : Nat) (A : Option Addr) (c : Nat), i ≤ n ∧ wv = .int .u64 (wantN i : Nat) ∧ fv = .bool (fullB i) ∧ iv = .int .i64 (i : Int) ∧ Hid (OneSoup wr b b (.int .i64 (3 * (n : Int))) A c (loneN i)) ∧ Hid (Below w.heap.size w wr)) (fun _ _ iv _ => n - (intOf iv).toNat)
  case atStart => exact ⟨0, none, 0, by omega, rfl, rfl, rfl, HOA, HBA⟩
  case round =>
    obtain ⟨i, A, c, hin, rfl, rfl, rfl, HO, HB⟩ := hrel
    obtain ⟨wR, hwR⟩ : ∃ wR : World, wR = wr := ⟨_, rfl⟩
    rw [← hwR] at HO HB ⊢
    clear hwR HOA HBA
    by_cases hii : i < n
    · have hiI : (i : Int) < (n : Int) := by omega
      obtain ⟨o0, o1, o2, o3, ol⟩ := HO.out.cells
      have hol : (loneN i).length = i := loneN_len i
      rw [hol] at o1
      obtain ⟨v, hv⟩ : ∃ v, v = wantN i := ⟨_, rfl⟩
      obtain ⟨f, hf⟩ : ∃ f, f = fullB i := ⟨_, rfl⟩
      have hvl : v < 18446744073709551616 := by rw [hv]; exact want_lt i
      rw [← hv, ← hf]
      have HV : Hid (wantN (i + 1) = v * 3 % 18446744073709551616 * (i + 1) % 18446744073709551616) := Lib.hid (by rw [wantN, ← hv])
      have HF : Hid (fullB (i + 1) = (f || decide (4611686018427387904 / (3 * (i + 1)) < v))) := Lib.hid (by rw [fullB, ← hv, ← hf])
      obtain ⟨v1, hv1⟩ : ∃ x, x = v * 3 % 18446744073709551616 := ⟨_, rfl⟩
      obtain ⟨v2, hv2⟩ : ∃ x, x = v1 * (i + 1) % 18446744073709551616 := ⟨_, rfl⟩
      have hm1 : IntKind.u64.wrap ((v : Int) * 3) = (v1 : Int) := by rw [IntKind.wrap_u64]; omega
      have hm2 : IntKind.u64.wrap ((v1 : Int) * ((i : Int) + 1)) = (v2 : Int) := by rw [IntKind.wrap_u64, show ((v1 : Int) * ((i : Int) + 1)) = ((v1 * (i + 1) : Nat) : Int) by push_cast; rfl]; omega
      have hcv : IntKind.u64.wrap (3 * ((i : Int) + 1)) = 3 * ((i : Int) + 1) := by rw [IntKind.wrap_u64]; omega
      have hcv2 : IntKind.u64.wrap ((i : Int) + 1) = (i : Int) + 1 := by rw [IntKind.wrap_u64]; omega
      rw [← hv1, ← hv2] at HV
      clear hv hf hv1 hv2
      go_upto_region 11 with (at_builtin; go_must (refine wpList_append_sl _ rfl (.tmp 26) (.tmp 36) _ rfl b 56 i0 _ 3 24 Tryz.underlying22 hi0 hz0 hz1 hz2 rfl (by omega) (.slice A i c) i ((loneN i).flatMap Tri.cells) rfl (by have := (HO.out.alloc (.cells #[.int .i64 (3 * (i : Int)), .int .i64 (3 * (i : Int) + 1), .int .i64 (3 * (i : Int) + 2)] 56)).r.owns; rw [hol] at this; exact this) (wR.heap.size + 1) (some ⟨wR.heap.size, 0, none⟩) 1 1 [.int .i64 (3 * (i : Int)), .int .i64 (3 * (i : Int) + 1), .int .i64 (3 * (i : Int) + 2)] rfl (reads_newN _ _ _ 1 3 rfl rfl) (by simp [Value.oneCell']) (by simp only [maxLen]; omega) (by omega) (by rw [World.size_alloc]; omega) ?_); intro A5 c5 w5 hown5 hg5 hat5; obtain ⟨z0, z1, z2⟩ := OneSoup.facts (HO.out.alloc _) (by rw [hol]; exact hg5); rw [hol] at z0)
      obtain ⟨w6, hw6⟩ : ∃ U, U = w5.setCell ⟨b, 1, none⟩ (.slice A5 (i + 1) c5) := ⟨_, rfl⟩
      have HO6 : Hid (OneSoup w6 b b (.int .i64 (3 * (n : Int))) A5 c5 (loneN (i + 1))) := by
        subst hw6
        exact Lib.hid (OneSoup.push (HO.out.alloc _) hown5 (by rw [loneN_len]) (by rw [loneN_succ, List.flatMap_append]; rfl) (by rw [hol]; exact hg5))
      have HB6 : Hid (Below w.heap.size w w6) := by
        subst hw6
        exact Lib.hid (bw_set (bw_grow (bw_alloc HB.out _) hg5 (fun x hx => Nat.le_trans HS1.out (HO.out.r.owns.lt x (by rw [hol]; exact hx)).1)) HS1.out _)
      rw [← hw6]
      clear hw6 hown5 hg5 hat5 z0 z1 z2 o0 o1 o2 o3 ol hol HO HB
      obtain ⟨q, hq⟩ : ∃ q, q = 4611686018427387904 / (3 * (i + 1)) := ⟨_, rfl⟩
      rw [← hq] at HF
      have hqi : Int.tdiv 4611686018427387904 (3 * ((i : Int) + 1)) = (q : Int) := by
        rw [Int.tdiv_eq_ediv_of_nonneg (by decide), show (3 * ((i : Int) + 1)) = ((3 * (i + 1) : Nat) : Int) by push_cast; rfl, hq]
        rfl
      have hnz : ¬ (3 * ((i : Int) + 1)) = 0 := by omega
      have hql : q ≤ 4611686018427387904 := by rw [hq]; exact Nat.div_le_self _ _
      clear hq
      by_cases hqv : q < v
      · have hqvi : (q : Int) < (v : Int) := by omega
        have HF2 : Hid (fullB (i + 1) = true) := Lib.hid (by rw [HF.out, decide_eq_true hqv]; simp)
        go_wp2_with fail
        go_roundw
        case rel => exact ⟨i + 1, A5, c5, by omega, by rw [HV.out], by rw [HF2.out], by go_num, HO6, HB6⟩
        case measure => simp [intOf]; omega
      · have hqvi : ¬ (q : Int) < (v : Int) := by omega
        have HF2 : Hid (fullB (i + 1) = f) := Lib.hid (by rw [HF.out, decide_eq_false hqv]; simp)
        go_wp2_with fail
        go_roundw
        case rel => exact ⟨i + 1, A5, c5, by omega, by rw [HV.out], by rw [HF2.out], by go_num, HO6, HB6⟩
        case measure => simp [intOf]; omega
    · obtain rfl : i = n := by omega
      have hiI : ¬ (i : Int) < (i : Int) := by omega
      obtain ⟨o0, o1, o2, o3, ol⟩ := HO.out.cells
      have hol : (loneN i).length = i := loneN_len i
      rw [hol] at o1
      have HTR : Hid (TrisAt wR wR.heap.size A i (loneN i)) := Lib.hid (by have := HO.out.r.tris; rw [hol] at this; exact this)
      have HOR : Hid (Calls Tryz.prog 21 #[.agg #[.int .i64 (3 * (i : Int)), .slice A i c]] wR (OrderPost wR (if fullB i then none else some (wantN i)))) := Lib.hid (by
        have := many_order i hn41 A c wR HTR.out
        rw [show ((3 * i : Nat) : Int) = 3 * (i : Int) by push_cast; rfl] at this
        exact this)
      have HMA : Hid (∀ W, Below wR.heap.size wR W → Calls Tryz.prog 25 #[.agg #[.int .i64 (3 * (i : Int)), .slice A i c]] W (AllSaid (decide (i < 4)) W)) := Lib.hid fun W hW => by
        have := many_all i hn41 A c W (tris_on hW HTR.out)
        rw [show ((3 * i : Nat) : Int) = 3 * (i : Int) by push_cast; rfl] at this
        exact this
      obtain ⟨K13, K14⟩ : Hid (Blk wR b 24 #[.int .i64 (3 * (i : Int)), .slice A i c]) ∧ True := ⟨Lib.hid (by have := HO.out.t; rw [hol] at this; exact this), trivial⟩
      clear hol ol HO HTR
      have hbig := many_big i hn41
      have hfew := many_few i
      have hlt := want_lt i
      obtain ⟨v, hv⟩ : ∃ v, v = wantN i := ⟨_, rfl⟩
      obtain ⟨f, hf⟩ : ∃ f, f = fullB i := ⟨_, rfl⟩
      rw [← hv, ← hf] at HOR hbig ⊢
      rw [← hv, ← hf] at hfew
      rw [← hv] at hlt
      clear hv hf
      go_upto_region 14 with (fail)
      go_wp2_with fail
      refine HOR.out.mono ?_
      rintro e w2 ⟨rfl, hb⟩
      have HB2 := Lib.hid (bw_call HB.out hb)
      have K2 := Lib.hid (K13.out.below hb K13.out.lt)
      have hb2 := Lib.hid hb
      have o0 := K2.out.cell 0
      have o1 := K2.out.cell 1
      simp at o0 o1
      clear hb HOR
      have hfin := HMA.out w2 hb2.out
      have HFIN := Lib.hid hfin
      clear hfin HMA
      cases f with
      | true =>
        have h4 : ¬ i < 4 := fun h => by have := (hfew h).1; cases this
        rw [decide_eq_false h4] at HFIN
        unfold ordV
        dsimp only [if_true]
        go_wp2_with fail
        refine HFIN.out.mono ?_
        rintro e w3 ⟨va, er, rfl, rfl, hb⟩
        have HB3 := Lib.hid (bw_call HB2.out hb)
        clear hb
        go_wp2_with fail
        go_ret
        exact ⟨rfl, HB3.out⟩
      | false =>
        obtain ⟨g, hg⟩ : ∃ g, g = decide (i < 4) := ⟨_, rfl⟩
        have hvs : v < 9223372036854775808 := by
          by_cases h4 : i < 4
          · have := (hfew h4).2; omega
          · exact (hbig rfl (by omega)).2
        have hgv : (g = true ∧ (v : Int) ≤ 1000) ∨ (g = false ∧ ¬ (v : Int) ≤ 1000) := by
          by_cases h4 : i < 4
          · exact .inl ⟨by rw [hg, decide_eq_true h4], by have := (hfew h4).2; omega⟩
          · exact .inr ⟨by rw [hg, decide_eq_false h4], by have := (hbig rfl (by omega)).1; omega⟩
        rw [← hg] at HFIN
        clear hg hfew hbig
        have hcv : IntKind.u64.wrap (v : Int) = (v : Int) := by rw [IntKind.wrap_u64]; omega
        unfold ordV
        dsimp only [if_false]
        go_wp2_with fail
        refine HFIN.out.mono ?_
        rintro e w3 ⟨va, er, rfl, rfl, hb⟩
        have HB3 := Lib.hid (bw_call HB2.out hb)
        clear hb
        rcases hgv with ⟨rfl, h1⟩ | ⟨rfl, h1⟩
        · go_wp2_with fail
          go_ret
          exact ⟨rfl, HB3.out⟩
        · go_wp2_with fail
          go_ret
          refine ⟨?_, HB3.out⟩
          show Ending.returned (.bool (!decide ((v : Int) ≤ 1000))) = _
          rw [decide_eq_false (show ¬ (v : Int) ≤ 1000 by omega)]
          rfl
end Go.Proofs.YtiajlmajenabiaaGreat
