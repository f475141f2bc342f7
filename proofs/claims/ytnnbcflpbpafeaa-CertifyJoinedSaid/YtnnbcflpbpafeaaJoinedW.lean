/- CertifyJoined, walked. No condition. -/
import Derived.Test.YtnnbcflpbpafeaaPlainB
import Derived.Test.YtnnbcflpbpafeaaReg
namespace Go.Proofs.Ytnnbcflpbpafeaa
open Go.RowKit

structure JBlk (w wr : World) (g : Nat) (N s M t : Value) : Prop where
  s : Blk wr g 24 #[N, s]
  t : Blk wr (g + 1) 24 #[M, t]
  below : Below w.heap.size w wr
theorem JBlk.on {w wr w' : World} {g : Nat} {N s M t : Value} (h : JBlk w wr g N s M t) (hb : Below wr.heap.size wr w') : JBlk w w' g N s M t :=
  ⟨h.s.below hb h.s.lt, h.t.below hb h.t.lt, h.below.trans (hb.mono h.below.size)⟩
theorem JBlk.cells {w wr : World} {g : Nat} {N s M t : Value} (h : JBlk w wr g N s M t) :
    wr.cell? ⟨g, 0, none⟩ = some N ∧ wr.cell? ⟨g, 1, none⟩ = some s ∧ wr.cell? ⟨g + 1, 0, none⟩ = some M ∧ wr.cell? ⟨g + 1, 1, none⟩ = some t :=
  ⟨h.s.cell 0, h.s.cell 1, h.t.cell 0, h.t.cell 1⟩

set_option maxRecDepth 100000 in
set_option maxHeartbeats 8000000 in
theorem joinedLaw_any (N : Int) (A : Option Addr) (n c : Nat) (T : List Tri) (M : Int) (A' : Option Addr) (n' c' : Nat) (U : List Tri) (hN : (Lit.int .i64 N).wf = true) (hM : (Lit.int .i64 M).wf = true) (w : World) (ht : TrisAt w w.heap.size A n T) (hu : TrisAt w w.heap.size A' n' U) :
    Calls Try.prog 5 #[.agg #[.int .i64 N, .slice A n c], .agg #[.int .i64 M, .slice A' n' c']] w (TrueB w) := by
  obtain rfl : n = T.length := ht.len.symm
  obtain rfl : n' = U.length := hu.len.symm
  have HT := Lib.hid ht
  have HU := Lib.hid hu
  clear ht hu
  go_enter Try.func5, Try.ntmps5
  go_wp2_with fail
  obtain ⟨W, hW⟩ : ∃ W, W = (w.alloc (.cells #[.int .i64 N, .slice A T.length c] 24)).alloc (.cells #[.int .i64 M, .slice A' U.length c'] 24) := ⟨_, rfl⟩
  have H0 : Hid (JBlk w W w.heap.size (.int .i64 N) (.slice A T.length c) (.int .i64 M) (.slice A' U.length c')) := by
    subst hW
    exact Lib.hid ⟨(Blk.new _ _ _).alloc _, Blk.new_ (by simp) _ _, ((Below.refl _ _).alloc (Nat.le_refl _) _).alloc (by simp) _⟩
  rw [← hW]
  clear hW
  generalize w.heap.size = g at H0 ⊢
  refine (awake_any _).mono ?_
  rintro e w1 ⟨rfl, hb⟩
  have H1 := Lib.hid (H0.out.on hb)
  clear hb H0
  obtain ⟨c0, c1, c2, c3⟩ := H1.out.cells
  have HAW : Hid (∀ w2, Below w.heap.size w w2 → Calls Try.prog 11 #[] w2 fun e w' => e = .returned (.bool true) ∧ Below w.heap.size w w') := Lib.hid fun w2 h2 => (awake_any w2).mono fun e w' ⟨he, hb⟩ => ⟨he, h2.trans (hb.mono h2.size)⟩
  by_cases hgr : (decide (40 < T.length) || decide (40 < N)) = true
  · go_wp2_with fail
    refine (great_ex2 true hgr).mono ?_
    rintro e w2 ⟨rfl, hb⟩
    have H2 := Lib.hid (H1.out.on hb)
    clear hb H1 c0 c1 c2 c3
    go_wp2_with fail
    refine (HAW.out _ H2.out.below).mono ?_
    rintro e w3 ⟨rfl, hb⟩
    have HB3 := Lib.hid hb
    clear hb
    go_wp2_with fail
    go_ret
    exact ⟨rfl, HB3.out⟩
  have hgf : (decide (40 < T.length) || decide (40 < N)) = false := by cases h : (decide (40 < T.length) || decide (40 < N)) with | true => exact absurd h hgr | false => rfl
  have hn40 : T.length ≤ 40 := by simp at hgr; omega
  have hN40 : N ≤ 40 := by simp at hgr; omega
  clear hgr
  go_wp2_with fail
  refine (great_ex2 false hgf).mono ?_
  rintro e w2 ⟨rfl, hb⟩
  have H2 := Lib.hid (H1.out.on hb)
  clear hb H1 c0 c1 c2 c3 hgf
  obtain ⟨c0, c1, c2, c3⟩ := H2.out.cells
  by_cases hgr : (decide (40 < U.length) || decide (40 < M)) = true
  · go_wp2_with fail
    refine (great_ex2 true hgr).mono ?_
    rintro e w3 ⟨rfl, hb⟩
    have H3 := Lib.hid (H2.out.on hb)
    clear hb H2 c0 c1 c2 c3
    go_wp2_with fail
    refine (HAW.out _ H3.out.below).mono ?_
    rintro e w4 ⟨rfl, hb⟩
    have HB3 := Lib.hid hb
    clear hb
    go_wp2_with fail
    go_ret
    exact ⟨rfl, HB3.out⟩
  have hgf : (decide (40 < U.length) || decide (40 < M)) = false := by cases h : (decide (40 < U.length) || decide (40 < M)) with | true => exact absurd h hgr | false => rfl
  have hm40 : U.length ≤ 40 := by simp at hgr; omega
  have hM40 : M ≤ 40 := by simp at hgr; omega
  clear hgr
  go_wp2_with fail
  refine (great_ex2 false hgf).mono ?_
  rintro e w3 ⟨rfl, hb⟩
  have H3 := Lib.hid (H2.out.on hb)
  clear hb H2 c0 c1 c2 c3 hgf
  obtain ⟨c0, c1, c2, c3⟩ := H3.out.cells
  by_cases hNM : N < 0 ∨ M < 0
  · have hs : (N < 0) ∨ (¬ N < 0 ∧ M < 0) := by omega
    rcases hs with h1 | ⟨h1, h2⟩
    all_goals
      go_wp2_with fail
      refine (HAW.out _ H3.out.below).mono ?_
      rintro e w4 ⟨rfl, hb⟩
      have HB3 := Lib.hid hb
      clear hb
      go_wp2_with fail
      go_ret
      exact ⟨rfl, HB3.out⟩
  have hN0 : ¬ N < 0 := fun h => hNM (.inl h)
  have hM0 : ¬ M < 0 := fun h => hNM (.inr h)
  have hN0' : 0 ≤ N := by omega
  have hM0' : 0 ≤ M := by omega
  clear hNM
  go_wp2_with fail
  obtain ⟨i0, hi0, hz0, hz1, hz2⟩ := info_parts tri_info
  have HT3 := Lib.hid ((HT.out.below H3.out.below).more H3.out.below.size)
  have hg1 := H3.out.t.lt
  have HB0 := Lib.hid (Below.refl w3.heap.size w3)
  have HS : Hid (∀ w', Below w3.heap.size w3 w' → w'.cell? ⟨g, 0, none⟩ = some (.int .i64 N) ∧ w'.cell? ⟨g, 1, none⟩ = some (.slice A T.length c) ∧ w'.cell? ⟨g + 1, 0, none⟩ = some (.int .i64 M) ∧ w'.cell? ⟨g + 1, 1, none⟩ = some (.slice A' U.length c') ∧ Below w3.heap.size w3 w') :=
    Lib.hid fun w' hb => ⟨(hb.cell (p := ⟨g, 0, none⟩) (by simp only; omega)).trans c0, (hb.cell (p := ⟨g, 1, none⟩) (by simp only; omega)).trans c1, (hb.cell (p := ⟨g + 1, 0, none⟩) hg1).trans c2, (hb.cell (p := ⟨g + 1, 1, none⟩) hg1).trans c3, hb⟩
  have HBO : Hid (∀ w', (w'.cell? ⟨g, 0, none⟩ = some (.int .i64 N) ∧ w'.cell? ⟨g, 1, none⟩ = some (.slice A T.length c) ∧ w'.cell? ⟨g + 1, 0, none⟩ = some (.int .i64 M) ∧ w'.cell? ⟨g + 1, 1, none⟩ = some (.slice A' U.length c') ∧ Below w3.heap.size w3 w') → Below w3.heap.size w3 w') := Lib.hid fun w' h => h.2.2.2.2
  have HWR : Hid (IntKind.i64.wrap (N + M) = N + M) := Lib.hid (by simp [IntKind.wrap, IntKind.bits, IntKind.signed]; omega)
  go_cut [5] (fun pv wx => ∃ gb A5 c5, pv = .pointer (some ⟨gb, 0, none⟩) ∧ Hid (Blk wx gb 24 #[.int .i64 (IntKind.i64.wrap (N + M)), .slice A5 T.length c5]) ∧ Hid (LRow wx w3.heap.size A5 c5 T) ∧ Hid (Below w3.heap.size w3 wx) ∧ Hid (w3.heap.size ≤ gb))
  case first =>
   go_region_held3 (fun w' => w'.cell? ⟨g, 0, none⟩ = some (.int .i64 N) ∧ w'.cell? ⟨g, 1, none⟩ = some (.slice A T.length c) ∧ w'.cell? ⟨g + 1, 0, none⟩ = some (.int .i64 M) ∧ w'.cell? ⟨g + 1, 1, none⟩ = some (.slice A' U.length c') ∧ Below w3.heap.size w3 w')
    ((refine HS.out _ ?_; repeat (first | assumption | exact HB0.out | exact HBO.out _ (by assumption) | refine bw_alloc ?_ _ | refine bw_drew ?_ | refine bw_set ?_ (by first | exact Nat.le_refl _ | exact Nat.le_succ _) _)))
    (first | (refine step_append_sl _ (by rfl) (.tmp 34) (.tmp 36) _ (by rfl) w3.heap.size 30 i0 _ 3 24 Try.underlying22 hi0 hz0 hz1 hz2 rfl (by omega) (.slice (some ⟨w3.heap.size, 0, none⟩) 0 0) 0 [] (by rfl) (own_at (((Blk.new w3 30 #[]).alloc (.cells #[.int .i64 0, .slice none 0 0] 24)).drew) (by omega)) w3.heap.size A T.length c (T.flatMap Tri.cells) (by rfl) (HT3.out.row.below (HBO.out _ (by assumption))) (tris_one T) (by simp only [maxLen]; omega) (by omega) (bw_size (HBO.out _ (by assumption))) ?_; intro A5 c5 w5 hown5 hg5 hat5; have hB5 := bw_grow (HBO.out _ (by assumption)) hg5 (by simp [Value.ownBlock]); have hz := ((Blk.new_ (w := w3.alloc (.cells #[] 30)) (g := w3.heap.size + 1) (by simp) 24 #[.int .i64 0, .slice none 0 0]).drew).grown hg5 (by simp [Value.ownBlock]); have z0 := hz.cell 0; have z1 := hz.cell 1; have y0 := hz.frozen 0; have y1 := hz.frozen 1; simp at z0 z1) | (refine step_append_sl _ (by rfl) (.tmp 34) (.tmp 36) _ (by rfl) w3.heap.size 30 i0 _ 3 24 Try.underlying22 hi0 hz0 hz1 hz2 rfl (by omega) (.slice (some ⟨w3.heap.size + 1, 0, none⟩) 0 0) 0 [] (by rfl) (own_at ((Blk.new_ (w := w3.alloc (.cells #[.int .i64 0, .slice none 0 0] 24)) (g := w3.heap.size + 1) (by simp) 30 #[]).drew) (by omega)) w3.heap.size A T.length c (T.flatMap Tri.cells) (by rfl) (HT3.out.row.below (HBO.out _ (by assumption))) (tris_one T) (by simp only [maxLen]; omega) (by omega) (bw_size (HBO.out _ (by assumption))) ?_; intro A5 c5 w5 hown5 hg5 hat5; have hB5 := bw_grow (HBO.out _ (by assumption)) hg5 (by simp [Value.ownBlock]); have hz := (((Blk.new w3 24 #[.int .i64 0, .slice none 0 0]).alloc (.cells #[] 30)).drew).grown hg5 (by simp [Value.ownBlock]); have z0 := hz.cell 0; have z1 := hz.cell 1; have y0 := hz.frozen 0; have y1 := hz.frozen 1; simp at z0 z1) | (refine step_append_sl _ (by rfl) (.tmp 34) (.tmp 36) _ (by rfl) w3.heap.size 30 i0 _ 3 24 Try.underlying22 hi0 hz0 hz1 hz2 rfl (by omega) (.slice (some ⟨w3.heap.size, 0, none⟩) 0 0) 0 [] (by rfl) (own_at ((Blk.new w3 30 #[]).drew) (by omega)) w3.heap.size A T.length c (T.flatMap Tri.cells) (by rfl) (HT3.out.row.below (HBO.out _ (by assumption))) (tris_one T) (by simp only [maxLen]; omega) (by omega) (bw_size (HBO.out _ (by assumption))) ?_; intro A5 c5 w5 hown5 hg5 hat5; have hB5 := bw_grow (HBO.out _ (by assumption)) hg5 (by simp [Value.ownBlock])))
   all_goals (go_wp2_with fail; go_meet)
   all_goals first
    | exact ⟨_, A5, c5, rfl, Lib.hid (soup_set hz _ _), Lib.hid ((lrow_of hown5 (by simp) (by simp)).soup_set hz _ _), Lib.hid (HBO.out _ (by assumption)), Lib.hid (by omega)⟩
    | exact ⟨_, A5, c5, rfl, Lib.hid (Blk.new _ _ _), Lib.hid ((lrow_of hown5 (by simp) (by simp)).alloc _), Lib.hid (HBO.out _ (by assumption)), Lib.hid (bw_size hB5)⟩
  case rest =>
    obtain ⟨gb, A5, c5, rfl, HB5, HL5, HX5, hgb⟩ := hcut
    rw [HWR.out] at HB5
    obtain ⟨W5, hW5⟩ : ∃ W5 : World, W5 = wc := ⟨_, rfl⟩
    rw [← hW5] at HB5 HL5 HX5 ⊢
    have HI1 : Hid (∀ w2, Below w.heap.size w w2 → Calls Try.prog 16 #[.agg #[.int .i64 N, .slice A T.length c]] w2 (BoolPost w2 (decide (checkR N T = (0, 0, 0))))) := Lib.hid fun w2 h2 => (is_any N A T.length c T w2 (by omega) ((HT.out.below h2).more h2.size)).mono fun e w' h => h
    have HI2 : Hid (∀ w2, Below w.heap.size w w2 → Calls Try.prog 16 #[.agg #[.int .i64 M, .slice A' U.length c']] w2 (BoolPost w2 (decide (checkR M U = (0, 0, 0))))) := Lib.hid fun w2 h2 => (is_any M A' U.length c' U w2 (by omega) ((HU.out.below h2).more h2.size)).mono fun e w' h => h
    have HOK : Hid (decide (checkR N T = (0, 0, 0)) = true → decide (checkR M U = (0, 0, 0)) = true → refAll (N + M) (T ++ U.map (shiftT N)) = [] ∧ ∀ u ∈ U, (0 ≤ u.a ∧ u.a < 41) ∧ (0 ≤ u.b ∧ u.b < 41) ∧ (0 ≤ u.c ∧ u.c < 41)) := Lib.hid fun h1 h2 => by
      obtain ⟨m, rfl, hs⟩ := is_surf.1 ((check_is N T).1 (of_decide_eq_true h1))
      obtain ⟨k, rfl, hu⟩ := is_surf.1 ((check_is M U).1 (of_decide_eq_true h2))
      refine ⟨is_surf.2 ⟨m + k, by omega, joined_law hs hu (by omega) (by omega)⟩, fun u h => ?_⟩
      obtain ⟨a0, a1, b0, b1, c0, c1, _, _, _⟩ := hu.ok u h
      omega
    generalize decide (checkR N T = (0, 0, 0)) = b1 at *
    generalize decide (checkR M U = (0, 0, 0)) = b2 at *
    clear hW5 HS HBO HB0 HT3 c0 c1 c2 c3
    have HJ := Lib.hid (H3.out.on HX5.out)
    obtain ⟨c0, c1, c2, c3⟩ := HJ.out.cells
    go_wp2_with fail
    go_loopw [42] (fun iv wr => ∃ (k : Nat) (AB : Option Addr) (cB : Nat), k ≤ U.length ∧ iv = .int .i64 k ∧ (k = 0 ∨ (b1 = true ∧ b2 = true)) ∧ Hid (Blk wr gb 24 #[.int .i64 (N + M), .slice AB (T.length + k) cB]) ∧ Hid (LRow wr w3.heap.size AB cB (T ++ (U.take k).map (shiftT N))) ∧ Hid (Below w3.heap.size w3 wr)) (fun iv _ => U.length - (intOf iv).toNat)
    case atStart => exact ⟨0, A5, c5, by omega, rfl, .inl rfl, by simpa using HB5, by simpa using HL5, HX5⟩
    case round =>
      obtain ⟨k, AB, cB, hk, rfl, hk0, HBK, HLK, HXK⟩ := hrel
      have HJK := Lib.hid (H3.out.on HXK.out)
      obtain ⟨d0, d1, d2, d3⟩ := HJK.out.cells
      by_cases hlt : k < U.length
      · obtain ⟨ad, t, rfl, htk, _, hadb, hc3⟩ := (HU.out.below HJK.out.below).at_ hlt
        obtain ⟨e0, e1, e2, e3, e4, e5⟩ := hc3
        have hk00 : (0 : Int) ≤ (k : Int) := by omega
        have hk1 : (k : Int) < (U.length : Int) := by omega
        have hkw : U.length ≤ 1000 := by omega
        have hadb1 : (ad.add (k * 3)).block < wr.heap.size := by
          rw [block_of_add]
          exact Nat.lt_of_lt_of_le hadb HJK.out.below.size
        have hadb2 : (ad.add (k * 3)).block < wr.heap.size + 1 := by omega
        have hg1 := HJK.out.t.lt
        have hg2 : g < wr.heap.size := by omega
        go_wp2_with fail
        obtain ⟨V, hV⟩ : ∃ V, V = wr.alloc (.cells #[.int .i64 t.a, .int .i64 t.b, .int .i64 t.c] 30) := ⟨_, rfl⟩
        have HV : Hid (Below wr.heap.size wr V) := by subst hV; exact Lib.hid ((Below.refl _ _).alloc (Nat.le_refl _) _)
        have HX : Hid (Blk V wr.heap.size 30 #[.int .i64 t.a, .int .i64 t.b, .int .i64 t.c]) := by subst hV; exact Lib.hid (Blk.new _ _ _)
        rw [← hV]
        have HJV := Lib.hid (HJK.out.on HV.out)
        clear hV e0 e1 e2 e3 e4 e5 hadb1 hadb2 hg1 hg2 d0 d1 d2 d3
        refine (HI1.out V HJV.out.below).mono ?_
        rintro e w7 ⟨rfl, hb⟩
        have HB7 : Hid (Below wr.heap.size wr w7) := Lib.hid (HV.out.trans (hb.mono HV.out.size))
        have HX7 := Lib.hid (HX.out.below hb HX.out.lt)
        have HJ7 := Lib.hid (HJV.out.on hb)
        clear hb HV HX HJV
        obtain ⟨d0, d1, d2, d3⟩ := HJ7.out.cells
        cases b1 with
        | false =>
          go_wp2_with fail
          go_ret
          exact ⟨rfl, HJ7.out.below⟩
        | true =>
          go_wp2_with fail
          refine (HI2.out w7 HJ7.out.below).mono ?_
          rintro e w8 ⟨rfl, hb⟩
          have HB8 : Hid (Below wr.heap.size wr w8) := Lib.hid (HB7.out.trans (hb.mono HB7.out.size))
          have HX8 := Lib.hid (HX7.out.below hb HX7.out.lt)
          have HJ8 := Lib.hid (HJ7.out.on hb)
          clear hb HB7 HX7 HJ7 d0 d1 d2 d3
          obtain ⟨d0, d1, d2, d3⟩ := HJ8.out.cells
          cases b2 with
          | false =>
            go_wp2_with fail
            go_ret
            exact ⟨rfl, HJ8.out.below⟩
          | true =>
            obtain ⟨ha, hb, hc⟩ := (HOK.out (by trivial) (by trivial)).2 t (List.mem_of_getElem? htk)
            obtain ⟨ha0, ha1⟩ := ha
            obtain ⟨hb0, hb1⟩ := hb
            obtain ⟨hc0, hc1⟩ := hc
            have HBK8 := Lib.hid (HBK.out.below HB8.out HBK.out.lt)
            have HLK8 := Lib.hid (HLK.out.below HB8.out)
            have x0 := HX8.out.cell 0
            have x1 := HX8.out.cell 1
            have x2 := HX8.out.cell 2
            have y0 := HBK8.out.cell 0
            have y1 := HBK8.out.cell 1
            have yf := HBK8.out.frozen 1
            simp at x0 x1 x2 y0 y1
            have hll : (T ++ (U.take k).map (shiftT N)).length = T.length + k := by simp; omega
            have hown8 : w8.ownsRow w3.heap.size 30 3 (.slice AB (T.length + k) cB) (T.length + k) ((T ++ (U.take k).map (shiftT N)).flatMap Tri.cells) := by
              have := HLK8.out
              unfold LRow at this
              rw [hll] at this
              exact this
            have HL8 := Lib.hid hown8
            have hs8 : w3.heap.size ≤ w8.heap.size := Nat.le_trans HXK.out.size HB8.out.size
            have HNB := soup_tri_ne HLK8.out HBK8.out
            rw [hll] at HNB
            have HNE := Lib.hid HNB
            clear hown8 HNB
            go_wp2_with (at_builtin; go_must (refine wpList_append_sl _ rfl (.tmp 55) (.tmp 72) _ rfl w3.heap.size 30 i0 _ 3 24 Try.underlying22 hi0 hz0 hz1 hz2 rfl (by omega) (.slice AB (T.length + k) cB) _ _ rfl (HL8.out.alloc _) (w8.heap.size + 1) (some ⟨w8.heap.size, 0, none⟩) 1 1 [.int .i64 (t.a + N), .int .i64 (t.b + N), .int .i64 (t.c + N)] rfl (reads_newN _ _ _ 1 3 rfl (by simp)) (by simp [Value.oneCell']) (by simp only [maxLen]; omega) (by omega) (by simp; omega) ?_); intro A1 c1 w9 hown1 hg9 hat1; have hbk := (HBK8.out.alloc (.cells #[.int .i64 (t.a + N), .int .i64 (t.b + N), .int .i64 (t.c + N)] 30)).grown hg9 (fun e => HNE.out gb e.symm rfl); have y0 := hbk.cell 0; have y1 := hbk.cell 1; have yf := hbk.frozen 1; simp at y0 y1)
            have hL : T ++ (U.take (k + 1)).map (shiftT N) = (T ++ (U.take k).map (shiftT N)) ++ [shiftT N t] := by
              rw [take_snoc_ U k htk]
              simp
            refine ⟨⟨k + 1, A1, c1, by omega, by go_num, .inr ⟨trivial, trivial⟩, Lib.hid (by simpa [Nat.add_assoc] using soup_set1 hbk _), Lib.hid ?_, Lib.hid ?_⟩, by simp [intOf]; omega⟩
            · rw [hL]
              exact (lrow_of hown1 (by rw [List.length_append, hll]; rfl) (by simp [Tri.cells, shiftT])).setSoup hbk _
            · exact bw_set (bw_grow (bw_alloc (bw_call HXK.out HB8.out) _) hg9 fun x hx => (HL8.out.lt x hx).1) hgb.out _
      · obtain rfl : k = U.length := by omega
        have HI3 : Hid (∀ w2, Below wr.heap.size wr w2 → Calls Try.prog 16 #[.agg #[.int .i64 (N + M), .slice AB (T.length + U.length) cB]] w2 (BoolPost w2 (decide (checkR (N + M) (T ++ U.map (shiftT N)) = (0, 0, 0))))) := Lib.hid fun w2 h2 => by
          have hl : (T ++ U.map (shiftT N)).length = T.length + U.length := by simp
          rw [List.take_length] at HLK
          have ht2 := ((HLK.out.below h2).tris)
          rw [hl] at ht2
          exact (is_any (N + M) AB (T.length + U.length) cB (T ++ U.map (shiftT N)) w2 (by omega) ht2).mono fun e w' h => h
        have HB3 : Hid (b1 = true → b2 = true → decide (checkR (N + M) (T ++ U.map (shiftT N)) = (0, 0, 0)) = true) := Lib.hid fun h1 h2 => decide_eq_true ((check_is _ _).2 (HOK.out h1 h2).1)
        generalize decide (checkR (N + M) (T ++ U.map (shiftT N)) = (0, 0, 0)) = b3 at *
        have y0 := HBK.out.cell 0
        have y1 := HBK.out.cell 1
        simp at y0 y1
        have hgg := HBK.out.lt
        have hg1 := HJK.out.t.lt
        have HB0 := Lib.hid (Below.refl wr.heap.size wr)
        have HS : Hid (∀ w', Below wr.heap.size wr w' → w'.cell? ⟨g, 0, none⟩ = some (.int .i64 N) ∧ w'.cell? ⟨g, 1, none⟩ = some (.slice A T.length c) ∧ w'.cell? ⟨g + 1, 0, none⟩ = some (.int .i64 M) ∧ w'.cell? ⟨g + 1, 1, none⟩ = some (.slice A' U.length c') ∧ w'.cell? ⟨gb, 0, none⟩ = some (.int .i64 (N + M)) ∧ w'.cell? ⟨gb, 1, none⟩ = some (.slice AB (T.length + U.length) cB) ∧ Below wr.heap.size wr w') :=
          Lib.hid fun w' hb => ⟨(hb.cell (p := ⟨g, 0, none⟩) (by simp only; omega)).trans d0, (hb.cell (p := ⟨g, 1, none⟩) (by simp only; omega)).trans d1, (hb.cell (p := ⟨g + 1, 0, none⟩) hg1).trans d2, (hb.cell (p := ⟨g + 1, 1, none⟩) hg1).trans d3, (hb.cell (p := ⟨gb, 0, none⟩) hgg).trans y0, (hb.cell (p := ⟨gb, 1, none⟩) hgg).trans y1, hb⟩
        have HBO : Hid (∀ w', (w'.cell? ⟨g, 0, none⟩ = some (.int .i64 N) ∧ w'.cell? ⟨g, 1, none⟩ = some (.slice A T.length c) ∧ w'.cell? ⟨g + 1, 0, none⟩ = some (.int .i64 M) ∧ w'.cell? ⟨g + 1, 1, none⟩ = some (.slice A' U.length c') ∧ w'.cell? ⟨gb, 0, none⟩ = some (.int .i64 (N + M)) ∧ w'.cell? ⟨gb, 1, none⟩ = some (.slice AB (T.length + U.length) cB) ∧ Below wr.heap.size wr w') → Below wr.heap.size wr w') := Lib.hid fun w' h => h.2.2.2.2.2.2
        have HI1' : Hid (∀ w2, Below wr.heap.size wr w2 → Calls Try.prog 16 #[.agg #[.int .i64 N, .slice A T.length c]] w2 (BoolPost w2 b1)) := Lib.hid fun w2 h2 => HI1.out w2 (HJK.out.on h2).below
        have HI2' : Hid (∀ w2, Below wr.heap.size wr w2 → Calls Try.prog 16 #[.agg #[.int .i64 M, .slice A' U.length c']] w2 (BoolPost w2 b2)) := Lib.hid fun w2 h2 => HI2.out w2 (HJK.out.on h2).below
        have HEND : Hid (∀ w', Below wr.heap.size wr w' → Below w.heap.size w w') := Lib.hid fun w' h => (HJK.out.on h).below
        have hfin : (b1 = true ∧ b2 = true ∧ b3 = true) ∨ U = [] ∧ ¬ (b1 = true ∧ b2 = true) := by
          by_cases h : b1 = true ∧ b2 = true
          · exact .inl ⟨h.1, h.2, HB3.out h.1 h.2⟩
          · rcases hk0 with h' | h'
            · exact .inr ⟨List.eq_nil_of_length_eq_zero h', h⟩
            · exact absurd h' h
        clear HI1 HI2 HOK HB3 hk0 HLK HXK HJK HBK d0 d1 d2 d3 y0 y1 c0 c1 c2 c3 HB5 HL5 HX5 HJ hgb hgg HWR HAW
        have hud : undef = Value.tuple #[] := rfl
        rcases hfin with ⟨rfl, rfl, rfl⟩ | ⟨rfl, hno⟩
        · obtain ⟨d00, d01, d02, d03, d04, d05, _⟩ := HS.out _ HB0.out
          go_wp2_with fail
          first
          | go_region_with (first | (go_at_call 16; have hdone := hB2; refine (HI2'.out _ hB2).mono ?_; rintro e v3 ⟨rfl, hc3⟩; have hB3 : Below wr.heap.size wr v3 := bw_call hB2 hc3; obtain ⟨d30, d31, d32, d33, d34, d35, _⟩ := HS.out _ hB3) | (go_at_call 16; have hdone := hB1; refine (HI1'.out _ hB1).mono ?_; rintro e v2 ⟨rfl, hc2⟩; have hB2 : Below wr.heap.size wr v2 := bw_call hB1 hc2; obtain ⟨d20, d21, d22, d23, d24, d25, _⟩ := HS.out _ hB2) | (go_at_call 16; refine (HI3.out _ (bw_drew HB0.out)).mono ?_; rintro e v1 ⟨rfl, hc1⟩; have hB1 : Below wr.heap.size wr v1 := bw_call (bw_drew HB0.out) hc1; obtain ⟨d10, d11, d12, d13, d14, d15, _⟩ := HS.out _ hB1))
          | fail
          all_goals
           go_wp2_with fail
           go_ret
           first | exact ⟨rfl, HEND.out _ hB4⟩ | exact ⟨rfl, HEND.out _ hB3⟩ | exact ⟨rfl, HEND.out _ hB2⟩ | exact ⟨rfl, HEND.out _ (bw_drew hB4)⟩ | exact ⟨rfl, HEND.out _ (bw_drew hB3)⟩ | exact ⟨rfl, HEND.out _ (bw_drew hB2)⟩
        · simp only [List.length_nil, Nat.add_zero] at HI2' HI3 HS HBO
          obtain ⟨d00, d01, d02, d03, d04, d05, _⟩ := HS.out _ HB0.out
          have hb12 : (b1 = true ∧ b2 = false) ∨ b1 = false := by
            cases b1 <;> cases b2 <;> simp at hno ⊢
          rcases hb12 with ⟨rfl, rfl⟩ | rfl
          · cases b3
            all_goals
              go_wp2_with fail
              first
              | go_region_with (first | (go_at_call 16; have hdone := hB3; refine (HI2'.out _ hB3).mono ?_; rintro e v4 ⟨rfl, hc4⟩; have hB4 : Below wr.heap.size wr v4 := bw_call hB3 hc4; obtain ⟨d40, d41, d42, d43, d44, d45, _⟩ := HS.out _ hB4) | (go_at_call 16; have hdone := hB2; refine (HI2'.out _ hB2).mono ?_; rintro e v3 ⟨rfl, hc3⟩; have hB3 : Below wr.heap.size wr v3 := bw_call hB2 hc3; obtain ⟨d30, d31, d32, d33, d34, d35, _⟩ := HS.out _ hB3) | (go_at_call 16; have hdone := hB1; refine (HI1'.out _ hB1).mono ?_; rintro e v2 ⟨rfl, hc2⟩; have hB2 : Below wr.heap.size wr v2 := bw_call hB1 hc2; obtain ⟨d20, d21, d22, d23, d24, d25, _⟩ := HS.out _ hB2) | (go_at_call 16; refine (HI3.out _ (bw_drew HB0.out)).mono ?_; rintro e v1 ⟨rfl, hc1⟩; have hB1 : Below wr.heap.size wr v1 := bw_call (bw_drew HB0.out) hc1; obtain ⟨d10, d11, d12, d13, d14, d15, _⟩ := HS.out _ hB1))
              | fail
              all_goals
               go_wp2_with fail
               go_ret
               first | exact ⟨rfl, HEND.out _ hB4⟩ | exact ⟨rfl, HEND.out _ hB3⟩ | exact ⟨rfl, HEND.out _ hB2⟩ | exact ⟨rfl, HEND.out _ (bw_drew hB4)⟩ | exact ⟨rfl, HEND.out _ (bw_drew hB3)⟩ | exact ⟨rfl, HEND.out _ (bw_drew hB2)⟩
          · cases b3 <;> cases b2
            all_goals
              go_wp2_with fail
              first
              | go_region_with (first | (go_at_call 16; have hdone := hB3; refine (HI1'.out _ hB3).mono ?_; rintro e v4 ⟨rfl, hc4⟩; have hB4 : Below wr.heap.size wr v4 := bw_call hB3 hc4; obtain ⟨d40, d41, d42, d43, d44, d45, _⟩ := HS.out _ hB4) | (go_at_call 16; have hdone := hB2; refine (HI2'.out _ hB2).mono ?_; rintro e v3 ⟨rfl, hc3⟩; have hB3 : Below wr.heap.size wr v3 := bw_call hB2 hc3; obtain ⟨d30, d31, d32, d33, d34, d35, _⟩ := HS.out _ hB3) | (go_at_call 16; have hdone := hB1; refine (HI1'.out _ hB1).mono ?_; rintro e v2 ⟨rfl, hc2⟩; have hB2 : Below wr.heap.size wr v2 := bw_call hB1 hc2; obtain ⟨d20, d21, d22, d23, d24, d25, _⟩ := HS.out _ hB2) | (go_at_call 16; refine (HI3.out _ (bw_drew HB0.out)).mono ?_; rintro e v1 ⟨rfl, hc1⟩; have hB1 : Below wr.heap.size wr v1 := bw_call (bw_drew HB0.out) hc1; obtain ⟨d10, d11, d12, d13, d14, d15, _⟩ := HS.out _ hB1))
              | fail
              all_goals
               go_wp2_with fail
               go_ret
               first | exact ⟨rfl, HEND.out _ hB4⟩ | exact ⟨rfl, HEND.out _ hB3⟩ | exact ⟨rfl, HEND.out _ hB2⟩ | exact ⟨rfl, HEND.out _ (bw_drew hB4)⟩ | exact ⟨rfl, HEND.out _ (bw_drew hB3)⟩ | exact ⟨rfl, HEND.out _ (bw_drew hB2)⟩
end Go.Proofs.Ytnnbcflpbpafeaa
