/- CertifyTwins, walked. No condition. -/
import Derived.Test.YtnnbcflpbpafeaaPlainC
import Derived.Test.YtnnbcflpbpafeaaRowT
namespace Go.Proofs.Ytnnbcflpbpafeaa
open Go.RowKit

attribute [local irreducible] Blk LRow World.alloc World.setCell KeepB World.cell? World.frozen?

set_option linter.unusedSimpArgs false in
set_option maxRecDepth 100000 in
set_option maxHeartbeats 8000000 in
theorem twinsLaw_any (N : Int) (A : Option Addr) (n c : Nat) (T : List Tri) (by_ : Int) (hby0 : 0 ≤ by_) (hby1 : by_ < 256) (w : World) (ht : TrisAt w w.heap.size A n T) :
    Calls Try.prog 7 #[.agg #[.int .i64 N, .slice A n c], .int .u8 by_] w (TrueB w) := by
  obtain rfl : n = T.length := ht.len.symm
  obtain ⟨b, rfl⟩ := Int.eq_ofNat_of_zero_le hby0
  have HT := Lib.hid ht
  clear ht
  go_enter Try.func7, Try.ntmps7
  go_wp2_with fail
  obtain ⟨W, hW⟩ : ∃ W, W = w.alloc (.cells #[.int .i64 N, .slice A T.length c] 24) := ⟨_, rfl⟩
  have H0 : Hid (Blk W w.heap.size 24 #[.int .i64 N, .slice A T.length c]) := by subst hW; exact Lib.hid (Blk.new _ _ _)
  have HB0 : Hid (Below w.heap.size w W) := by subst hW; exact Lib.hid ((Below.refl _ _).alloc (Nat.le_refl _) _)
  rw [← hW]
  clear hW
  generalize w.heap.size = g at H0 ⊢
  refine (awake_any _).mono ?_
  rintro e w1 ⟨rfl, hb⟩
  have H1 := Lib.hid (H0.out.below hb H0.out.lt)
  have HB1 := Lib.hid (HB0.out.trans (hb.mono HB0.out.size))
  clear hb H0 HB0
  have c0 := H1.out.cell 0
  have c1 := H1.out.cell 1
  simp at c0 c1
  by_cases hgr : (decide (40 < T.length) || decide (40 < N)) = true
  · go_wp2_with fail
    refine (great_ex2 true hgr).mono ?_
    rintro e w2 ⟨rfl, hb⟩
    have HB2 := Lib.hid (HB1.out.trans (hb.mono HB1.out.size))
    clear hb H1 c0 c1
    go_wp2_with fail
    refine (awake_any _).mono ?_
    rintro e w3 ⟨rfl, hb⟩
    have HB3 := Lib.hid (HB2.out.trans (hb.mono HB2.out.size))
    clear hb
    go_wp2_with fail
    go_ret
    exact ⟨rfl, HB3.out⟩
  have hgf : (decide (40 < T.length) || decide (40 < N)) = false := by cases h : (decide (40 < T.length) || decide (40 < N)) with | true => exact absurd h hgr | false => rfl
  have hn40 : T.length ≤ 40 := by simp at hgr; omega
  clear hgr
  have hn1000 : T.length ≤ 1000 := by omega
  by_cases hT0 : T = []
  · subst hT0
    go_wp2_with fail
    refine (great_ex2 false hgf).mono ?_
    rintro e w2 ⟨rfl, hb⟩
    have HB2 := Lib.hid (HB1.out.trans (hb.mono HB1.out.size))
    have H2 := Lib.hid (H1.out.below hb H1.out.lt)
    clear hb H1 c0 c1 hgf
    have c0 := H2.out.cell 0
    have c1 := H2.out.cell 1
    simp at c0 c1
    go_wp2_with fail
    refine (awake_any _).mono ?_
    rintro e w3 ⟨rfl, hb⟩
    have HB3 := Lib.hid (HB2.out.trans (hb.mono HB2.out.size))
    clear hb
    go_wp2_with fail
    go_ret
    exact ⟨rfl, HB3.out⟩
  have hpos : 0 < T.length := List.length_pos_iff.2 hT0
  have hlz : (((T.length : Int)) == 0) = false := by simp; exact hT0
  have hposI : (0 : Int) < (T.length : Int) := by omega
  go_wp2_with fail
  refine (great_ex2 false hgf).mono ?_
  rintro e w2 ⟨rfl, hb⟩
  have HB2 := Lib.hid (HB1.out.trans (hb.mono HB1.out.size))
  have H2 := Lib.hid (H1.out.below hb H1.out.lt)
  clear hb H1 HB1 c0 c1 hgf
  have c0 := H2.out.cell 0
  have c1 := H2.out.cell 1
  simp at c0 c1
  by_cases hs : checkR N T = (0, 0, 0)
  case neg =>
    go_wp2_with fail
    refine (is_false hn1000 ((HT.out.below HB2.out).more HB2.out.size) hs).mono ?_
    rintro e w3 ⟨rfl, hb⟩
    have HB3 := Lib.hid (HB2.out.trans (hb.mono HB2.out.size))
    clear hb H2 HB2 c0 c1 hs
    go_wp2_with fail
    refine (awake_any _).mono ?_
    rintro e w4 ⟨rfl, hb⟩
    have HB4 := Lib.hid (HB3.out.trans (hb.mono HB3.out.size))
    clear hb
    go_wp2_with fail
    go_ret
    exact ⟨rfl, HB4.out⟩
  go_wp2_with fail
  refine (is_true hn1000 ((HT.out.below HB2.out).more HB2.out.size) hs).mono ?_
  rintro e w3 ⟨rfl, hb⟩
  have HB3 := Lib.hid (HB2.out.trans (hb.mono HB2.out.size))
  have H3 := Lib.hid (H2.out.below hb H2.out.lt)
  have HSF := Lib.hid ((check_is N T).1 hs)
  clear hb H2 HB2 c0 c1 hs
  have c0 := H3.out.cell 0
  have c1 := H3.out.cell 1
  simp at c0 c1
  go_wp2_with fail
  generalize hk : (b : Int) % (T.length : Int) = ki
  obtain ⟨k, rfl, hkl⟩ : ∃ k : Nat, ki = (k : Int) ∧ k < T.length := ⟨b % T.length, by rw [← hk]; simp, Nat.mod_lt _ hpos⟩
  clear hk
  have HOWN := Lib.hid fun w h => own_any N A T.length c T w hn1000 h
  have HT3 := Lib.hid ((HT.out.below HB3.out).more HB3.out.size)
  have hg3 := H3.out.lt
  have HB0 := Lib.hid (Below.refl w3.heap.size w3)
  have HS : Hid (∀ w', Below w3.heap.size w3 w' → w'.cell? ⟨g, 0, none⟩ = some (.int .i64 N) ∧ w'.cell? ⟨g, 1, none⟩ = some (.slice A T.length c) ∧ Below w3.heap.size w3 w') :=
    Lib.hid fun w' hb => ⟨(hb.cell (p := ⟨g, 0, none⟩) hg3).trans c0, (hb.cell (p := ⟨g, 1, none⟩) hg3).trans c1, hb⟩
  have HBO : Hid (∀ w', (w'.cell? ⟨g, 0, none⟩ = some (.int .i64 N) ∧ w'.cell? ⟨g, 1, none⟩ = some (.slice A T.length c) ∧ Below w3.heap.size w3 w') → Below w3.heap.size w3 w') := Lib.hid fun w' h => h.2.2
  go_cut [6, 7] (fun pt pm wx => ∃ gt gm At Am ct cm, pt = .pointer (some ⟨gt, 0, none⟩) ∧ pm = .pointer (some ⟨gm, 0, none⟩) ∧ Hid (TwoSoups wx w3.heap.size gt gm (.int .i64 N) At Am ct cm T T) ∧ Hid (Below w3.heap.size w3 wx))
  case first =>
   go_region_held3 (fun w' => w'.cell? ⟨g, 0, none⟩ = some (.int .i64 N) ∧ w'.cell? ⟨g, 1, none⟩ = some (.slice A T.length c) ∧ Below w3.heap.size w3 w')
    ((refine HS.out _ ?_; repeat (first | assumption | exact HB0.out | exact HBO.out _ (by assumption) | exact bw_call (HBO.out _ (by assumption)) hb5 | exact bw_call (HBO.out _ (by assumption)) hb4 | refine bw_alloc ?_ _ | refine bw_drew ?_ | refine bw_set ?_ (by first | exact Nat.le_refl _ | exact Nat.le_succ _ | exact bw_size hB4 | exact Nat.le_succ_of_le (bw_size hB4) | exact bw_size hB5 | exact Nat.le_succ_of_le (bw_size hB5) | omega) _)))
    (first | (go_at_call 13; have hdone := ho4; refine (HOWN.out _ (tris_on (HBO.out _ (by assumption)) HT3.out)).mono ?_; rintro e w5 ⟨A5, c5, rfl, ho5, hb5⟩; have hB5 := bw_call (HBO.out _ (by assumption)) hb5; have r4 := LRow.below (by first | assumption | (refine LRow.alloc ?_ _; assumption) | (refine LRow.alloc (LRow.alloc ?_ _) _; assumption)) hb5 (L := T) (A := A4) (c := c4) (B := w3.heap.size); have r5 : LRow w5 w3.heap.size A5 c5 T := (lrow_of ho5 rfl rfl).base (bw_size (HBO.out _ (by assumption))); have hne := row_ne (lrow_of ho4 rfl rfl) (lrow_of ho5 rfl rfl) (by first | exact Nat.le_refl _ | (simp; done) | (simp; omega)); (try (have u0 : Blk w5 (w3.heap.size) 24 #[.int .i64 0, .slice none 0 0] := blk_call (by first | assumption | exact Blk.new _ _ _ | exact (Blk.new _ _ _).drew | exact blk_new1 _ _ _ _ | exact (blk_new1 _ _ _ _).drew | exact (Blk.new _ _ _).alloc _ | exact ((Blk.new _ _ _).alloc _).drew | (refine Blk.alloc ?_ _; assumption) | (refine Blk.alloc (Blk.alloc ?_ _) _; assumption)) hb5; obtain ⟨u0a, u0b, u0c, u0d, u0l⟩ := soup_facts u0)); (try (have u1 : Blk w5 (w3.heap.size + 1) 24 #[.int .i64 0, .slice none 0 0] := blk_call (by first | assumption | exact Blk.new _ _ _ | exact (Blk.new _ _ _).drew | exact blk_new1 _ _ _ _ | exact (blk_new1 _ _ _ _).drew | exact (Blk.new _ _ _).alloc _ | exact ((Blk.new _ _ _).alloc _).drew | (refine Blk.alloc ?_ _; assumption) | (refine Blk.alloc (Blk.alloc ?_ _) _; assumption)) hb5; obtain ⟨u1a, u1b, u1c, u1d, u1l⟩ := soup_facts u1)); (try (have u2 : Blk w5 (w4.heap.size) 24 #[.int .i64 0, .slice none 0 0] := blk_call (by first | assumption | exact Blk.new _ _ _ | exact (Blk.new _ _ _).drew | exact blk_new1 _ _ _ _ | exact (blk_new1 _ _ _ _).drew | exact (Blk.new _ _ _).alloc _ | exact ((Blk.new _ _ _).alloc _).drew | (refine Blk.alloc ?_ _; assumption) | (refine Blk.alloc (Blk.alloc ?_ _) _; assumption)) hb5; obtain ⟨u2a, u2b, u2c, u2d, u2l⟩ := soup_facts u2)); (try (have u3 : Blk w5 (w4.heap.size + 1) 24 #[.int .i64 0, .slice none 0 0] := blk_call (by first | assumption | exact Blk.new _ _ _ | exact (Blk.new _ _ _).drew | exact blk_new1 _ _ _ _ | exact (blk_new1 _ _ _ _).drew | exact (Blk.new _ _ _).alloc _ | exact ((Blk.new _ _ _).alloc _).drew | (refine Blk.alloc ?_ _; assumption) | (refine Blk.alloc (Blk.alloc ?_ _) _; assumption)) hb5; obtain ⟨u3a, u3b, u3c, u3d, u3l⟩ := soup_facts u3)); have q5 := hb5.size; try simp at q5) | (go_at_call 13; refine (HOWN.out _ (tris_on (HBO.out _ (by assumption)) HT3.out)).mono ?_; rintro e w4 ⟨A4, c4, rfl, ho4, hb4⟩; have hB4 := bw_call (HBO.out _ (by assumption)) hb4; have r4 : LRow w4 w3.heap.size A4 c4 T := (lrow_of ho4 rfl rfl).base (bw_size (HBO.out _ (by assumption))); (try (have z0 : Blk w4 (w3.heap.size) 24 #[.int .i64 0, .slice none 0 0] := blk_call (by first | assumption | exact Blk.new _ _ _ | exact (Blk.new _ _ _).drew | exact blk_new1 _ _ _ _ | exact (blk_new1 _ _ _ _).drew | exact (Blk.new _ _ _).alloc _ | exact ((Blk.new _ _ _).alloc _).drew | (refine Blk.alloc ?_ _; assumption) | (refine Blk.alloc (Blk.alloc ?_ _) _; assumption)) hb4; obtain ⟨z0a, z0b, z0c, z0d, z0l⟩ := soup_facts z0)); (try (have z1 : Blk w4 (w3.heap.size + 1) 24 #[.int .i64 0, .slice none 0 0] := blk_call (by first | assumption | exact Blk.new _ _ _ | exact (Blk.new _ _ _).drew | exact blk_new1 _ _ _ _ | exact (blk_new1 _ _ _ _).drew | exact (Blk.new _ _ _).alloc _ | exact ((Blk.new _ _ _).alloc _).drew | (refine Blk.alloc ?_ _; assumption) | (refine Blk.alloc (Blk.alloc ?_ _) _; assumption)) hb4; obtain ⟨z1a, z1b, z1c, z1d, z1l⟩ := soup_facts z1)); have q4 := hb4.size; try simp at q4))
   all_goals (go_wp2_with fail; go_meet)
   all_goals (have s4 := bw_size hB4; have s5 := bw_size hB5)
   all_goals exact ⟨_, _, A4, A5, c4, c5, rfl, rfl, Lib.hid ⟨by repeat (first | assumption | exact Blk.new _ _ _ | exact blk_new1 _ _ _ _ | exact blk_new2 _ _ _ _ _ _ _ | refine soup_set0 ?_ _ _ | refine LRow.soup_set0 ?_ ?_ _ _ | refine Blk.alloc ?_ _ | refine LRow.alloc ?_ _ | refine Blk.far ?_ (by first | omega | (simp only; omega)) _), by repeat (first | assumption | exact Blk.new _ _ _ | exact blk_new1 _ _ _ _ | exact blk_new2 _ _ _ _ _ _ _ | refine soup_set0 ?_ _ _ | refine LRow.soup_set0 ?_ ?_ _ _ | refine Blk.alloc ?_ _ | refine LRow.alloc ?_ _ | refine Blk.far ?_ (by first | omega | (simp only; omega)) _), by repeat (first | assumption | exact Blk.new _ _ _ | exact blk_new1 _ _ _ _ | exact blk_new2 _ _ _ _ _ _ _ | refine soup_set0 ?_ _ _ | refine LRow.soup_set0 ?_ ?_ _ _ | refine Blk.alloc ?_ _ | refine LRow.alloc ?_ _ | refine Blk.far ?_ (by first | omega | (simp only; omega)) _), by repeat (first | assumption | exact Blk.new _ _ _ | exact blk_new1 _ _ _ _ | exact blk_new2 _ _ _ _ _ _ _ | refine soup_set0 ?_ _ _ | refine LRow.soup_set0 ?_ ?_ _ _ | refine Blk.alloc ?_ _ | refine LRow.alloc ?_ _ | refine Blk.far ?_ (by first | omega | (simp only; omega)) _), hne, by omega, by omega, by omega⟩, Lib.hid (HBO.out _ (by assumption))⟩
  case rest =>
    obtain ⟨gt, gm, At, Am, ct, cm, rfl, rfl, HTS, HB4⟩ := hcut
    obtain ⟨w4, hw4⟩ : ∃ w4 : World, w4 = wc := ⟨_, rfl⟩
    rw [← hw4] at HTS HB4 ⊢
    clear hw4 HS HBO HB0 HOWN c0 c1 hg3
    have H4 := Lib.hid (H3.out.below HB4.out H3.out.lt)
    have HT4 := Lib.hid (HT3.out.below HB4.out)
    obtain ⟨i0, hi0, hz0, hz1, hz2⟩ := info_parts tri_info
    obtain ⟨ad, u, rfl, htk, _, hadb, hc3⟩ := HT3.out.at_ hkl
    have HC3 := Lib.hid hc3
    have HG3 := Lib.hid H3.out.lt
    have HG1 := Lib.hid (show w3.cell? ⟨g, 1, none⟩ = some (.slice (some ad) T.length c) from (soup_facts H3.out).2.1)
    have hk0 : (0 : Int) ≤ (k : Int) := by omega
    have hk1 : (k : Int) < (T.length : Int) := by omega
    have HS : Hid (∀ w', Below w3.heap.size w3 w' → w'.cell? ⟨g, 1, none⟩ = some (.slice (some ad) T.length c) ∧ w'.cell? (ad.add (k * 3)) = some (.int .i64 u.a) ∧ w'.cell? ((ad.add (k * 3)).add 1) = some (.int .i64 u.b) ∧ w'.cell? ((ad.add (k * 3)).add 2) = some (.int .i64 u.c) ∧ w'.cell? ⟨(ad.add (k * 3)).block, (ad.add (k * 3)).off + 1, none⟩ = some (.int .i64 u.b) ∧ w'.cell? ⟨(ad.add (k * 3)).block, (ad.add (k * 3)).off + 2, none⟩ = some (.int .i64 u.c) ∧ Below w3.heap.size w3 w') :=
      Lib.hid fun w' h => ⟨(h.cell (p := ⟨g, 1, none⟩) HG3.out).trans HG1.out, (h.cell (by rw [block_of_add]; exact hadb)).trans HC3.out.c0, (h.cell (by rw [block_of_add, block_of_add]; exact hadb)).trans HC3.out.c1, (h.cell (by rw [block_of_add, block_of_add]; exact hadb)).trans HC3.out.c2, (h.cell (p := ⟨(ad.add (k * 3)).block, _, none⟩) (by simp only [block_of_add]; exact hadb)).trans HC3.out.f1, (h.cell (p := ⟨(ad.add (k * 3)).block, _, none⟩) (by simp only [block_of_add]; exact hadb)).trans HC3.out.f2, h⟩
    have HBO : Hid (∀ w', (w'.cell? ⟨g, 1, none⟩ = some (.slice (some ad) T.length c) ∧ w'.cell? (ad.add (k * 3)) = some (.int .i64 u.a) ∧ w'.cell? ((ad.add (k * 3)).add 1) = some (.int .i64 u.b) ∧ w'.cell? ((ad.add (k * 3)).add 2) = some (.int .i64 u.c) ∧ w'.cell? ⟨(ad.add (k * 3)).block, (ad.add (k * 3)).off + 1, none⟩ = some (.int .i64 u.b) ∧ w'.cell? ⟨(ad.add (k * 3)).block, (ad.add (k * 3)).off + 2, none⟩ = some (.int .i64 u.c) ∧ Below w3.heap.size w3 w') → Below w3.heap.size w3 w') := Lib.hid fun w' h => h.2.2.2.2.2.2
    obtain ⟨p0, p1, p2, p3, p4⟩ := soup_facts HTS.out.t
    have HGT := Lib.hid HTS.out.gt
    have HGM := Lib.hid HTS.out.gm
    clear hc3
    go_wp2_with fail
    go_cut [] (fun wx => ∃ A5 c5, Hid (TwoSoups wx w3.heap.size gt gm (.int .i64 N) A5 Am c5 cm (T ++ [u]) T) ∧ Hid (Below w3.heap.size w3 wx))
    case first =>
      obtain ⟨d0, d1, d2, d3, d4, d5, _⟩ := HS.out _ HB4.out
      go_region_law (refine step_append_sl _ (by rfl) (.tmp 40) (.tmp 46) _ (by rfl) w3.heap.size 30 i0 _ 3 24 Try.underlying22 hi0 hz0 hz1 hz2 rfl (by omega) (.slice At T.length ct) T.length (T.flatMap Tri.cells) (by rfl) (by first | exact ((HTS.out.rt.alloc _).drew).owns | exact ((HTS.out.rt.drew).alloc _).owns) (w4.heap.size + 1) (some ⟨w4.heap.size, 0, none⟩) 1 1 [.int .i64 u.a, .int .i64 u.b, .int .i64 u.c] (by rfl) (by first | exact (reads_newN _ _ _ 1 3 rfl rfl).drew | exact reads_newN _ _ _ 1 3 rfl rfl) (by simp [Value.oneCell']) (by simp only [maxLen]; omega) (by omega) (by first | exact bw_size (bw_drew (bw_alloc HB4.out _)) | exact bw_size (bw_alloc (bw_drew HB4.out) _)) ?_; intro A5 c5 w5 hown5 hg5 hat5; obtain ⟨z0, z1, z2⟩ := TwoSoups.facts_t (by first | exact (HTS.out.alloc _).drew | exact (HTS.out.drew).alloc _) hg5)
      all_goals (go_wp2_with fail; go_meet)
      all_goals
        have hX : Below w3.heap.size w3 w5 := bw_grow (by first | exact bw_drew (bw_alloc HB4.out _) | exact bw_alloc (bw_drew HB4.out) _) hg5 (fun x hx => (HTS.out.rt.owns.lt x hx).1)
        exact ⟨A5, c5, Lib.hid (TwoSoups.push_t (by first | exact (HTS.out.alloc _).drew | exact (HTS.out.drew).alloc _) hown5 (by simp) (by simp [Tri.cells]) hg5 hat5), Lib.hid (bw_set hX HGT.out _)⟩
    case rest =>
      obtain ⟨A6, c6, HT6, HB6⟩ := hcut
      obtain ⟨w6, hw6⟩ : ∃ w6 : World, w6 = wc := ⟨_, rfl⟩
      rw [← hw6] at HT6 HB6 ⊢
      clear hw6 HTS HB4 H4 HT4 p0 p1 p2 p3 p4
      obtain ⟨p0, p1, p2, p3, p4⟩ := soup_facts HT6.out.m
      obtain ⟨d0, d1, d2, d3, d4, d5, _⟩ := HS.out _ HB6.out
      go_wp2_with fail
      go_cut [] (fun wx => ∃ A5 c5, Hid (TwoSoups wx w3.heap.size gt gm (.int .i64 N) A6 A5 c6 c5 (T ++ [u]) (T ++ [mir u])) ∧ Hid (Below w3.heap.size w3 wx))
      case first =>
        refine wp_region_held_drew (S := fun w' => w'.cell? ⟨g, 1, none⟩ = some (.slice (some ad) T.length c) ∧ w'.cell? (ad.add (k * 3)) = some (.int .i64 u.a) ∧ w'.cell? ((ad.add (k * 3)).add 1) = some (.int .i64 u.b) ∧ w'.cell? ((ad.add (k * 3)).add 2) = some (.int .i64 u.c) ∧ w'.cell? ⟨(ad.add (k * 3)).block, (ad.add (k * 3)).off + 1, none⟩ = some (.int .i64 u.b) ∧ w'.cell? ⟨(ad.add (k * 3)).block, (ad.add (k * 3)).off + 2, none⟩ = some (.int .i64 u.c) ∧ Below w3.heap.size w3 w') (by kernel_rfl) ?_ (fun hHeld => ?_)
        · (refine HS.out _ ?_; repeat (first | exact HB6.out | exact hB5 | refine bw_alloc ?_ _ | refine bw_drew ?_ | refine bw_set ?_ HGM.out _ | exact HBO.out _ (by assumption)))
        refine wpAnyH_take (i := 0) (v := ?v23) rfl (by kernel_rfl) (by kernel_rfl) (by kernel_rfl) (fun _ _ _ h => h) (Or.inl ⟨by rfl, ?hy23⟩) (by assumption) ?rest23
        case hy23 => (intro w hSw; (try dsimp only at hSw); go_simp; try with_reducible rfl)
        (try simp only [Act.put, List.setIfInBounds_toArray, List.set_cons_zero, List.set_cons_succ])
        refine wpAnyH_take (i := 2) (v := ?v24) rfl (by kernel_rfl) (by kernel_rfl) (by kernel_rfl) (fun _ _ _ h => h) (Or.inl ⟨by rfl, ?hy24⟩) (by assumption) ?rest24
        case hy24 => (intro w hSw; (try dsimp only at hSw); go_simp; try with_reducible rfl)
        (try simp only [Act.put, List.setIfInBounds_toArray, List.set_cons_zero, List.set_cons_succ])
        refine wpAnyH_take (i := 3) (v := ?v25) rfl (by kernel_rfl) (by kernel_rfl) (by kernel_rfl) (fun _ _ _ h => h) (Or.inl ⟨by rfl, ?hy25⟩) (by assumption) ?rest25
        case hy25 => (intro w hSw; (try dsimp only at hSw); go_simp; try with_reducible rfl)
        (try simp only [Act.put, List.setIfInBounds_toArray, List.set_cons_zero, List.set_cons_succ])
        refine wpAnyH_take (i := 4) (v := ?v26) rfl (by kernel_rfl) (by kernel_rfl) (by kernel_rfl) (fun _ _ _ h => h) (Or.inl ⟨by rfl, ?hy26⟩) (by assumption) ?rest26
        case hy26 => (intro w hSw; (try dsimp only at hSw); go_simp; try with_reducible rfl)
        (try simp only [Act.put, List.setIfInBounds_toArray, List.set_cons_zero, List.set_cons_succ])
        refine wpAnyH_take (i := 5) (v := ?v27) rfl (by kernel_rfl) (by kernel_rfl) (by kernel_rfl) (fun _ _ _ h => h) (Or.inl ⟨by rfl, ?hy27⟩) (by assumption) ?rest27
        case hy27 => (intro w hSw; (try dsimp only at hSw); go_simp; try with_reducible rfl)
        (try simp only [Act.put, List.setIfInBounds_toArray, List.set_cons_zero, List.set_cons_succ])
        refine wpAnyH_take (i := 6) (v := ?v28) rfl (by kernel_rfl) (by kernel_rfl) (by kernel_rfl) (fun _ _ _ h => h) (Or.inl ⟨by rfl, ?hy28⟩) (by assumption) ?rest28
        case hy28 => (intro w hSw; (try dsimp only at hSw); go_simp; try with_reducible rfl)
        (try simp only [Act.put, List.setIfInBounds_toArray, List.set_cons_zero, List.set_cons_succ])
        refine wpAnyH_take (i := 7) (v := ?v29) rfl (by kernel_rfl) (by kernel_rfl) (by kernel_rfl) (fun _ _ _ h => h) (Or.inl ⟨by rfl, ?hy29⟩) (by assumption) ?rest29
        case hy29 => (intro w hSw; (try dsimp only at hSw); go_simp; try with_reducible rfl)
        (try simp only [Act.put, List.setIfInBounds_toArray, List.set_cons_zero, List.set_cons_succ])
        refine wpAnyH_take (i := 8) (v := ?v30) rfl (by kernel_rfl) (by kernel_rfl) (by kernel_rfl) (fun _ _ _ h => h) (Or.inl ⟨by rfl, ?hy30⟩) (by assumption) ?rest30
        case hy30 => (intro w hSw; (try dsimp only at hSw); go_simp; try with_reducible rfl)
        (try simp only [Act.put, List.setIfInBounds_toArray, List.set_cons_zero, List.set_cons_succ])
        refine wpAnyH_take (i := 9) (v := ?v31) rfl (by kernel_rfl) (by kernel_rfl) (by kernel_rfl) (fun _ _ _ h => h) (Or.inl ⟨by rfl, ?hy31⟩) (by assumption) ?rest31
        case hy31 => (intro w hSw; (try dsimp only at hSw); go_simp; try with_reducible rfl)
        (try simp only [Act.put, List.setIfInBounds_toArray, List.set_cons_zero, List.set_cons_succ])
        refine wpAnyH_take (i := 10) (v := ?v32) rfl (by kernel_rfl) (by kernel_rfl) (by kernel_rfl) (fun _ _ _ h => h) (Or.inl ⟨by rfl, ?hy32⟩) (by assumption) ?rest32
        case hy32 => (intro w hSw; (try dsimp only at hSw); go_simp; try with_reducible rfl)
        (try simp only [Act.put, List.setIfInBounds_toArray, List.set_cons_zero, List.set_cons_succ])
        refine wpAnyH_take (i := 11) (v := ?v33) rfl (by kernel_rfl) (by kernel_rfl) (by kernel_rfl) (fun _ _ _ h => h) (Or.inl ⟨by rfl, ?hy33⟩) (by assumption) ?rest33
        case hy33 => (intro w hSw; (try dsimp only at hSw); go_simp; try with_reducible rfl)
        (try simp only [Act.put, List.setIfInBounds_toArray, List.set_cons_zero, List.set_cons_succ])
        refine wpAnyH_take (i := 12) (v := ?v34) rfl (by kernel_rfl) (by kernel_rfl) (by kernel_rfl) (fun _ _ _ h => h) (Or.inl ⟨by rfl, ?hy34⟩) (by assumption) ?rest34
        case hy34 => (intro w hSw; (try dsimp only at hSw); go_simp; try with_reducible rfl)
        (try simp only [Act.put, List.setIfInBounds_toArray, List.set_cons_zero, List.set_cons_succ])
        refine wpAnyH_take (i := 13) (v := ?v35) rfl (by kernel_rfl) (by kernel_rfl) (by kernel_rfl) (fun _ _ _ h => h) (Or.inl ⟨by rfl, ?hy35⟩) (by assumption) ?rest35
        case hy35 => (intro w hSw; (try dsimp only at hSw); go_simp; try with_reducible rfl)
        (try simp only [Act.put, List.setIfInBounds_toArray, List.set_cons_zero, List.set_cons_succ])
        refine wpAnyH_take (i := 14) (v := ?v36) rfl (by kernel_rfl) (by kernel_rfl) (by kernel_rfl) (fun _ _ _ h => h) (Or.inl ⟨by rfl, ?hy36⟩) (by assumption) ?rest36
        case hy36 => (intro w hSw; (try dsimp only at hSw); go_simp; try with_reducible rfl)
        (try simp only [Act.put, List.setIfInBounds_toArray, List.set_cons_zero, List.set_cons_succ])
        refine wpAnyH_take (i := 15) (v := ?v37) rfl (by kernel_rfl) (by kernel_rfl) (by kernel_rfl) (fun _ _ _ h => h) (Or.inl ⟨by rfl, ?hy37⟩) (by assumption) ?rest37
        case hy37 => (intro w hSw; (try dsimp only at hSw); go_simp; try with_reducible rfl)
        (try simp only [Act.put, List.setIfInBounds_toArray, List.set_cons_zero, List.set_cons_succ])
        refine wpAnyH_take (i := 16) (v := ?v38) rfl (by kernel_rfl) (by kernel_rfl) (by kernel_rfl) (fun _ _ _ h => h) (Or.inl ⟨by rfl, ?hy38⟩) (by assumption) ?rest38
        case hy38 => (intro w hSw; (try dsimp only at hSw); go_simp; try with_reducible rfl)
        (try simp only [Act.put, List.setIfInBounds_toArray, List.set_cons_zero, List.set_cons_succ])
        refine wpAnyH_take (i := 17) (v := ?v39) rfl (by kernel_rfl) (by kernel_rfl) (by kernel_rfl) (fun _ _ _ h => h) (Or.inl ⟨by rfl, ?hy39⟩) (by assumption) ?rest39
        case hy39 => (intro w hSw; (try dsimp only at hSw); go_simp; try with_reducible rfl)
        (try simp only [Act.put, List.setIfInBounds_toArray, List.set_cons_zero, List.set_cons_succ])
        refine wpAnyH_take (i := 18) (v := ?v40) rfl (by kernel_rfl) (by kernel_rfl) (by kernel_rfl) (fun _ _ _ h => h) (Or.inl ⟨by rfl, ?hy40⟩) (by assumption) ?rest40
        case hy40 => (intro w hSw; (try dsimp only at hSw); go_simp; try with_reducible rfl)
        (try simp only [Act.put, List.setIfInBounds_toArray, List.set_cons_zero, List.set_cons_succ])
        refine wpAnyH_take (i := 19) (v := ?v41) rfl (by kernel_rfl) (by kernel_rfl) (by kernel_rfl) (fun _ _ _ h => h) (Or.inl ⟨by rfl, ?hy41⟩) (by assumption) ?rest41
        case hy41 => (intro w hSw; (try dsimp only at hSw); go_simp; try with_reducible rfl)
        (try simp only [Act.put, List.setIfInBounds_toArray, List.set_cons_zero, List.set_cons_succ])
        refine wpAnyH_take (i := 20) (v := ?v42) rfl (by kernel_rfl) (by kernel_rfl) (by kernel_rfl) (fun _ _ _ h => h) (Or.inl ⟨by rfl, ?hy42⟩) (by assumption) ?rest42
        case hy42 => (intro w hSw; (try dsimp only at hSw); go_simp; try with_reducible rfl)
        (try simp only [Act.put, List.setIfInBounds_toArray, List.set_cons_zero, List.set_cons_succ])
        refine wpAnyH_ready (rs := [1, 21]) (by kernel_rfl) (by simp) ?_
        refine AllReadyH.cons rfl (fun K hK => ?_) ?_
        · go_simp
          refine hK.out _ _ ?_ (fun hHeld => ?_)
          · (refine HS.out _ ?_; repeat (first | exact HB6.out | exact hB5 | refine bw_alloc ?_ _ | refine bw_drew ?_ | refine bw_set ?_ HGM.out _ | exact HBO.out _ (by assumption)))
          clear hK K
          (try simp only [Act.put, List.setIfInBounds_toArray, List.set_cons_zero, List.set_cons_succ])
          refine wpAnyH_ready (rs := [21]) (by kernel_rfl) (by simp) ?_
          refine AllReadyH.cons rfl (fun K hK => ?_) ?_
          · go_simp
            refine hK.out _ _ ?_ (fun hHeld => ?_)
            · (refine HS.out _ ?_; repeat (first | exact HB6.out | exact hB5 | refine bw_alloc ?_ _ | refine bw_drew ?_ | refine bw_set ?_ HGM.out _ | exact HBO.out _ (by assumption)))
            clear hK K
            (try simp only [Act.put, List.setIfInBounds_toArray, List.set_cons_zero, List.set_cons_succ])
            refine wpAnyH_ready (rs := [22]) (by kernel_rfl) (by simp) ?_
            refine AllReadyH.cons rfl (fun K hK => ?_) ?_
            · refine step_append_sl _ (by rfl) (.tmp 50) (.tmp 70) _ (by rfl) w3.heap.size 30 i0 _ 3 24 Try.underlying22 hi0 hz0 hz1 hz2 rfl (by omega) (.slice Am T.length cm) T.length (T.flatMap Tri.cells) (by rfl) (by first | exact ((HT6.out.rm.alloc _).drew).owns | exact ((HT6.out.rm.drew).alloc _).owns) (w6.heap.size + 1) (some ⟨w6.heap.size, 0, none⟩) 1 1 [.int .i64 u.a, .int .i64 u.c, .int .i64 u.b] (by rfl) (by first | exact (reads_newN _ _ _ 1 3 rfl rfl).drew | exact reads_newN _ _ _ 1 3 rfl rfl) (by simp [Value.oneCell']) (by simp only [maxLen]; omega) (by omega) (by first | exact bw_size (bw_drew (bw_alloc HB6.out _)) | exact bw_size (bw_alloc (bw_drew HB6.out) _)) ?_
              intro A5 c5 w5 hown5 hg5 hat5
              obtain ⟨z0, z1, z2⟩ := TwoSoups.facts_m (by first | exact (HT6.out.alloc _).drew | exact (HT6.out.drew).alloc _) hg5
              have hB5 : Below w3.heap.size w3 w5 := bw_grow (by first | exact bw_drew (bw_alloc HB6.out _) | exact bw_alloc (bw_drew HB6.out) _) hg5 (fun x hx => (HT6.out.rm.owns.lt x hx).1)
              refine hK.out _ _ ?_ (fun hHeld => ?_)
              · (refine HS.out _ ?_; repeat (first | exact HB6.out | exact hB5 | refine bw_alloc ?_ _ | refine bw_drew ?_ | refine bw_set ?_ HGM.out _ | exact HBO.out _ (by assumption)))
              clear hK K
              (try simp only [Act.put, List.setIfInBounds_toArray, List.set_cons_zero, List.set_cons_succ])
              refine wpAnyH_take (i := 23) (v := ?v21) rfl (by kernel_rfl) (by kernel_rfl) (by kernel_rfl) (fun _ _ _ h => h) (Or.inl ⟨by rfl, ?hy21⟩) (by assumption) ?rest21
              case hy21 => (intro w hSw; (try dsimp only at hSw); go_simp; try with_reducible rfl)
              (try simp only [Act.put, List.setIfInBounds_toArray, List.set_cons_zero, List.set_cons_succ])
              refine wpAnyH_ready (rs := [24]) (by kernel_rfl) (by simp) ?_
              refine AllReadyH.cons rfl (fun K hK => ?_) ?_
              · go_simp
                refine hK.out _ _ ?_ (fun hHeld => ?_)
                · (refine HS.out _ ?_; repeat (first | exact HB6.out | exact hB5 | refine bw_alloc ?_ _ | refine bw_drew ?_ | refine bw_set ?_ HGM.out _ | exact HBO.out _ (by assumption)))
                clear hK K
                (try simp only [Act.put, List.setIfInBounds_toArray, List.set_cons_zero, List.set_cons_succ])
                refine wpAnyH_done (by kernel_rfl) ?_ _
                go_wp2_with fail
                go_meet
                exact ⟨A5, c5, Lib.hid (TwoSoups.push_m (by first | exact (HT6.out.alloc _).drew | exact (HT6.out.drew).alloc _) hown5 (by simp) (by simp [Tri.cells, mir]) hg5 hat5), Lib.hid (bw_set hB5 HGM.out _)⟩
              exact AllReadyH.nil
            exact AllReadyH.nil
          exact AllReadyH.nil
        refine AllReadyH.cons rfl (fun K hK => ?_) ?_
        · go_simp
          refine hK.out _ _ ?_ (fun hHeld => ?_)
          · (refine HS.out _ ?_; repeat (first | exact HB6.out | exact hB5 | refine bw_alloc ?_ _ | refine bw_drew ?_ | refine bw_set ?_ HGM.out _ | exact HBO.out _ (by assumption)))
          clear hK K
          (try simp only [Act.put, List.setIfInBounds_toArray, List.set_cons_zero, List.set_cons_succ])
          refine wpAnyH_ready (rs := [1]) (by kernel_rfl) (by simp) ?_
          refine AllReadyH.cons rfl (fun K hK => ?_) ?_
          · go_simp
            refine hK.out _ _ ?_ (fun hHeld => ?_)
            · (refine HS.out _ ?_; repeat (first | exact HB6.out | exact hB5 | refine bw_alloc ?_ _ | refine bw_drew ?_ | refine bw_set ?_ HGM.out _ | exact HBO.out _ (by assumption)))
            clear hK K
            (try simp only [Act.put, List.setIfInBounds_toArray, List.set_cons_zero, List.set_cons_succ])
            refine wpAnyH_ready (rs := [22]) (by kernel_rfl) (by simp) ?_
            refine AllReadyH.cons rfl (fun K hK => ?_) ?_
            · refine step_append_sl _ (by rfl) (.tmp 50) (.tmp 70) _ (by rfl) w3.heap.size 30 i0 _ 3 24 Try.underlying22 hi0 hz0 hz1 hz2 rfl (by omega) (.slice Am T.length cm) T.length (T.flatMap Tri.cells) (by rfl) (by first | exact ((HT6.out.rm.alloc _).drew).owns | exact ((HT6.out.rm.drew).alloc _).owns) (w6.heap.size + 1) (some ⟨w6.heap.size, 0, none⟩) 1 1 [.int .i64 u.a, .int .i64 u.c, .int .i64 u.b] (by rfl) (by first | exact (reads_newN _ _ _ 1 3 rfl rfl).drew | exact reads_newN _ _ _ 1 3 rfl rfl) (by simp [Value.oneCell']) (by simp only [maxLen]; omega) (by omega) (by first | exact bw_size (bw_drew (bw_alloc HB6.out _)) | exact bw_size (bw_alloc (bw_drew HB6.out) _)) ?_
              intro A5 c5 w5 hown5 hg5 hat5
              obtain ⟨z0, z1, z2⟩ := TwoSoups.facts_m (by first | exact (HT6.out.alloc _).drew | exact (HT6.out.drew).alloc _) hg5
              have hB5 : Below w3.heap.size w3 w5 := bw_grow (by first | exact bw_drew (bw_alloc HB6.out _) | exact bw_alloc (bw_drew HB6.out) _) hg5 (fun x hx => (HT6.out.rm.owns.lt x hx).1)
              refine hK.out _ _ ?_ (fun hHeld => ?_)
              · (refine HS.out _ ?_; repeat (first | exact HB6.out | exact hB5 | refine bw_alloc ?_ _ | refine bw_drew ?_ | refine bw_set ?_ HGM.out _ | exact HBO.out _ (by assumption)))
              clear hK K
              (try simp only [Act.put, List.setIfInBounds_toArray, List.set_cons_zero, List.set_cons_succ])
              refine wpAnyH_take (i := 23) (v := ?v22) rfl (by kernel_rfl) (by kernel_rfl) (by kernel_rfl) (fun _ _ _ h => h) (Or.inl ⟨by rfl, ?hy22⟩) (by assumption) ?rest22
              case hy22 => (intro w hSw; (try dsimp only at hSw); go_simp; try with_reducible rfl)
              (try simp only [Act.put, List.setIfInBounds_toArray, List.set_cons_zero, List.set_cons_succ])
              refine wpAnyH_ready (rs := [24]) (by kernel_rfl) (by simp) ?_
              refine AllReadyH.cons rfl (fun K hK => ?_) ?_
              · go_simp
                refine hK.out _ _ ?_ (fun hHeld => ?_)
                · (refine HS.out _ ?_; repeat (first | exact HB6.out | exact hB5 | refine bw_alloc ?_ _ | refine bw_drew ?_ | refine bw_set ?_ HGM.out _ | exact HBO.out _ (by assumption)))
                clear hK K
                (try simp only [Act.put, List.setIfInBounds_toArray, List.set_cons_zero, List.set_cons_succ])
                refine wpAnyH_done (by kernel_rfl) ?_ _
                go_wp2_with fail
                go_meet
                exact ⟨A5, c5, Lib.hid (TwoSoups.push_m (by first | exact (HT6.out.alloc _).drew | exact (HT6.out.drew).alloc _) hown5 (by simp) (by simp [Tri.cells, mir]) hg5 hat5), Lib.hid (bw_set hB5 HGM.out _)⟩
              exact AllReadyH.nil
            exact AllReadyH.nil
          exact AllReadyH.nil
        exact AllReadyH.nil
      case rest =>
        obtain ⟨A7, c7, HT7, HB7⟩ := hcut
        obtain ⟨w7, hw7⟩ : ∃ w7 : World, w7 = wc := ⟨_, rfl⟩
        rw [← hw7] at HT7 HB7 ⊢
        clear hw7 HT6 HB6 p0 p1 p2 p3 p4 d0 d1 d2 d3 d4 d5
        obtain ⟨p0, p1, _, _, pl⟩ := soup_facts HT7.out.t
        obtain ⟨q0, q1, _, _, ql⟩ := soup_facts HT7.out.m
        have hl1 : (T ++ [u]).length = T.length + 1 := by simp
        have hl2 : (T ++ [mir u]).length = T.length + 1 := by simp
        rw [hl1] at p1
        rw [hl2] at q1
        obtain ⟨s0, s1, _, _, sl⟩ := soup_facts (blk_call H3.out HB7.out)
        have hT1 : checkR N (T ++ [u]) = (3, (k : Int), (T.length : Int)) := by
          obtain ⟨m, hs⟩ := surf_of HSF.out
          rw [← tri_of htk]
          exact twins_law hs hkl (by omega)
        obtain ⟨kb, xb, yb, hT2, hkb⟩ : ∃ kb xb yb : Int, checkR N (T ++ [mir u]) = (kb, xb, yb) ∧ (kb = 3 ∨ kb = 4) := by
          obtain ⟨m, hs⟩ := surf_of HSF.out
          refine ⟨_, _, _, rfl, ?_⟩
          rw [← tri_of htk]
          exact twin_mir hs hkl (by omega)
        have HC1 : Hid (∀ w', Below w7.heap.size w7 w' → Calls Try.prog 15 #[.agg #[.int .i64 N, .slice A6 (T.length + 1) c6]] w' fun e w'' => e = .returned (.agg #[.int .i64 3, .int .i64 (k : Int), .int .i64 (T.length : Int)]) ∧ Below w'.heap.size w' w'') := Lib.hid fun w' h => by
          have ht := (HT7.out.rt.below h).tris
          rw [hl1] at ht
          have := check_any N A6 (T.length + 1) c6 (T ++ [u]) w' (by omega) ht
          rwa [hT1] at this
        have HC2 : Hid (∀ w', Below w7.heap.size w7 w' → Calls Try.prog 15 #[.agg #[.int .i64 N, .slice A7 (T.length + 1) c7]] w' fun e w'' => e = .returned (.agg #[.int .i64 kb, .int .i64 xb, .int .i64 yb]) ∧ Below w'.heap.size w' w'') := Lib.hid fun w' h => by
          have ht := (HT7.out.rm.below h).tris
          rw [hl2] at ht
          have := check_any N A7 (T.length + 1) c7 (T ++ [mir u]) w' (by omega) ht
          rwa [hT2] at this
        have HI : Hid (∀ w', Below w7.heap.size w7 w' → Calls Try.prog 16 #[.agg #[.int .i64 N, .slice A7 (T.length + 1) c7]] w' fun e w'' => e = .returned (.bool false) ∧ Below w'.heap.size w' w'') := Lib.hid fun w' h => by
          have ht := (HT7.out.rm.below h).tris
          rw [hl2] at ht
          refine is_false (by omega) ht ?_
          rw [hT2]
          intro e
          injection e with e
          omega
        clear HS HBO
        have HB0 := Lib.hid (Below.refl w7.heap.size w7)
        have HS : Hid (∀ w', Below w7.heap.size w7 w' → w'.cell? ⟨gt, 0, none⟩ = some (.int .i64 N) ∧ w'.cell? ⟨gt, 1, none⟩ = some (.slice A6 (T.length + 1) c6) ∧ w'.cell? ⟨gm, 0, none⟩ = some (.int .i64 N) ∧ w'.cell? ⟨gm, 1, none⟩ = some (.slice A7 (T.length + 1) c7) ∧ Below w7.heap.size w7 w') :=
          Lib.hid fun w' hb => ⟨(hb.cell (p := ⟨gt, 0, none⟩) pl).trans p0, (hb.cell (p := ⟨gt, 1, none⟩) pl).trans p1, (hb.cell (p := ⟨gm, 0, none⟩) ql).trans q0, (hb.cell (p := ⟨gm, 1, none⟩) ql).trans q1, hb⟩
        have HBO : Hid (∀ w', (w'.cell? ⟨gt, 0, none⟩ = some (.int .i64 N) ∧ w'.cell? ⟨gt, 1, none⟩ = some (.slice A6 (T.length + 1) c6) ∧ w'.cell? ⟨gm, 0, none⟩ = some (.int .i64 N) ∧ w'.cell? ⟨gm, 1, none⟩ = some (.slice A7 (T.length + 1) c7) ∧ Below w7.heap.size w7 w') → Below w7.heap.size w7 w') := Lib.hid fun w' h => h.2.2.2.2
        have HG := Lib.hid sl
        have HGS : Hid (w7.cell? ⟨g, 1, none⟩ = some (.slice (some ad) T.length c)) := Lib.hid s1
        have HEND : Hid (∀ w', Below w7.heap.size w7 w' → Below w.heap.size w w') := Lib.hid fun w' h => by
          have h2 := HB7.out.trans (h.mono HB7.out.size)
          exact HB3.out.trans (h2.mono HB3.out.size)
        go_wp2_with fail
        clear p0 p1 pl q0 q1 ql s0 s1 sl hl1 hl2 hT1 hT2
        go_cut [9, 10] (fun pa pb wx => ∃ ga gb, pa = .pointer (some ⟨ga, 0, none⟩) ∧ pb = .pointer (some ⟨gb, 0, none⟩) ∧ Hid (Blk wx ga 34 #[.int .i64 3, .int .i64 (k : Int), .int .i64 (T.length : Int)]) ∧ Hid (Blk wx gb 34 #[.int .i64 kb, .int .i64 xb, .int .i64 yb]) ∧ Hid (Below w7.heap.size w7 wx))
        case first =>
          go_region_held3 (fun w' => w'.cell? ⟨gt, 0, none⟩ = some (.int .i64 N) ∧ w'.cell? ⟨gt, 1, none⟩ = some (.slice A6 (T.length + 1) c6) ∧ w'.cell? ⟨gm, 0, none⟩ = some (.int .i64 N) ∧ w'.cell? ⟨gm, 1, none⟩ = some (.slice A7 (T.length + 1) c7) ∧ Below w7.heap.size w7 w')
           ((refine HS.out _ ?_; repeat (first | exact HB0.out | exact hB9 | exact hB8 | exact bw_call (HBO.out _ (by assumption)) hb9 | exact bw_call (HBO.out _ (by assumption)) hb8 | refine bw_alloc ?_ _ | refine bw_drew ?_ | refine bw_set ?_ (by first | exact Nat.le_refl _ | exact Nat.le_succ _ | exact bw_size hB8 | exact Nat.le_succ_of_le (bw_size hB8) | exact bw_size hB9 | exact Nat.le_succ_of_le (bw_size hB9) | omega) _ | exact HBO.out _ (by assumption))))
           (first | (go_at_call 15; have hdone := hb8; refine (HC2.out _ (HBO.out _ (by assumption))).mono ?_; rintro e w9 ⟨rfl, hb9⟩; have hB9 := bw_call (HBO.out _ (by assumption)) hb9; (try (have u0 : Blk w9 (w7.heap.size) 34 #[.int .i64 0, .int .i64 0, .int .i64 0] := blk_call (by first | assumption | exact Blk.new _ _ _ | exact (Blk.new _ _ _).drew | exact blk_new1 _ _ _ _ | exact (blk_new1 _ _ _ _).drew | exact (Blk.new _ _ _).alloc _ | exact ((Blk.new _ _ _).alloc _).drew | (refine Blk.alloc ?_ _; assumption) | (refine Blk.alloc (Blk.alloc ?_ _) _; assumption)) hb9; obtain ⟨u0a, u0b, u0c, u0d, u0e, u0f, u0l⟩ := wit_facts u0)); (try (have u1 : Blk w9 (w7.heap.size + 1) 34 #[.int .i64 0, .int .i64 0, .int .i64 0] := blk_call (by first | assumption | exact Blk.new _ _ _ | exact (Blk.new _ _ _).drew | exact blk_new1 _ _ _ _ | exact (blk_new1 _ _ _ _).drew | exact (Blk.new _ _ _).alloc _ | exact ((Blk.new _ _ _).alloc _).drew | (refine Blk.alloc ?_ _; assumption) | (refine Blk.alloc (Blk.alloc ?_ _) _; assumption)) hb9; obtain ⟨u1a, u1b, u1c, u1d, u1e, u1f, u1l⟩ := wit_facts u1)); (try (have u2 : Blk w9 (w8.heap.size) 34 #[.int .i64 0, .int .i64 0, .int .i64 0] := blk_call (by first | assumption | exact Blk.new _ _ _ | exact (Blk.new _ _ _).drew | exact blk_new1 _ _ _ _ | exact (blk_new1 _ _ _ _).drew | exact (Blk.new _ _ _).alloc _ | exact ((Blk.new _ _ _).alloc _).drew | (refine Blk.alloc ?_ _; assumption) | (refine Blk.alloc (Blk.alloc ?_ _) _; assumption)) hb9; obtain ⟨u2a, u2b, u2c, u2d, u2e, u2f, u2l⟩ := wit_facts u2)); (try (have u3 : Blk w9 (w8.heap.size + 1) 34 #[.int .i64 0, .int .i64 0, .int .i64 0] := blk_call (by first | assumption | exact Blk.new _ _ _ | exact (Blk.new _ _ _).drew | exact blk_new1 _ _ _ _ | exact (blk_new1 _ _ _ _).drew | exact (Blk.new _ _ _).alloc _ | exact ((Blk.new _ _ _).alloc _).drew | (refine Blk.alloc ?_ _; assumption) | (refine Blk.alloc (Blk.alloc ?_ _) _; assumption)) hb9; obtain ⟨u3a, u3b, u3c, u3d, u3e, u3f, u3l⟩ := wit_facts u3)); have q5 := hb9.size; try simp at q5) | (go_at_call 15; refine (HC1.out _ (HBO.out _ (by assumption))).mono ?_; rintro e w8 ⟨rfl, hb8⟩; have hB8 := bw_call (HBO.out _ (by assumption)) hb8; (try (have z0 : Blk w8 (w7.heap.size) 34 #[.int .i64 0, .int .i64 0, .int .i64 0] := blk_call (by first | assumption | exact Blk.new _ _ _ | exact (Blk.new _ _ _).drew | exact blk_new1 _ _ _ _ | exact (blk_new1 _ _ _ _).drew | exact (Blk.new _ _ _).alloc _ | exact ((Blk.new _ _ _).alloc _).drew | (refine Blk.alloc ?_ _; assumption) | (refine Blk.alloc (Blk.alloc ?_ _) _; assumption)) hb8; obtain ⟨z0a, z0b, z0c, z0d, z0e, z0f, z0l⟩ := wit_facts z0)); (try (have z1 : Blk w8 (w7.heap.size + 1) 34 #[.int .i64 0, .int .i64 0, .int .i64 0] := blk_call (by first | assumption | exact Blk.new _ _ _ | exact (Blk.new _ _ _).drew | exact blk_new1 _ _ _ _ | exact (blk_new1 _ _ _ _).drew | exact (Blk.new _ _ _).alloc _ | exact ((Blk.new _ _ _).alloc _).drew | (refine Blk.alloc ?_ _; assumption) | (refine Blk.alloc (Blk.alloc ?_ _) _; assumption)) hb8; obtain ⟨z1a, z1b, z1c, z1d, z1e, z1f, z1l⟩ := wit_facts z1)); have q4 := hb8.size; try simp at q4))
          all_goals (go_wp2_with fail; go_meet)
          all_goals (have s4 := bw_size hB8; have s5 := bw_size hB9)
          all_goals exact ⟨_, _, rfl, rfl, Lib.hid (by repeat (first | assumption | exact Blk.new _ _ _ | exact blk_new1 _ _ _ _ | exact blk_new3 _ _ _ _ _ _ _ _ _ | refine wit_set0 ?_ _ _ _ | refine Blk.alloc ?_ _ | refine Blk.far ?_ (by first | omega | (simp only; omega)) _)), Lib.hid (by repeat (first | assumption | exact Blk.new _ _ _ | exact blk_new1 _ _ _ _ | exact blk_new3 _ _ _ _ _ _ _ _ _ | refine wit_set0 ?_ _ _ _ | refine Blk.alloc ?_ _ | refine Blk.far ?_ (by first | omega | (simp only; omega)) _)), Lib.hid (HBO.out _ (by assumption))⟩
        case rest =>
          obtain ⟨ga, gb, rfl, rfl, HA8, HB8, HX8⟩ := hcut
          obtain ⟨w8, hw8⟩ : ∃ w8 : World, w8 = wc := ⟨_, rfl⟩
          rw [← hw8] at HA8 HB8 HX8 ⊢
          clear hw8 HC1 HC2
          obtain ⟨a0, a1, a2, _, _, _, al⟩ := wit_facts HA8.out
          obtain ⟨b0, b1, b2, _, _, _, bl⟩ := wit_facts HB8.out
          obtain ⟨p0, p1, q0, q1, _⟩ := HS.out _ HX8.out
          have s1 : w8.cell? ⟨g, 1, none⟩ = some (.slice (some ad) T.length c) := (HX8.out.cell (p := ⟨g, 1, none⟩) HG.out).trans HGS.out
          have HE : Hid (∀ w', Below w8.heap.size w8 w' → Below w7.heap.size w7 w') := Lib.hid fun w' h => bw_call HX8.out h
          have HI8 := Lib.hid (HI.out _ HX8.out)
          clear HI HS HBO HX8 HT7 HC3 HT3 H3 HG1 HGS HT HSF HA8 HB8
          generalize ((T.length : Int) == 1) = lo
          rcases hkb with rfl | rfl
          all_goals
            cases lo
          all_goals
            go_wp2_with fail
            all_goals
              refine HI8.out.mono ?_
              rintro e w9 ⟨rfl, hb⟩
              have HB9 := Lib.hid (HE.out _ hb)
              clear hb
              go_wp2_with fail
              go_ret
              exact ⟨rfl, HEND.out _ HB9.out⟩
end Go.Proofs.Ytnnbcflpbpafeaa
