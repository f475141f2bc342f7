/- CertifyTurned, walked. No condition. -/
import Derived.Test.YtnnbcflpbpafeaaPlainC
import Derived.Test.YtnnbcflpbpafeaaSame9
import Derived.Test.YtnnbcflpbpafeaaRowT
import Derived.Test.YtnnbcflpbpafeaaOpen
namespace Go.Proofs.Ytnnbcflpbpafeaa
open Go.RowKit

attribute [local irreducible] Blk LRow World.alloc World.setCell KeepB World.cell? World.frozen?

theorem turn_step {T L : List Tri} {k : Nat} {u : Tri} (hl : L.length = T.length) (hk : k < T.length) (hu : T[k]? = some u) (h : ∀ i, i < T.length → ∃ r, tri L i = rotT r (tri T i)) (r : Nat) : ∀ i, i < T.length → ∃ r', tri (L.set k (rotT r u)) i = rotT r' (tri T i) := fun i hi => by
  rw [tri_set (by omega)]
  split
  · rename_i e
    subst e
    exact ⟨r, by rw [tri_of hu]⟩
  · exact h i hi
theorem mir_step {T L : List Tri} {k : Nat} {u : Tri} (hl : L.length = T.length) (hk : k < T.length) (hu : T[k]? = some u) (h : ∀ i, i < k → tri L i = mir (tri T i)) : ∀ i, i < k + 1 → tri (L.set k (mir u)) i = mir (tri T i) := fun i hi => by
  rw [tri_set (by omega)]
  split
  · rename_i e
    subst e
    rw [tri_of hu]
  · exact h i (by omega)

set_option maxRecDepth 100000 in
set_option maxHeartbeats 8000000 in
theorem turnedLaw_any (N : Int) (A : Option Addr) (n c : Nat) (T : List Tri) (Ab : Option Addr) (cb : Nat) (L : List UInt8) (w : World) (ht : TrisAt w w.heap.size A n T) (hby : Reads w w.heap.size 1 Ab L.length (B8 L)) :
    Calls Try.prog 3 #[.agg #[.int .i64 N, .slice A n c], .slice Ab L.length cb] w (TrueB w) := by
  obtain rfl : n = T.length := ht.len.symm
  have HT := Lib.hid ht
  have HBY := Lib.hid hby
  clear ht hby
  go_enter Try.func3, Try.ntmps3
  go_wp2_with fail
  obtain ⟨W, hW⟩ : ∃ W, W = w.alloc (.cells #[.int .i64 N, .slice A T.length c] 24) := ⟨_, rfl⟩
  have H0 : Hid (Blk W w.heap.size 24 #[.int .i64 N, .slice A T.length c]) := by subst hW; exact Lib.hid (Blk.new _ _ _)
  have HB0 : Hid (Below w.heap.size w W) := by subst hW; exact Lib.hid ((Below.refl _ _).alloc (Nat.le_refl _) _)
  rw [← hW]
  clear hW
  generalize w.heap.size = g at H0 ⊢
  refine (awake_any _).mono ?_
  rintro e w1 ⟨rfl, hb⟩
  have H1 := Lib.hid (H0.out.below hb H0.out.lt)
  have HB1 := Lib.hid (HB0.out.trans (hb.mono HB0.out.size))
  clear hb H0 HB0
  have c0 := H1.out.cell 0
  have c1 := H1.out.cell 1
  simp at c0 c1
  by_cases hgr : (decide (40 < T.length) || decide (40 < N)) = true
  · go_wp2_with fail
    refine (great_ex2 true hgr).mono ?_
    rintro e w2 ⟨rfl, hb⟩
    have HB2 := Lib.hid (HB1.out.trans (hb.mono HB1.out.size))
    clear hb H1 c0 c1
    go_wp2_with fail
    refine (awake_any _).mono ?_
    rintro e w3 ⟨rfl, hb⟩
    have HB3 := Lib.hid (HB2.out.trans (hb.mono HB2.out.size))
    clear hb
    go_wp2_with fail
    go_ret
    exact ⟨rfl, HB3.out⟩
  have hgf : (decide (40 < T.length) || decide (40 < N)) = false := by cases h : (decide (40 < T.length) || decide (40 < N)) with | true => exact absurd h hgr | false => rfl
  have hn40 : T.length ≤ 40 := by simp at hgr; omega
  clear hgr
  have hn1000 : T.length ≤ 1000 := by omega
  go_wp2_with fail
  refine (great_ex2 false hgf).mono ?_
  rintro e w2 ⟨rfl, hb⟩
  have HB2 := Lib.hid (HB1.out.trans (hb.mono HB1.out.size))
  have H2 := Lib.hid (H1.out.below hb H1.out.lt)
  clear hb H1 HB1 c0 c1 hgf
  have c0 := H2.out.cell 0
  have c1 := H2.out.cell 1
  simp at c0 c1
  go_wp2_with fail
  have HOWN := Lib.hid fun w h => own_any N A T.length c T w hn1000 h
  have HT2 := Lib.hid ((HT.out.below HB2.out).more HB2.out.size)
  have hg2 := H2.out.lt
  have HB0 := Lib.hid (Below.refl w2.heap.size w2)
  have HS : Hid (∀ w', Below w2.heap.size w2 w' → w'.cell? ⟨g, 0, none⟩ = some (.int .i64 N) ∧ w'.cell? ⟨g, 1, none⟩ = some (.slice A T.length c) ∧ Below w2.heap.size w2 w') :=
    Lib.hid fun w' hb => ⟨(hb.cell (p := ⟨g, 0, none⟩) hg2).trans c0, (hb.cell (p := ⟨g, 1, none⟩) hg2).trans c1, hb⟩
  have HBO : Hid (∀ w', (w'.cell? ⟨g, 0, none⟩ = some (.int .i64 N) ∧ w'.cell? ⟨g, 1, none⟩ = some (.slice A T.length c) ∧ Below w2.heap.size w2 w') → Below w2.heap.size w2 w') := Lib.hid fun w' h => h.2.2
  go_cut [5, 6] (fun pt pm wx => ∃ gt gm At Am ct cm, pt = .pointer (some ⟨gt, 0, none⟩) ∧ pm = .pointer (some ⟨gm, 0, none⟩) ∧ Hid (TwoSoups wx w2.heap.size gt gm (.int .i64 N) At Am ct cm T T) ∧ Hid (Below w2.heap.size w2 wx))
  case first =>
   go_region_held3 (fun w' => w'.cell? ⟨g, 0, none⟩ = some (.int .i64 N) ∧ w'.cell? ⟨g, 1, none⟩ = some (.slice A T.length c) ∧ Below w2.heap.size w2 w')
    ((refine HS.out _ ?_; repeat (first | assumption | exact HB0.out | exact HBO.out _ (by assumption) | exact bw_call (HBO.out _ (by assumption)) hb5 | exact bw_call (HBO.out _ (by assumption)) hb4 | refine bw_alloc ?_ _ | refine bw_drew ?_ | refine bw_set ?_ (by first | exact Nat.le_refl _ | exact Nat.le_succ _ | exact bw_size hB4 | exact Nat.le_succ_of_le (bw_size hB4) | exact bw_size hB5 | exact Nat.le_succ_of_le (bw_size hB5) | omega) _)))
    (first | (go_at_call 13; have hdone := ho4; refine (HOWN.out _ (tris_on (HBO.out _ (by assumption)) HT2.out)).mono ?_; rintro e w5 ⟨A5, c5, rfl, ho5, hb5⟩; have hB5 := bw_call (HBO.out _ (by assumption)) hb5; have r4 := LRow.below (by first | assumption | (refine LRow.alloc ?_ _; assumption) | (refine LRow.alloc (LRow.alloc ?_ _) _; assumption)) hb5 (L := T) (A := A4) (c := c4) (B := w2.heap.size); have r5 : LRow w5 w2.heap.size A5 c5 T := (lrow_of ho5 rfl rfl).base (bw_size (HBO.out _ (by assumption))); have hne := row_ne (lrow_of ho4 rfl rfl) (lrow_of ho5 rfl rfl) (by first | exact Nat.le_refl _ | (simp; done) | (simp; omega)); (try (have u0 : Blk w5 (w2.heap.size) 24 #[.int .i64 0, .slice none 0 0] := blk_call (by first | assumption | exact Blk.new _ _ _ | exact (Blk.new _ _ _).drew | exact blk_new1 _ _ _ _ | exact (blk_new1 _ _ _ _).drew | exact (Blk.new _ _ _).alloc _ | exact ((Blk.new _ _ _).alloc _).drew | (refine Blk.alloc ?_ _; assumption) | (refine Blk.alloc (Blk.alloc ?_ _) _; assumption)) hb5; obtain ⟨u0a, u0b, u0c, u0d, u0l⟩ := soup_facts u0)); (try (have u1 : Blk w5 (w2.heap.size + 1) 24 #[.int .i64 0, .slice none 0 0] := blk_call (by first | assumption | exact Blk.new _ _ _ | exact (Blk.new _ _ _).drew | exact blk_new1 _ _ _ _ | exact (blk_new1 _ _ _ _).drew | exact (Blk.new _ _ _).alloc _ | exact ((Blk.new _ _ _).alloc _).drew | (refine Blk.alloc ?_ _; assumption) | (refine Blk.alloc (Blk.alloc ?_ _) _; assumption)) hb5; obtain ⟨u1a, u1b, u1c, u1d, u1l⟩ := soup_facts u1)); (try (have u2 : Blk w5 (w4.heap.size) 24 #[.int .i64 0, .slice none 0 0] := blk_call (by first | assumption | exact Blk.new _ _ _ | exact (Blk.new _ _ _).drew | exact blk_new1 _ _ _ _ | exact (blk_new1 _ _ _ _).drew | exact (Blk.new _ _ _).alloc _ | exact ((Blk.new _ _ _).alloc _).drew | (refine Blk.alloc ?_ _; assumption) | (refine Blk.alloc (Blk.alloc ?_ _) _; assumption)) hb5; obtain ⟨u2a, u2b, u2c, u2d, u2l⟩ := soup_facts u2)); (try (have u3 : Blk w5 (w4.heap.size + 1) 24 #[.int .i64 0, .slice none 0 0] := blk_call (by first | assumption | exact Blk.new _ _ _ | exact (Blk.new _ _ _).drew | exact blk_new1 _ _ _ _ | exact (blk_new1 _ _ _ _).drew | exact (Blk.new _ _ _).alloc _ | exact ((Blk.new _ _ _).alloc _).drew | (refine Blk.alloc ?_ _; assumption) | (refine Blk.alloc (Blk.alloc ?_ _) _; assumption)) hb5; obtain ⟨u3a, u3b, u3c, u3d, u3l⟩ := soup_facts u3)); have q5 := hb5.size; try simp at q5) | (go_at_call 13; refine (HOWN.out _ (tris_on (HBO.out _ (by assumption)) HT2.out)).mono ?_; rintro e w4 ⟨A4, c4, rfl, ho4, hb4⟩; have hB4 := bw_call (HBO.out _ (by assumption)) hb4; have r4 : LRow w4 w2.heap.size A4 c4 T := (lrow_of ho4 rfl rfl).base (bw_size (HBO.out _ (by assumption))); (try (have z0 : Blk w4 (w2.heap.size) 24 #[.int .i64 0, .slice none 0 0] := blk_call (by first | assumption | exact Blk.new _ _ _ | exact (Blk.new _ _ _).drew | exact blk_new1 _ _ _ _ | exact (blk_new1 _ _ _ _).drew | exact (Blk.new _ _ _).alloc _ | exact ((Blk.new _ _ _).alloc _).drew | (refine Blk.alloc ?_ _; assumption) | (refine Blk.alloc (Blk.alloc ?_ _) _; assumption)) hb4; obtain ⟨z0a, z0b, z0c, z0d, z0l⟩ := soup_facts z0)); (try (have z1 : Blk w4 (w2.heap.size + 1) 24 #[.int .i64 0, .slice none 0 0] := blk_call (by first | assumption | exact Blk.new _ _ _ | exact (Blk.new _ _ _).drew | exact blk_new1 _ _ _ _ | exact (blk_new1 _ _ _ _).drew | exact (Blk.new _ _ _).alloc _ | exact ((Blk.new _ _ _).alloc _).drew | (refine Blk.alloc ?_ _; assumption) | (refine Blk.alloc (Blk.alloc ?_ _) _; assumption)) hb4; obtain ⟨z1a, z1b, z1c, z1d, z1l⟩ := soup_facts z1)); have q4 := hb4.size; try simp at q4))
   all_goals (go_wp2_with fail; go_meet)
   all_goals (have s4 := bw_size hB4; have s5 := bw_size hB5)
   all_goals exact ⟨_, _, A4, A5, c4, c5, rfl, rfl, Lib.hid ⟨by repeat (first | assumption | exact Blk.new _ _ _ | exact blk_new1 _ _ _ _ | exact blk_new2 _ _ _ _ _ _ _ | refine soup_set0 ?_ _ _ | refine LRow.soup_set0 ?_ ?_ _ _ | refine Blk.alloc ?_ _ | refine LRow.alloc ?_ _ | refine Blk.far ?_ (by first | omega | (simp only; omega)) _), by repeat (first | assumption | exact Blk.new _ _ _ | exact blk_new1 _ _ _ _ | exact blk_new2 _ _ _ _ _ _ _ | refine soup_set0 ?_ _ _ | refine LRow.soup_set0 ?_ ?_ _ _ | refine Blk.alloc ?_ _ | refine LRow.alloc ?_ _ | refine Blk.far ?_ (by first | omega | (simp only; omega)) _), by repeat (first | assumption | exact Blk.new _ _ _ | exact blk_new1 _ _ _ _ | exact blk_new2 _ _ _ _ _ _ _ | refine soup_set0 ?_ _ _ | refine LRow.soup_set0 ?_ ?_ _ _ | refine Blk.alloc ?_ _ | refine LRow.alloc ?_ _ | refine Blk.far ?_ (by first | omega | (simp only; omega)) _), by repeat (first | assumption | exact Blk.new _ _ _ | exact blk_new1 _ _ _ _ | exact blk_new2 _ _ _ _ _ _ _ | refine soup_set0 ?_ _ _ | refine LRow.soup_set0 ?_ ?_ _ _ | refine Blk.alloc ?_ _ | refine LRow.alloc ?_ _ | refine Blk.far ?_ (by first | omega | (simp only; omega)) _), hne, by omega, by omega, by omega⟩, Lib.hid (HBO.out _ (by assumption))⟩
  case rest =>
    obtain ⟨gt, gm, At, Am, ct, cm, rfl, rfl, HTS, HB3⟩ := hcut
    obtain ⟨w3, hw3⟩ : ∃ w3 : World, w3 = wc := ⟨_, rfl⟩
    rw [← hw3] at HTS HB3 ⊢
    clear hw3 HS HBO HB0 HOWN c0 c1 hg2
    have H3 := Lib.hid (H2.out.below HB3.out H2.out.lt)
    have HT3 := Lib.hid (HT2.out.below HB3.out)
    have HY3 := Lib.hid ((HBY.out.below HB2.out).more HB2.out.size)
    obtain ⟨t0, t1, t2, t3, t4⟩ := soup_facts HTS.out.t
    go_wp2_with fail
    go_loopw [27] (fun iv wr => ∃ (k : Nat) (Lt Lm : List Tri), k ≤ T.length ∧ iv = .int .i64 k ∧ Lt.length = T.length ∧ Lm.length = T.length ∧ Hid (∀ i, i < T.length → ∃ r, tri Lt i = rotT r (tri T i)) ∧ Hid (∀ i, i < k → tri Lm i = mir (tri T i)) ∧ Hid (TwoSoups wr w2.heap.size gt gm (.int .i64 N) At Am ct cm Lt Lm) ∧ Hid (Below w2.heap.size w2 wr)) (fun iv _ => T.length - (intOf iv).toNat)
    case atStart => exact ⟨0, T, T, by omega, rfl, rfl, rfl, Lib.hid fun i _ => ⟨0, rfl⟩, Lib.hid fun i h => absurd h (by omega), HTS, HB3⟩
    case round =>
      obtain ⟨k, Lt, Lm, hk, rfl, hllt, hllm, HLT, HLM, HTK, HBK⟩ := hrel
      have HK := Lib.hid (H2.out.below HBK.out H2.out.lt)
      obtain ⟨s0, s1, _, _, s4⟩ := soup_facts HK.out
      by_cases hlt : k < T.length
      · obtain ⟨ad, u, rfl, htk, _, hadb, hc3⟩ := (HT2.out.below HBK.out).at_ hlt
        obtain ⟨e0, e1, e2, e3, e4, e5⟩ := hc3
        obtain ⟨bt, rfl, hbt, hbt2, ⟨x0, x1, x2⟩, ft⟩ := row_cells HTK.out.rt (tri_at (show k < Lt.length by omega))
        obtain ⟨bm, rfl, hbm, hbm2, ⟨y0, y1, y2⟩, fm⟩ := row_cells HTK.out.rm (tri_at (show k < Lm.length by omega))
        obtain ⟨p0, p1, _, _, _⟩ := soup_facts HTK.out.t
        obtain ⟨q0, q1, _, _, _⟩ := soup_facts HTK.out.m
        rw [hllt] at p1
        rw [hllm] at q1
        have ft0 := ft (k * 3)
        have ft1 := ft (k * 3 + 1)
        have ft2 := ft (k * 3 + 2)
        have fm0 := fm (k * 3)
        have fm1 := fm (k * 3 + 1)
        have fm2 := fm (k * 3 + 2)
        have hk0 : (0 : Int) ≤ (k : Int) := by omega
        have hk1 : (k : Int) < (T.length : Int) := by omega
        clear ft fm
        have hgb : gt ≠ bt := (soup_tri_ne HTK.out.rt HTK.out.t bt rfl).symm
        have hgg : g ≠ bt := fun e => by have := H2.out.lt; omega
        have hadb2 : ad.block ≠ bt := by omega
        have HKB := Lib.hid (KeepB.refl bt wr)
        have HS : Hid (∀ w', KeepB bt wr w' → w'.cell? ⟨g, 1, none⟩ = some (.slice (some ad) T.length c) ∧ w'.cell? ⟨gt, 1, none⟩ = some (.slice (some ⟨bt, 0, none⟩) T.length ct) ∧ w'.cell? (ad.add (k * 3)) = some (.int .i64 u.a) ∧ w'.cell? ⟨(ad.add (k * 3)).block, (ad.add (k * 3)).off + 1, none⟩ = some (.int .i64 u.b) ∧ w'.cell? ⟨(ad.add (k * 3)).block, (ad.add (k * 3)).off + 2, none⟩ = some (.int .i64 u.c) ∧ KeepB bt wr w') :=
          Lib.hid fun w' h => ⟨(h.get hgg).trans s1, (h.get hgb).trans p1, (h.get (by rw [block_of_add]; exact hadb2)).trans e0, (h.get (p := ⟨(ad.add (k * 3)).block, _, none⟩) (by simp only [block_of_add]; exact hadb2)).trans e4, (h.get (p := ⟨(ad.add (k * 3)).block, _, none⟩) (by simp only [block_of_add]; exact hadb2)).trans e5, h⟩
        have HSO : Hid (∀ w', (w'.cell? ⟨g, 1, none⟩ = some (.slice (some ad) T.length c) ∧ w'.cell? ⟨gt, 1, none⟩ = some (.slice (some ⟨bt, 0, none⟩) T.length ct) ∧ w'.cell? (ad.add (k * 3)) = some (.int .i64 u.a) ∧ w'.cell? ⟨(ad.add (k * 3)).block, (ad.add (k * 3)).off + 1, none⟩ = some (.int .i64 u.b) ∧ w'.cell? ⟨(ad.add (k * 3)).block, (ad.add (k * 3)).off + 2, none⟩ = some (.int .i64 u.c) ∧ KeepB bt wr w') → KeepB bt wr w') := Lib.hid fun w' h => h.2.2.2.2.2
        go_upto_if 33 with (fail)
        go_cut [] (fun wx => ∃ Lx : List Tri, Lx.length = T.length ∧ Hid (∀ i, i < T.length → ∃ r, tri Lx i = rotT r (tri T i)) ∧ Hid (TwoSoups wx w2.heap.size gt gm (.int .i64 N) (some ⟨bt, 0, none⟩) (some ⟨bm, 0, none⟩) ct cm Lx Lm) ∧ Hid (Below w2.heap.size w2 wx))
        case first =>
          by_cases hby2 : k < L.length
          · obtain ⟨ab, vb, rfl, hab, hvb, hcb⟩ := (HY3.out.below HBK.out).at_ hby2
            have hby2i : (k : Int) < (L.length : Int) := by omega
            have hvb' : vb = .int .u8 (L[k].toNat : Int) := by
              have : (B8 L)[k]? = some (.int .u8 (L[k].toNat : Int)) := by simp [B8, hby2]
              rw [this] at hvb
              injection hvb with hvb
              exact hvb.symm
            subst hvb'
            have hbb : L[k].toNat < 256 := UInt8.toNat_lt _
            generalize L[k].toNat = bb at hcb hbb
            go_wp2_with fail
            have hw3 : (bb : Int) % 3 = 0 ∨ (bb : Int) % 3 = 1 ∨ (bb : Int) % 3 = 2 := by omega
            generalize (bb : Int) % 3 = kk at hw3 ⊢
            have v1 : IntKind.i64.wrap 1 = 1 := by decide
            have v2 : IntKind.i64.wrap 2 = 2 := by decide
            have v3 : IntKind.i64.wrap 3 = 3 := by decide
            have v4 : IntKind.i64.wrap 4 = 4 := by decide
            have r1 : Int.tmod 1 3 = 1 := by decide
            have r2 : Int.tmod 2 3 = 2 := by decide
            have r3 : Int.tmod 3 3 = 0 := by decide
            have r4 : Int.tmod 4 3 = 1 := by decide
            rcases hw3 with rfl | rfl | rfl
            · have v5 : IntKind.i64.wrap (0 + 1) = 1 := by decide
              have v6 : IntKind.i64.wrap (0 + 2) = 2 := by decide
              go_wp2_with fail
              go_region_held3 (fun w' => w'.cell? ⟨g, 1, none⟩ = some (.slice (some ad) T.length c) ∧ w'.cell? ⟨gt, 1, none⟩ = some (.slice (some ⟨bt, 0, none⟩) T.length ct) ∧ w'.cell? (ad.add (k * 3)) = some (.int .i64 u.a) ∧ w'.cell? ⟨(ad.add (k * 3)).block, (ad.add (k * 3)).off + 1, none⟩ = some (.int .i64 u.b) ∧ w'.cell? ⟨(ad.add (k * 3)).block, (ad.add (k * 3)).off + 2, none⟩ = some (.int .i64 u.c) ∧ KeepB bt wr w')
                ((refine HS.out _ ?_; repeat (first | exact HKB.out | refine KeepB.set ?_ _ | refine KeepB.drew ?_ | exact HSO.out _ (by assumption))))
                (fail)
              go_wp2_with fail
              go_meet
              exact ⟨Lt.set k (rotT 0 u), by simp [hllt], Lib.hid (turn_step hllt hlt htk HLT.out 0), Lib.hid ((HTK.out.set_t k (rotT 0 u)).drew), Lib.hid (bw_drew (set3_below HBK.out hbt k (rotT 0 u)))⟩
            · have v5 : IntKind.i64.wrap (1 + 1) = 2 := by decide
              have v6 : IntKind.i64.wrap (1 + 2) = 3 := by decide
              go_wp2_with fail
              go_region_held3 (fun w' => w'.cell? ⟨g, 1, none⟩ = some (.slice (some ad) T.length c) ∧ w'.cell? ⟨gt, 1, none⟩ = some (.slice (some ⟨bt, 0, none⟩) T.length ct) ∧ w'.cell? (ad.add (k * 3)) = some (.int .i64 u.a) ∧ w'.cell? ⟨(ad.add (k * 3)).block, (ad.add (k * 3)).off + 1, none⟩ = some (.int .i64 u.b) ∧ w'.cell? ⟨(ad.add (k * 3)).block, (ad.add (k * 3)).off + 2, none⟩ = some (.int .i64 u.c) ∧ KeepB bt wr w')
                ((refine HS.out _ ?_; repeat (first | exact HKB.out | refine KeepB.set ?_ _ | refine KeepB.drew ?_ | exact HSO.out _ (by assumption))))
                (fail)
              go_wp2_with fail
              go_meet
              exact ⟨Lt.set k (rotT 1 u), by simp [hllt], Lib.hid (turn_step hllt hlt htk HLT.out 1), Lib.hid ((HTK.out.set_t k (rotT 1 u)).drew), Lib.hid (bw_drew (set3_below HBK.out hbt k (rotT 1 u)))⟩
            · have v5 : IntKind.i64.wrap (2 + 1) = 3 := by decide
              have v6 : IntKind.i64.wrap (2 + 2) = 4 := by decide
              go_wp2_with fail
              go_region_held3 (fun w' => w'.cell? ⟨g, 1, none⟩ = some (.slice (some ad) T.length c) ∧ w'.cell? ⟨gt, 1, none⟩ = some (.slice (some ⟨bt, 0, none⟩) T.length ct) ∧ w'.cell? (ad.add (k * 3)) = some (.int .i64 u.a) ∧ w'.cell? ⟨(ad.add (k * 3)).block, (ad.add (k * 3)).off + 1, none⟩ = some (.int .i64 u.b) ∧ w'.cell? ⟨(ad.add (k * 3)).block, (ad.add (k * 3)).off + 2, none⟩ = some (.int .i64 u.c) ∧ KeepB bt wr w')
                ((refine HS.out _ ?_; repeat (first | exact HKB.out | refine KeepB.set ?_ _ | refine KeepB.drew ?_ | exact HSO.out _ (by assumption))))
                (fail)
              go_wp2_with fail
              go_meet
              exact ⟨Lt.set k (rotT 2 u), by simp [hllt], Lib.hid (turn_step hllt hlt htk HLT.out 2), Lib.hid ((HTK.out.set_t k (rotT 2 u)).drew), Lib.hid (bw_drew (set3_below HBK.out hbt k (rotT 2 u)))⟩
          · have hby3 : ¬ ((k : Int) < (L.length : Int)) := by omega
            go_wp2_with fail
            go_meet
            exact ⟨Lt, hllt, HLT, HTK, HBK⟩
        case rest =>
          obtain ⟨Lx, hllx, HLX, HTX, HBX⟩ := hcut
          clear HKB HS HSO p0 p1 q0 q1 s0 s1 x0 x1 x2 y0 y1 y2 ft0 ft1 ft2 fm0 fm1 fm2 e0 e1 e2 e3 e4 e5 HK HTK HBK hgb hbt2 hbm2
          have HK := Lib.hid (H2.out.below HBX.out H2.out.lt)
          obtain ⟨s0, s1, _, _, s4⟩ := soup_facts HK.out
          obtain ⟨e0, e1, e2, e3, e4, e5⟩ := (HT2.out.below HBX.out).cells rfl htk
          obtain ⟨bm', hbm', hbm, hbm2, ⟨y0, y1, y2⟩, fm⟩ := row_cells HTX.out.rm (tri_at (show k < Lm.length by omega))
          injection hbm' with hbm'
          injection hbm' with hbm' _ _
          subst hbm'
          obtain ⟨q0, q1, _, _, _⟩ := soup_facts HTX.out.m
          rw [hllm] at q1
          have fm0 := fm (k * 3)
          have fm1 := fm (k * 3 + 1)
          have fm2 := fm (k * 3 + 2)
          clear fm
          have hgb : gm ≠ bm := (soup_tri_ne HTX.out.rm HTX.out.m bm rfl).symm
          have hgg : g ≠ bm := fun e => by have := H2.out.lt; omega
          have hadb2 : ad.block ≠ bm := by omega
          have HKB := Lib.hid (KeepB.refl bm wc)
          have HS : Hid (∀ w', KeepB bm wc w' → w'.cell? ⟨g, 1, none⟩ = some (.slice (some ad) T.length c) ∧ w'.cell? ⟨gm, 1, none⟩ = some (.slice (some ⟨bm, 0, none⟩) T.length cm) ∧ w'.cell? (ad.add (k * 3)) = some (.int .i64 u.a) ∧ w'.cell? ⟨(ad.add (k * 3)).block, (ad.add (k * 3)).off + 1, none⟩ = some (.int .i64 u.b) ∧ w'.cell? ⟨(ad.add (k * 3)).block, (ad.add (k * 3)).off + 2, none⟩ = some (.int .i64 u.c) ∧ KeepB bm wc w') :=
            Lib.hid fun w' h => ⟨(h.get hgg).trans s1, (h.get hgb).trans q1, (h.get (by rw [block_of_add]; exact hadb2)).trans e0, (h.get (p := ⟨(ad.add (k * 3)).block, _, none⟩) (by simp only [block_of_add]; exact hadb2)).trans e4, (h.get (p := ⟨(ad.add (k * 3)).block, _, none⟩) (by simp only [block_of_add]; exact hadb2)).trans e5, h⟩
          have HSO : Hid (∀ w', (w'.cell? ⟨g, 1, none⟩ = some (.slice (some ad) T.length c) ∧ w'.cell? ⟨gm, 1, none⟩ = some (.slice (some ⟨bm, 0, none⟩) T.length cm) ∧ w'.cell? (ad.add (k * 3)) = some (.int .i64 u.a) ∧ w'.cell? ⟨(ad.add (k * 3)).block, (ad.add (k * 3)).off + 1, none⟩ = some (.int .i64 u.b) ∧ w'.cell? ⟨(ad.add (k * 3)).block, (ad.add (k * 3)).off + 2, none⟩ = some (.int .i64 u.c) ∧ KeepB bm wc w') → KeepB bm wc w') := Lib.hid fun w' h => h.2.2.2.2.2
          go_wp2_with fail
          go_region_held3 (fun w' => w'.cell? ⟨g, 1, none⟩ = some (.slice (some ad) T.length c) ∧ w'.cell? ⟨gm, 1, none⟩ = some (.slice (some ⟨bm, 0, none⟩) T.length cm) ∧ w'.cell? (ad.add (k * 3)) = some (.int .i64 u.a) ∧ w'.cell? ⟨(ad.add (k * 3)).block, (ad.add (k * 3)).off + 1, none⟩ = some (.int .i64 u.b) ∧ w'.cell? ⟨(ad.add (k * 3)).block, (ad.add (k * 3)).off + 2, none⟩ = some (.int .i64 u.c) ∧ KeepB bm wc w')
            ((refine HS.out _ ?_; repeat (first | exact HKB.out | refine KeepB.set ?_ _ | refine KeepB.drew ?_ | exact HSO.out _ (by assumption))))
            (fail)
          go_wp2_with fail
          exact ⟨⟨k + 1, Lx, Lm.set k (mir u), by omega, by go_num, hllx, by simp [hllm], HLX, Lib.hid (mir_step hllm hlt htk HLM.out), Lib.hid ((HTX.out.set_m k (mir u)).drew), Lib.hid (bw_drew (set3_below HBX.out hbm k (mir u)))⟩, by simp [intOf]; omega⟩
      · obtain rfl : k = T.length := by omega
        have hrt : refAll N Lt = refAll N T := alike_all (rots_alike hllt (fun i => if h : i < T.length then Classical.choose (HLT.out i h) else 0) fun i h => by rw [dif_pos h]; exact Classical.choose_spec (HLT.out i h)) N
        have hrm : refAll N Lm = refAll N T := alike_all (mirs_alike hllm HLM.out) N
        obtain ⟨R, hR⟩ : ∃ R, R = refAll N T := ⟨_, rfl⟩
        rw [← hR] at hrt hrm
        have HA1 : Hid (∀ w', Below wr.heap.size wr w' → Calls Try.prog 14 #[.agg #[.int .i64 N, .slice A T.length c]] w' (WitPost w' R)) := Lib.hid fun w' h => by
          have := all_any N A T.length c T w' hn1000 (tris_on (HBK.out.trans (h.mono HBK.out.size)) HT2.out)
          rwa [allL_ref, ← hR] at this
        have HA2 : Hid (∀ w', Below wr.heap.size wr w' → Calls Try.prog 14 #[.agg #[.int .i64 N, .slice At T.length ct]] w' (WitPost w' R)) := Lib.hid fun w' h => by
          have ht := (HTK.out.rt.below h).tris
          rw [hllt] at ht
          have := all_any N At T.length ct Lt w' hn1000 ht
          rwa [allL_ref, hrt] at this
        have HA3 : Hid (∀ w', Below wr.heap.size wr w' → Calls Try.prog 14 #[.agg #[.int .i64 N, .slice Am T.length cm]] w' (WitPost w' R)) := Lib.hid fun w' h => by
          have ht := (HTK.out.rm.below h).tris
          rw [hllm] at ht
          have := all_any N Am T.length cm Lm w' hn1000 ht
          rwa [allL_ref, hrm] at this
        clear hR hrt hrm
        obtain ⟨p0, p1, _, _, pl⟩ := soup_facts HTK.out.t
        obtain ⟨q0, q1, _, _, ql⟩ := soup_facts HTK.out.m
        rw [hllt] at p1
        rw [hllm] at q1
        have HB0 := Lib.hid (Below.refl wr.heap.size wr)
        have HEND : Hid (∀ w', Below wr.heap.size wr w' → Below w.heap.size w w') := Lib.hid fun w' h => by
          have h2 := HBK.out.trans (h.mono HBK.out.size)
          exact HB2.out.trans (h2.mono HB2.out.size)
        have HS : Hid (∀ w', Below wr.heap.size wr w' → w'.cell? ⟨g, 0, none⟩ = some (.int .i64 N) ∧ w'.cell? ⟨g, 1, none⟩ = some (.slice A T.length c) ∧ w'.cell? ⟨gt, 0, none⟩ = some (.int .i64 N) ∧ w'.cell? ⟨gt, 1, none⟩ = some (.slice At T.length ct) ∧ w'.cell? ⟨gm, 0, none⟩ = some (.int .i64 N) ∧ w'.cell? ⟨gm, 1, none⟩ = some (.slice Am T.length cm) ∧ Below wr.heap.size wr w') :=
          Lib.hid fun w' hb => ⟨(hb.cell (p := ⟨g, 0, none⟩) s4).trans s0, (hb.cell (p := ⟨g, 1, none⟩) s4).trans s1, (hb.cell (p := ⟨gt, 0, none⟩) pl).trans p0, (hb.cell (p := ⟨gt, 1, none⟩) pl).trans p1, (hb.cell (p := ⟨gm, 0, none⟩) ql).trans q0, (hb.cell (p := ⟨gm, 1, none⟩) ql).trans q1, hb⟩
        have HBO : Hid (∀ w', (w'.cell? ⟨g, 0, none⟩ = some (.int .i64 N) ∧ w'.cell? ⟨g, 1, none⟩ = some (.slice A T.length c) ∧ w'.cell? ⟨gt, 0, none⟩ = some (.int .i64 N) ∧ w'.cell? ⟨gt, 1, none⟩ = some (.slice At T.length ct) ∧ w'.cell? ⟨gm, 0, none⟩ = some (.int .i64 N) ∧ w'.cell? ⟨gm, 1, none⟩ = some (.slice Am T.length cm) ∧ Below wr.heap.size wr w') → Below wr.heap.size wr w') := Lib.hid fun w' h => h.2.2.2.2.2.2
        clear HTK HLT HLM HK HBK s0 s1 s4 p0 p1 pl q0 q1 ql hllt hllm HTS HT3 HY3 H3 HT2 t0 t1 t2 t3 t4
        go_wp2_with fail
        go_region_held3 (fun w' => w'.cell? ⟨g, 0, none⟩ = some (.int .i64 N) ∧ w'.cell? ⟨g, 1, none⟩ = some (.slice A T.length c) ∧ w'.cell? ⟨gt, 0, none⟩ = some (.int .i64 N) ∧ w'.cell? ⟨gt, 1, none⟩ = some (.slice At T.length ct) ∧ w'.cell? ⟨gm, 0, none⟩ = some (.int .i64 N) ∧ w'.cell? ⟨gm, 1, none⟩ = some (.slice Am T.length cm) ∧ Below wr.heap.size wr w')
          ((refine HS.out _ ?_; repeat (first | exact HB0.out | exact bw_call (HBO.out _ (by assumption)) hb8 | exact bw_call (HBO.out _ (by assumption)) hb7 | exact bw_call (HBO.out _ (by assumption)) hb6 | refine bw_drew ?_ | exact HBO.out _ (by assumption))))
          (first | (go_at_call 14; have hdone := hr7; refine (HA3.out _ (HBO.out _ (by assumption))).mono ?_; rintro e w8 ⟨A8, c8, rfl, hr8, hb8⟩; have hB8 := bw_call (HBO.out _ (by assumption)) hb8) | (go_at_call 14; have hdone := hr6; refine (HA2.out _ (HBO.out _ (by assumption))).mono ?_; rintro e w7 ⟨A7, c7, rfl, hr7, hb7⟩; have hB7 := bw_call (HBO.out _ (by assumption)) hb7) | (go_at_call 14; refine (HA1.out _ (HBO.out _ (by assumption))).mono ?_; rintro e w6 ⟨A6, c6, rfl, hr6, hb6⟩; have hB6 := bw_call (HBO.out _ (by assumption)) hb6))
        have HM6 := Lib.hid ((((wits_at hr6).below hb7).more hb7.size).below hb8)
        have HM7 := Lib.hid ((wits_at hr7).below hb8)
        have HM8 := Lib.hid (wits_at hr8)
        have hml := row_len hr8
        have hm2 : R.length ≤ 9223372036854775807 := hml
        have HB8 := Lib.hid hB8
        clear hr6 hr7 hr8 hb6 hb7 hb8 hB6 hB7 hB8 hml HS HBO HA1 HA2 HA3 HB0
        go_wp2_with fail
        go_loopw [114] (fun iv wz => ∃ k q : Nat, k ≤ R.length ∧ iv = .int .i64 k ∧ wz = w8.drewN q) (fun iv _ => R.length - (intOf iv).toNat)
        case atStart => exact ⟨0, 0, by omega, rfl, rfl⟩
        case round =>
          obtain ⟨k, q, hk, rfl, rfl⟩ := hrel
          by_cases hlt : k < R.length
          · obtain ⟨a6, t, rfl, htk, _, _, hc6⟩ := HM6.out.at_ hlt
            obtain ⟨a7, t7, rfl, htk7, _, _, hc7⟩ := HM7.out.at_ hlt
            obtain ⟨a8, t8, rfl, htk8, _, _, hc8⟩ := HM8.out.at_ hlt
            rw [htk] at htk7 htk8
            cases htk7
            cases htk8
            obtain ⟨d0, d1, d2, d3, d4, d5⟩ := hc6
            obtain ⟨e0, e1, e2, e3, e4, e5⟩ := hc7
            obtain ⟨f0, f1, f2, f3, f4, f5⟩ := hc8
            obtain ⟨ta, tb, tc⟩ := t
            have hne : ∀ w, (binOp .neq 34 (.agg #[.int .i64 ta, .int .i64 tb, .int .i64 tc]) (.agg #[.int .i64 ta, .int .i64 tb, .int .i64 tc])).run Try.prog w = .ok (.bool false) w := fun w => by
              have := run_ne_wit (ta, tb, tc) (ta, tb, tc) w
              simpa [wv] using this
            have hk0 : (0 : Int) ≤ (k : Int) := by omega
            have hk1 : (k : Int) < (R.length : Int) := by omega
            simp only at d0 d1 d2 d3 d4 d5 e0 e1 e2 e3 e4 e5 f0 f1 f2 f3 f4 f5
            clear htk
            go_wp2_with fail
            go_quiet (fail)
            go_wp2_with fail
            exact ⟨⟨k + 1, _, by omega, by go_num, rfl⟩, by simp [intOf]; omega⟩
          · obtain rfl : k = R.length := by omega
            go_wp2_with fail
            go_ret
            exact ⟨rfl, below_drewN (HEND.out _ HB8.out) q⟩
end Go.Proofs.Ytnnbcflpbpafeaa
