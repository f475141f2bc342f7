/- PredictFirst, walked. No condition. -/
import Derived.Test.YtcpfolojfdnojaaWake28
import Derived.Test.YtcpfolojfdnojaaKnP
import Derived.Test.YtcpfolojfdnojaaIsW15
namespace Go.Proofs.Ytcpfolojfdnojaa
open Go.RowKit

set_option linter.unusedSimpArgs false
set_option linter.unusedVariables false
theorem mx3 (a b c : Int) : (if (if a < b then b else a) < c then c else if a < b then b else a) = max (max a b) c := by
  by_cases h : a < b
  · rw [if_pos h]; by_cases h2 : b < c
    · rw [if_pos h2]; omega
    · rw [if_neg h2]; omega
  · rw [if_neg h]; by_cases h2 : a < c
    · rw [if_pos h2]; omega
    · rw [if_neg h2]; omega
def maxT (t : Tri) : Int := max (max t.a t.b) t.c
def topN (T : List Tri) (v : Int) : Nat → Bool
  | 0 => false
  | i + 1 => topN T v i || (maxT (tri T i) == v)
theorem topN_iff (T : List Tri) (v : Int) (i : Nat) : topN T v i = true ↔ ∃ j, j < i ∧ maxT (tri T j) = v := by
  induction i with
  | zero => simp [topN]
  | succ i ih =>
    unfold topN
    rw [Bool.or_eq_true, ih, beq_iff_eq]
    constructor
    · rintro (⟨j, h1, h2⟩ | h)
      · exact ⟨j, by omega, h2⟩
      · exact ⟨i, by omega, h⟩
    · rintro ⟨j, h1, h2⟩
      by_cases e : j = i
      · subst e; exact .inr h2
      · exact .inl ⟨j, by omega, h2⟩
theorem max_top {m : Nat} {t : Tri} (h : TriOk m t) (v : Int) : maxT t = v ↔ ∃ r, r < 3 ∧ cornerT t r = v ∧ cornerT t ((r + 1) % 3) < v ∧ cornerT t ((r + 2) % 3) < v := by
  have h1 := h.ab
  have h2 := h.bc
  have h3 := h.ca
  unfold maxT
  constructor
  · intro e
    by_cases ha : t.a = v
    · exact ⟨0, by omega, ha, by show t.b < v; omega, by show t.c < v; omega⟩
    · by_cases hb : t.b = v
      · exact ⟨1, by omega, hb, by show t.c < v; omega, by show t.a < v; omega⟩
      · exact ⟨2, by omega, by show t.c = v; omega, by show t.a < v; omega, by show t.b < v; omega⟩
  · rintro ⟨r, hr, e, f, g⟩
    rcases (by omega : r = 0 ∨ r = 1 ∨ r = 2) with rfl | rfl | rfl
    · have e : t.a = v := e
      have f : t.b < v := f
      have g : t.c < v := g
      omega
    · have e : t.b = v := e
      have f : t.c < v := f
      have g : t.a < v := g
      omega
    · have e : t.c = v := e
      have f : t.a < v := f
      have g : t.b < v := g
      omega
theorem first_law {m : Nat} {T : List Tri} (hok : ∀ t ∈ T, TriOk m t) (v : Nat) : (known T v).l = (v : Int) - 1 ∧ (topN T (v : Int) T.length = true ∧ 0 ≤ (known T v).a ∧ 0 ≤ (known T v).b ∨ topN T (v : Int) T.length = false ∧ (known T v).a = -1 ∧ (known T v).b = -1) := by
  have hk := known_ok hok v
  refine ⟨hk.1, ?_⟩
  have key : topN T (v : Int) T.length = true ↔ ∃ c, c < 3 * T.length ∧ topB T (v : Int) c = true := by
    rw [topN_iff]
    constructor
    · rintro ⟨j, hj, e⟩
      obtain ⟨r, hr, e1, e2, e3⟩ := (max_top (hok _ (tri_mem hj)) _).1 e
      refine ⟨3 * j + r, by omega, ?_⟩
      unfold topB cv
      rw [nxc_div, pvc_div, nxc_mod, pvc_mod, show (3 * j + r) / 3 = j by omega, show (3 * j + r) % 3 = r by omega, show (3 * j + r + 1) % 3 = (r + 1) % 3 by omega, show (3 * j + r + 2) % 3 = (r + 2) % 3 by omega, decide_eq_true_eq]
      exact ⟨e1, e2, e3⟩
    · rintro ⟨c, hc, e⟩
      refine ⟨c / 3, by omega, (max_top (hok _ (tri_mem (by omega))) _).2 ⟨c % 3, Nat.mod_lt _ (by omega), ?_⟩⟩
      unfold topB cv at e
      rw [nxc_div, pvc_div, nxc_mod, pvc_mod, decide_eq_true_eq] at e
      rw [show (c % 3 + 1) % 3 = (c + 1) % 3 by omega, show (c % 3 + 2) % 3 = (c + 2) % 3 by omega]
      exact e
  cases h : leastF (topB T (v : Int)) 0 (3 * T.length) with
  | none =>
    have e : known T v = ar0 (v : Int) := by unfold known knK; rw [h]
    refine .inr ⟨?_, by rw [e]; rfl, by rw [e]; rfl⟩
    cases ht : topN T (v : Int) T.length with
    | false => rfl
    | true =>
      obtain ⟨c, hc, hb⟩ := key.1 ht
      rw [leastF_none h c (by omega) (by omega)] at hb
      cases hb
  | some c =>
    obtain ⟨_, h2, h3, _⟩ := leastF_some h
    have e : known T v = arOf T (v : Int) c := by unfold known knK; rw [h]
    rw [e]
    have o1 := cv_ok hok (nxc_lt (show c < 3 * T.length by omega))
    have o2 := cv_ok hok (pvc_lt (show c < 3 * T.length by omega))
    exact .inl ⟨key.2 ⟨c, by omega, h3⟩, o1.1, o2.1⟩
attribute [local irreducible] Blk LRow World.alloc World.setCell World.cell? World.frozen?
set_option maxRecDepth 100000 in
set_option maxHeartbeats 8000000 in
theorem firstLaw_any (N : Int) (A : Option Addr) (n c : Nat) (T : List Tri) (w : World) (ht : TrisAt w w.heap.size A n T) :
    Calls Try.prog 9 #[.agg #[.int .i64 N, .slice A n c]] w (BoolPost w true) := by
  obtain rfl : n = T.length := ht.len.symm
  have HT := Lib.hid ht
  clear ht
  obtain ⟨V, hV⟩ : ∃ V, V = w.alloc (.cells #[.int .i64 N, .slice A T.length c] 24) := ⟨_, rfl⟩
  have GA0 : Hid (Blk V w.heap.size 24 #[.int .i64 N, .slice A T.length c]) := by subst hV; exact Lib.hid (Blk.new _ _ _)
  have HB0 : Hid (Below w.heap.size w V) := by subst hV; exact Lib.hid (bw_alloc (Below.refl _ _) _)
  go_enter Try.func9, Try.ntmps9
  go_upto_region 1 with (fail)
  rw [← hV]
  clear hV
  obtain ⟨ga, hga⟩ : ∃ g, g = w.heap.size := ⟨_, rfl⟩
  rw [← hga] at GA0
  simp only [← hga]
  clear hga
  go_wp2_with fail
  refine (awake_any _).mono ?_
  rintro e w1 ⟨rfl, hb⟩
  have GA1 := Lib.hid (blk_call GA0.out hb)
  have HB1 := Lib.hid (bw_call HB0.out hb)
  clear hb HB0 GA0
  obtain ⟨s0, s1, _, _, _⟩ := soup_facts GA1.out
  by_cases hT40 : 40 < T.length
  · have hT40' : (40 : Int) < (T.length : Int) := by omega
    go_wp2_with fail
    go_ret
    exact ⟨rfl, HB1.out⟩
  have hT40' : ¬ (40 : Int) < (T.length : Int) := by omega
  go_wp2_with fail
  refine (is15_any N A c T w1 (by omega) ((HT.out.below HB1.out).more HB1.out.size)).mono ?_
  rintro e w2 ⟨rfl, hb⟩
  have GA2 := Lib.hid (blk_call GA1.out hb)
  have HB2 := Lib.hid (bw_call HB1.out hb)
  clear hb GA1 HB1 s0 s1
  by_cases hck : checkR N T = (0, 0, 0)
  rotate_left
  · rw [decide_eq_false hck]
    clear hck
    go_wp2_with fail
    go_ret
    exact ⟨rfl, HB2.out⟩
  rw [decide_eq_true hck]
  obtain ⟨m, rfl, hse⟩ := chk_iff.1 hck
  have HCK := Lib.hid hck
  have hm1 : m ≤ 4096 := hse.m1
  have HLAW := Lib.hid (fun v => first_law hse.ok v)
  clear hck hse
  obtain ⟨s0, s1, _, _, _⟩ := soup_facts GA2.out
  go_wp2_with fail
  refine (known_any (m : Int) A T.length c T w2 (by omega) ((HT.out.below HB2.out).more HB2.out.size)).mono ?_
  rintro e w3 (⟨hx, rfl, hb⟩ | ⟨m', gk, hm, hx, rfl, hg, hk, hb⟩)
  · exact absurd HCK.out hx
  obtain rfl : m = m' := by omega
  have GA3 := Lib.hid (blk_call GA2.out hb)
  have GK3 := Lib.hid hk
  have HB3 := Lib.hid (bw_call HB2.out hb)
  clear hb hx hm hk hg GA2 HB2 s0 s1
  obtain ⟨s0, s1, _, _, _⟩ := soup_facts GA3.out
  go_wp2_with fail
  clear s0 s1
  go_loopw [4] (fun iv wr => ∃ v : Nat, v ≤ m ∧ iv = .int .i64 v ∧ Hid (Blk wr ga 24 #[.int .i64 (m : Int), .slice A T.length c]) ∧ Hid (Blk wr gk 32 (arr m (known T))) ∧ Hid (Below w.heap.size w wr)) (fun iv _ => m - (intOf iv).toNat)
  case atStart => exact ⟨0, by omega, rfl, GA3, GK3, HB3⟩
  case round =>
    obtain ⟨v, hv, rfl, GAv, GKv, HBv⟩ := hrel
    obtain ⟨wB, hwB⟩ : ∃ wB : World, wB = wr := ⟨_, rfl⟩
    rw [← hwB] at GAv GKv HBv ⊢
    clear hwB GA3 GK3 HB3
    obtain ⟨s0, s1, _, _, _⟩ := soup_facts GAv.out
    by_cases hvm : v < m
    rotate_left
    · obtain rfl : v = m := by omega
      go_wp2_with fail
      go_ret
      exact ⟨rfl, HBv.out⟩
    have hvi : (v : Int) < (m : Int) := by omega
    have HV0 : Hid (topN T (v : Int) 0 = false) := Lib.hid rfl
    go_wp2_with fail
    clear s0 s1
    go_loopw [5, 6] (fun tv iv wr => ∃ i : Nat, i ≤ T.length ∧ tv = .bool (topN T (v : Int) i) ∧ iv = .int .i64 i ∧ Hid (Blk wr ga 24 #[.int .i64 (m : Int), .slice A T.length c]) ∧ Hid (Blk wr gk 32 (arr m (known T))) ∧ Hid (Below w.heap.size w wr)) (fun _ iv _ => T.length - (intOf iv).toNat)
    case atStart => exact ⟨0, by omega, rfl, rfl, GAv, GKv, HBv⟩
    case round =>
      obtain ⟨i, hi, rfl, rfl, GAwC, GKwC, HBwC⟩ := hrel
      obtain ⟨wC, hwC⟩ : ∃ wC : World, wC = wr := ⟨_, rfl⟩
      rw [← hwC] at GAwC GKwC HBwC ⊢
      clear hwC GAv GKv HBv
      by_cases hlt : i < T.length
      rotate_left
      · obtain rfl : i = T.length := by omega
        obtain ⟨hl, hcase⟩ := HLAW.out v
        have y0 := blk_fld GKwC.out hvm (j := 0) (by omega)
        have y1 := blk_fld GKwC.out hvm (j := 1) (by omega)
        have y2 := blk_fld GKwC.out hvm (j := 2) (by omega)
        rw [Nat.add_zero, show fld (known T v) 0 = (known T v).l from rfl, hl] at y0
        rw [show fld (known T v) 1 = (known T v).a from rfl] at y1
        rw [show fld (known T v) 2 = (known T v).b from rfl] at y2
        obtain ⟨s0, s1, _, _, _⟩ := soup_facts GAwC.out
        have hw1 : IntKind.i64.wrap ((v : Int) - 1) = (v : Int) - 1 := IntWalk.i64_in _ (by omega)
        rcases hcase with ⟨h1, h2, h3⟩ | ⟨h1, h2, h3⟩
        · rw [h1]
          generalize (known T v).a = xa at *
          generalize (known T v).b = xb at *
          clear h1 hl
          go_wp2_with fail
          exact ⟨⟨v + 1, by omega, by go_num, GAwC, GKwC, HBwC⟩, by simp [intOf]; omega⟩
        · rw [h1]
          rw [h2] at y1
          rw [h3] at y2
          clear h1 h2 h3 hl
          go_wp2_with fail
          exact ⟨⟨v + 1, by omega, by go_num, GAwC, GKwC, HBwC⟩, by simp [intOf]; omega⟩
      have hii : (i : Int) < (T.length : Int) := by omega
      obtain ⟨ad, hAd, tq⟩ := (HT.out.below HBwC.out).triQ HBwC.out.size hlt
      subst hAd
      have HTS : Hid (topN T (v : Int) (i + 1) = (topN T (v : Int) i || (maxT (tri T i) == (v : Int)))) := Lib.hid rfl
      have TQwC := Lib.hid tq
      clear tq
      generalize tri T i = t at *
      obtain ⟨s0, s1, _, _, _⟩ := soup_facts GAwC.out
      go_upto_region 15 with (fail)
      clear s0 s1
      cases htp : topN T (v : Int) i with
      | true =>
        rw [htp] at HTS
        have HTN : Hid (topN T (v : Int) (i + 1) = true) := Lib.hid (HTS.out.trans rfl)
        clear HTS htp
        refine wp_region_till (S := fun w' => w'.cell? ⟨ga, 0, none⟩ = some (.int .i64 (m : Int)) ∧ w'.cell? ⟨ga, 1, none⟩ = some (.slice (some ad) T.length c) ∧ w'.cell? (ad.add (i * 3)) = some (.int .i64 t.a) ∧ w'.cell? ((ad.add (i * 3)).add 1) = some (.int .i64 t.b) ∧ w'.cell? ((ad.add (i * 3)).add 2) = some (.int .i64 t.c) ∧ w'.cell? ⟨(ad.add (i * 3)).block, (ad.add (i * 3)).off + 1, none⟩ = some (.int .i64 t.b) ∧ w'.cell? ⟨(ad.add (i * 3)).block, (ad.add (i * 3)).off + 2, none⟩ = some (.int .i64 t.c)) 24 (by kernel_rfl) ⟨(soup_facts GAwC.out.drew).1, (soup_facts GAwC.out.drew).2.1, TQwC.out.drew.c.c0, TQwC.out.drew.c.c1, TQwC.out.drew.c.c2, TQwC.out.drew.c.f1, TQwC.out.drew.c.f2⟩ (fun hHeld => ?_)
        refine Till.take (i := 0) (v := ?vt1) rfl (by kernel_rfl) (by kernel_rfl) (by kernel_rfl) (by kernel_rfl) (fun _ _ _ h => h) (Or.inl ⟨by rfl, ?ht1⟩) (by assumption) ?restt1
        case ht1 => (intro w hSw; (try dsimp only at hSw); go_simp; try with_reducible rfl)
        (try simp only [Act.put, List.setIfInBounds_toArray, List.set_cons_zero, List.set_cons_succ])
        refine Till.take (i := 1) (v := ?vt2) rfl (by kernel_rfl) (by kernel_rfl) (by kernel_rfl) (by kernel_rfl) (fun _ _ _ h => h) (Or.inl ⟨by rfl, ?ht2⟩) (by assumption) ?restt2
        case ht2 => (intro w hSw; (try dsimp only at hSw); go_simp; try with_reducible rfl)
        (try simp only [Act.put, List.setIfInBounds_toArray, List.set_cons_zero, List.set_cons_succ])
        refine Till.take (i := 2) rfl (by kernel_rfl) (by kernel_rfl) (by kernel_rfl) (by kernel_rfl) (fun _ _ _ h => h) (Or.inr ⟨by rfl, rfl⟩) (by assumption) ?_
        (try simp only [Act.put, List.setIfInBounds_toArray, List.set_cons_zero, List.set_cons_succ])
        refine Till.take (i := 3) rfl (by kernel_rfl) (by kernel_rfl) (by kernel_rfl) (by kernel_rfl) (fun _ _ _ h => h) (Or.inr ⟨by rfl, rfl⟩) (by assumption) ?_
        (try simp only [Act.put, List.setIfInBounds_toArray, List.set_cons_zero, List.set_cons_succ])
        refine Till.take (i := 4) rfl (by kernel_rfl) (by kernel_rfl) (by kernel_rfl) (by kernel_rfl) (fun _ _ _ h => h) (Or.inr ⟨by rfl, rfl⟩) (by assumption) ?_
        (try simp only [Act.put, List.setIfInBounds_toArray, List.set_cons_zero, List.set_cons_succ])
        refine Till.take (i := 5) rfl (by kernel_rfl) (by kernel_rfl) (by kernel_rfl) (by kernel_rfl) (fun _ _ _ h => h) (Or.inr ⟨by rfl, rfl⟩) (by assumption) ?_
        (try simp only [Act.put, List.setIfInBounds_toArray, List.set_cons_zero, List.set_cons_succ])
        refine Till.take (i := 6) rfl (by kernel_rfl) (by kernel_rfl) (by kernel_rfl) (by kernel_rfl) (fun _ _ _ h => h) (Or.inr ⟨by rfl, rfl⟩) (by assumption) ?_
        (try simp only [Act.put, List.setIfInBounds_toArray, List.set_cons_zero, List.set_cons_succ])
        refine Till.take (i := 7) rfl (by kernel_rfl) (by kernel_rfl) (by kernel_rfl) (by kernel_rfl) (fun _ _ _ h => h) (Or.inr ⟨by rfl, rfl⟩) (by assumption) ?_
        (try simp only [Act.put, List.setIfInBounds_toArray, List.set_cons_zero, List.set_cons_succ])
        refine Till.take (i := 8) rfl (by kernel_rfl) (by kernel_rfl) (by kernel_rfl) (by kernel_rfl) (fun _ _ _ h => h) (Or.inr ⟨by rfl, rfl⟩) (by assumption) ?_
        (try simp only [Act.put, List.setIfInBounds_toArray, List.set_cons_zero, List.set_cons_succ])
        refine Till.take (i := 9) rfl (by kernel_rfl) (by kernel_rfl) (by kernel_rfl) (by kernel_rfl) (fun _ _ _ h => h) (Or.inr ⟨by rfl, rfl⟩) (by assumption) ?_
        (try simp only [Act.put, List.setIfInBounds_toArray, List.set_cons_zero, List.set_cons_succ])
        refine Till.take (i := 10) rfl (by kernel_rfl) (by kernel_rfl) (by kernel_rfl) (by kernel_rfl) (fun _ _ _ h => h) (Or.inr ⟨by rfl, rfl⟩) (by assumption) ?_
        (try simp only [Act.put, List.setIfInBounds_toArray, List.set_cons_zero, List.set_cons_succ])
        refine Till.take (i := 11) rfl (by kernel_rfl) (by kernel_rfl) (by kernel_rfl) (by kernel_rfl) (fun _ _ _ h => h) (Or.inr ⟨by rfl, rfl⟩) (by assumption) ?_
        (try simp only [Act.put, List.setIfInBounds_toArray, List.set_cons_zero, List.set_cons_succ])
        refine Till.take (i := 12) rfl (by kernel_rfl) (by kernel_rfl) (by kernel_rfl) (by kernel_rfl) (fun _ _ _ h => h) (Or.inr ⟨by rfl, rfl⟩) (by assumption) ?_
        (try simp only [Act.put, List.setIfInBounds_toArray, List.set_cons_zero, List.set_cons_succ])
        refine Till.take (i := 13) rfl (by kernel_rfl) (by kernel_rfl) (by kernel_rfl) (by kernel_rfl) (fun _ _ _ h => h) (Or.inr ⟨by rfl, rfl⟩) (by assumption) ?_
        (try simp only [Act.put, List.setIfInBounds_toArray, List.set_cons_zero, List.set_cons_succ])
        refine Till.take (i := 14) rfl (by kernel_rfl) (by kernel_rfl) (by kernel_rfl) (by kernel_rfl) (fun _ _ _ h => h) (Or.inr ⟨by rfl, rfl⟩) (by assumption) ?_
        (try simp only [Act.put, List.setIfInBounds_toArray, List.set_cons_zero, List.set_cons_succ])
        refine Till.take (i := 15) rfl (by kernel_rfl) (by kernel_rfl) (by kernel_rfl) (by kernel_rfl) (fun _ _ _ h => h) (Or.inr ⟨by rfl, rfl⟩) (by assumption) ?_
        (try simp only [Act.put, List.setIfInBounds_toArray, List.set_cons_zero, List.set_cons_succ])
        refine Till.take (i := 16) rfl (by kernel_rfl) (by kernel_rfl) (by kernel_rfl) (by kernel_rfl) (fun _ _ _ h => h) (Or.inr ⟨by rfl, rfl⟩) (by assumption) ?_
        (try simp only [Act.put, List.setIfInBounds_toArray, List.set_cons_zero, List.set_cons_succ])
        refine Till.take (i := 17) rfl (by kernel_rfl) (by kernel_rfl) (by kernel_rfl) (by kernel_rfl) (fun _ _ _ h => h) (Or.inr ⟨by rfl, rfl⟩) (by assumption) ?_
        (try simp only [Act.put, List.setIfInBounds_toArray, List.set_cons_zero, List.set_cons_succ])
        refine Till.take (i := 18) rfl (by kernel_rfl) (by kernel_rfl) (by kernel_rfl) (by kernel_rfl) (fun _ _ _ h => h) (Or.inr ⟨by rfl, rfl⟩) (by assumption) ?_
        (try simp only [Act.put, List.setIfInBounds_toArray, List.set_cons_zero, List.set_cons_succ])
        refine Till.take (i := 19) rfl (by kernel_rfl) (by kernel_rfl) (by kernel_rfl) (by kernel_rfl) (fun _ _ _ h => h) (Or.inr ⟨by rfl, rfl⟩) (by assumption) ?_
        (try simp only [Act.put, List.setIfInBounds_toArray, List.set_cons_zero, List.set_cons_succ])
        refine Till.take (i := 20) rfl (by kernel_rfl) (by kernel_rfl) (by kernel_rfl) (by kernel_rfl) (fun _ _ _ h => h) (Or.inr ⟨by rfl, rfl⟩) (by assumption) ?_
        (try simp only [Act.put, List.setIfInBounds_toArray, List.set_cons_zero, List.set_cons_succ])
        refine Till.take (i := 21) rfl (by kernel_rfl) (by kernel_rfl) (by kernel_rfl) (by kernel_rfl) (fun _ _ _ h => h) (Or.inr ⟨by rfl, rfl⟩) (by assumption) ?_
        (try simp only [Act.put, List.setIfInBounds_toArray, List.set_cons_zero, List.set_cons_succ])
        refine Till.take (i := 22) rfl (by kernel_rfl) (by kernel_rfl) (by kernel_rfl) (by kernel_rfl) (fun _ _ _ h => h) (Or.inr ⟨by rfl, rfl⟩) (by assumption) ?_
        (try simp only [Act.put, List.setIfInBounds_toArray, List.set_cons_zero, List.set_cons_succ])
        refine Till.take (i := 23) (v := ?vt3) rfl (by kernel_rfl) (by kernel_rfl) (by kernel_rfl) (by kernel_rfl) (fun _ _ _ h => h) (Or.inl ⟨by rfl, ?ht3⟩) (by assumption) ?restt3
        case ht3 => (intro w hSw; (try dsimp only at hSw); go_simp; try with_reducible rfl)
        (try simp only [Act.put, List.setIfInBounds_toArray, List.set_cons_zero, List.set_cons_succ])
        refine Till.ready (rs := [24]) (by kernel_rfl) (by simp) ?_
        refine TillEach.last rfl (fun K hK => ?_)
        · go_simp
          refine hK.out _ _ ?_
          clear hK K
          (try simp only [Act.put, List.setIfInBounds_toArray, List.set_cons_zero, List.set_cons_succ])
          refine Till.done (by kernel_rfl) ?_ _
          obtain ⟨wn, hwn⟩ : ∃ wn, wn = wC.drew := ⟨_, rfl⟩
          have GAn := Lib.hid (GAwC.out.drew)
          have GKn := Lib.hid (GKwC.out.drew)
          have HBn := Lib.hid (bw_drew HBwC.out)
          rw [← hwn] at GAn GKn HBn ⊢
          clear hwn GAwC GKwC HBwC TQwC
          go_wp2_with fail
          exact ⟨⟨i + 1, by omega, by rw [HTN.out], by go_num, GAn, GKn, HBn⟩, by simp [intOf]; omega⟩
      | false =>
        rw [htp] at HTS
        have HTN : Hid (topN T (v : Int) (i + 1) = (maxT t == (v : Int))) := Lib.hid (HTS.out.trans (by simp))
        clear HTS htp
        unfold maxT at HTN
        refine wp_region_till (S := fun w' => w'.cell? ⟨ga, 0, none⟩ = some (.int .i64 (m : Int)) ∧ w'.cell? ⟨ga, 1, none⟩ = some (.slice (some ad) T.length c) ∧ w'.cell? (ad.add (i * 3)) = some (.int .i64 t.a) ∧ w'.cell? ((ad.add (i * 3)).add 1) = some (.int .i64 t.b) ∧ w'.cell? ((ad.add (i * 3)).add 2) = some (.int .i64 t.c) ∧ w'.cell? ⟨(ad.add (i * 3)).block, (ad.add (i * 3)).off + 1, none⟩ = some (.int .i64 t.b) ∧ w'.cell? ⟨(ad.add (i * 3)).block, (ad.add (i * 3)).off + 2, none⟩ = some (.int .i64 t.c)) 24 (by kernel_rfl) ⟨(soup_facts GAwC.out.drew).1, (soup_facts GAwC.out.drew).2.1, TQwC.out.drew.c.c0, TQwC.out.drew.c.c1, TQwC.out.drew.c.c2, TQwC.out.drew.c.f1, TQwC.out.drew.c.f2⟩ (fun hHeld => ?_)
        refine Till.take (i := 0) (v := ?vt4) rfl (by kernel_rfl) (by kernel_rfl) (by kernel_rfl) (by kernel_rfl) (fun _ _ _ h => h) (Or.inl ⟨by rfl, ?ht4⟩) (by assumption) ?restt4
        case ht4 => (intro w hSw; (try dsimp only at hSw); go_simp; try with_reducible rfl)
        (try simp only [Act.put, List.setIfInBounds_toArray, List.set_cons_zero, List.set_cons_succ])
        refine Till.take (i := 1) (v := ?vt5) rfl (by kernel_rfl) (by kernel_rfl) (by kernel_rfl) (by kernel_rfl) (fun _ _ _ h => h) (Or.inl ⟨by rfl, ?ht5⟩) (by assumption) ?restt5
        case ht5 => (intro w hSw; (try dsimp only at hSw); go_simp; try with_reducible rfl)
        (try simp only [Act.put, List.setIfInBounds_toArray, List.set_cons_zero, List.set_cons_succ])
        refine Till.take (i := 2) (v := ?vt6) rfl (by kernel_rfl) (by kernel_rfl) (by kernel_rfl) (by kernel_rfl) (fun _ _ _ h => h) (Or.inl ⟨by rfl, ?ht6⟩) (by assumption) ?restt6
        case ht6 => (intro w hSw; (try dsimp only at hSw); go_simp; try with_reducible rfl)
        (try simp only [Act.put, List.setIfInBounds_toArray, List.set_cons_zero, List.set_cons_succ])
        refine Till.take (i := 3) (v := ?vt7) rfl (by kernel_rfl) (by kernel_rfl) (by kernel_rfl) (by kernel_rfl) (fun _ _ _ h => h) (Or.inl ⟨by rfl, ?ht7⟩) (by assumption) ?restt7
        case ht7 => (intro w hSw; (try dsimp only at hSw); go_simp; try with_reducible rfl)
        (try simp only [Act.put, List.setIfInBounds_toArray, List.set_cons_zero, List.set_cons_succ])
        refine Till.take (i := 4) (v := ?vt8) rfl (by kernel_rfl) (by kernel_rfl) (by kernel_rfl) (by kernel_rfl) (fun _ _ _ h => h) (Or.inl ⟨by rfl, ?ht8⟩) (by assumption) ?restt8
        case ht8 => (intro w hSw; (try dsimp only at hSw); go_simp; try with_reducible rfl)
        (try simp only [Act.put, List.setIfInBounds_toArray, List.set_cons_zero, List.set_cons_succ])
        refine Till.take (i := 5) (v := ?vt9) rfl (by kernel_rfl) (by kernel_rfl) (by kernel_rfl) (by kernel_rfl) (fun _ _ _ h => h) (Or.inl ⟨by rfl, ?ht9⟩) (by assumption) ?restt9
        case ht9 => (intro w hSw; (try dsimp only at hSw); go_simp; try with_reducible rfl)
        (try simp only [Act.put, List.setIfInBounds_toArray, List.set_cons_zero, List.set_cons_succ])
        refine Till.take (i := 6) (v := ?vt10) rfl (by kernel_rfl) (by kernel_rfl) (by kernel_rfl) (by kernel_rfl) (fun _ _ _ h => h) (Or.inl ⟨by rfl, ?ht10⟩) (by assumption) ?restt10
        case ht10 => (intro w hSw; (try dsimp only at hSw); go_simp; try with_reducible rfl)
        (try simp only [Act.put, List.setIfInBounds_toArray, List.set_cons_zero, List.set_cons_succ])
        refine Till.take (i := 7) (v := ?vt11) rfl (by kernel_rfl) (by kernel_rfl) (by kernel_rfl) (by kernel_rfl) (fun _ _ _ h => h) (Or.inl ⟨by rfl, ?ht11⟩) (by assumption) ?restt11
        case ht11 => (intro w hSw; (try dsimp only at hSw); go_simp; try with_reducible rfl)
        (try simp only [Act.put, List.setIfInBounds_toArray, List.set_cons_zero, List.set_cons_succ])
        refine Till.take (i := 8) (v := ?vt12) rfl (by kernel_rfl) (by kernel_rfl) (by kernel_rfl) (by kernel_rfl) (fun _ _ _ h => h) (Or.inl ⟨by rfl, ?ht12⟩) (by assumption) ?restt12
        case ht12 => (intro w hSw; (try dsimp only at hSw); go_simp; try with_reducible rfl)
        (try simp only [Act.put, List.setIfInBounds_toArray, List.set_cons_zero, List.set_cons_succ])
        refine Till.take (i := 9) (v := ?vt13) rfl (by kernel_rfl) (by kernel_rfl) (by kernel_rfl) (by kernel_rfl) (fun _ _ _ h => h) (Or.inl ⟨by rfl, ?ht13⟩) (by assumption) ?restt13
        case ht13 => (intro w hSw; (try dsimp only at hSw); go_simp; try with_reducible rfl)
        (try simp only [Act.put, List.setIfInBounds_toArray, List.set_cons_zero, List.set_cons_succ])
        refine Till.take (i := 10) (v := ?vt14) rfl (by kernel_rfl) (by kernel_rfl) (by kernel_rfl) (by kernel_rfl) (fun _ _ _ h => h) (Or.inl ⟨by rfl, ?ht14⟩) (by assumption) ?restt14
        case ht14 => (intro w hSw; (try dsimp only at hSw); go_simp; try with_reducible rfl)
        (try simp only [Act.put, List.setIfInBounds_toArray, List.set_cons_zero, List.set_cons_succ])
        refine Till.take (i := 11) (v := ?vt15) rfl (by kernel_rfl) (by kernel_rfl) (by kernel_rfl) (by kernel_rfl) (fun _ _ _ h => h) (Or.inl ⟨by rfl, ?ht15⟩) (by assumption) ?restt15
        case ht15 => (intro w hSw; (try dsimp only at hSw); go_simp; try with_reducible rfl)
        (try simp only [Act.put, List.setIfInBounds_toArray, List.set_cons_zero, List.set_cons_succ])
        refine Till.take (i := 12) (v := ?vt16) rfl (by kernel_rfl) (by kernel_rfl) (by kernel_rfl) (by kernel_rfl) (fun _ _ _ h => h) (Or.inl ⟨by rfl, ?ht16⟩) (by assumption) ?restt16
        case ht16 => (intro w hSw; (try dsimp only at hSw); go_simp; try with_reducible rfl)
        (try simp only [Act.put, List.setIfInBounds_toArray, List.set_cons_zero, List.set_cons_succ])
        refine Till.take (i := 13) (v := ?vt17) rfl (by kernel_rfl) (by kernel_rfl) (by kernel_rfl) (by kernel_rfl) (fun _ _ _ h => h) (Or.inl ⟨by rfl, ?ht17⟩) (by assumption) ?restt17
        case ht17 => (intro w hSw; (try dsimp only at hSw); go_simp; try with_reducible rfl)
        (try simp only [Act.put, List.setIfInBounds_toArray, List.set_cons_zero, List.set_cons_succ])
        refine Till.take (i := 14) (v := ?vt18) rfl (by kernel_rfl) (by kernel_rfl) (by kernel_rfl) (by kernel_rfl) (fun _ _ _ h => h) (Or.inl ⟨by rfl, ?ht18⟩) (by assumption) ?restt18
        case ht18 => (intro w hSw; (try dsimp only at hSw); go_simp; try with_reducible rfl)
        (try simp only [Act.put, List.setIfInBounds_toArray, List.set_cons_zero, List.set_cons_succ])
        refine Till.take (i := 15) (v := ?vt19) rfl (by kernel_rfl) (by kernel_rfl) (by kernel_rfl) (by kernel_rfl) (fun _ _ _ h => h) (Or.inl ⟨by rfl, ?ht19⟩) (by assumption) ?restt19
        case ht19 => (intro w hSw; (try dsimp only at hSw); go_simp; try with_reducible rfl)
        (try simp only [Act.put, List.setIfInBounds_toArray, List.set_cons_zero, List.set_cons_succ])
        refine Till.take (i := 16) (v := ?vt20) rfl (by kernel_rfl) (by kernel_rfl) (by kernel_rfl) (by kernel_rfl) (fun _ _ _ h => h) (Or.inl ⟨by rfl, ?ht20⟩) (by assumption) ?restt20
        case ht20 => (intro w hSw; (try dsimp only at hSw); go_simp; try with_reducible rfl)
        (try simp only [Act.put, List.setIfInBounds_toArray, List.set_cons_zero, List.set_cons_succ])
        refine Till.take (i := 17) (v := ?vt21) rfl (by kernel_rfl) (by kernel_rfl) (by kernel_rfl) (by kernel_rfl) (fun _ _ _ h => h) (Or.inl ⟨by rfl, ?ht21⟩) (by assumption) ?restt21
        case ht21 => (intro w hSw; (try dsimp only at hSw); go_simp; try with_reducible rfl)
        (try simp only [Act.put, List.setIfInBounds_toArray, List.set_cons_zero, List.set_cons_succ])
        refine Till.take (i := 18) (v := ?vt22) rfl (by kernel_rfl) (by kernel_rfl) (by kernel_rfl) (by kernel_rfl) (fun _ _ _ h => h) (Or.inl ⟨by rfl, ?ht22⟩) (by assumption) ?restt22
        case ht22 => (intro w hSw; (try dsimp only at hSw); go_simp; try with_reducible rfl)
        (try simp only [Act.put, List.setIfInBounds_toArray, List.set_cons_zero, List.set_cons_succ])
        refine Till.take (i := 19) (v := ?vt23) rfl (by kernel_rfl) (by kernel_rfl) (by kernel_rfl) (by kernel_rfl) (fun _ _ _ h => h) (Or.inl ⟨by rfl, ?ht23⟩) (by assumption) ?restt23
        case ht23 => (intro w hSw; (try dsimp only at hSw); go_simp; try with_reducible rfl)
        (try simp only [Act.put, List.setIfInBounds_toArray, List.set_cons_zero, List.set_cons_succ])
        refine Till.take (i := 20) (v := ?vt24) rfl (by kernel_rfl) (by kernel_rfl) (by kernel_rfl) (by kernel_rfl) (fun _ _ _ h => h) (Or.inl ⟨by rfl, ?ht24⟩) (by assumption) ?restt24
        case ht24 => (intro w hSw; (try dsimp only at hSw); go_simp; try with_reducible rfl)
        (try simp only [Act.put, List.setIfInBounds_toArray, List.set_cons_zero, List.set_cons_succ])
        refine Till.take (i := 21) (v := ?vt25) rfl (by kernel_rfl) (by kernel_rfl) (by kernel_rfl) (by kernel_rfl) (fun _ _ _ h => h) (Or.inl ⟨by rfl, ?ht25⟩) (by assumption) ?restt25
        case ht25 => (intro w hSw; (try dsimp only at hSw); go_simp; try with_reducible rfl)
        (try simp only [Act.put, List.setIfInBounds_toArray, List.set_cons_zero, List.set_cons_succ])
        refine Till.take (i := 22) (v := ?vt26) rfl (by kernel_rfl) (by kernel_rfl) (by kernel_rfl) (by kernel_rfl) (fun _ _ _ h => h) (Or.inl ⟨by rfl, ?ht26⟩) (by assumption) ?restt26
        case ht26 => (intro w hSw; (try dsimp only at hSw); go_simp; try with_reducible rfl)
        (try simp only [Act.put, List.setIfInBounds_toArray, List.set_cons_zero, List.set_cons_succ])
        refine Till.take (i := 23) (v := ?vt27) rfl (by kernel_rfl) (by kernel_rfl) (by kernel_rfl) (by kernel_rfl) (fun _ _ _ h => h) (Or.inl ⟨by rfl, ?ht27⟩) (by assumption) ?restt27
        case ht27 => (intro w hSw; (try dsimp only at hSw); go_simp; try with_reducible rfl)
        (try simp only [Act.put, List.setIfInBounds_toArray, List.set_cons_zero, List.set_cons_succ])
        refine Till.ready (rs := [24]) (by kernel_rfl) (by simp) ?_
        refine TillEach.last rfl (fun K hK => ?_)
        · go_simp
          refine hK.out _ _ ?_
          clear hK K
          (try simp only [Act.put, List.setIfInBounds_toArray, List.set_cons_zero, List.set_cons_succ])
          refine Till.done (by kernel_rfl) ?_ _
          obtain ⟨wn, hwn⟩ : ∃ wn, wn = wC.drew := ⟨_, rfl⟩
          have GAn := Lib.hid (GAwC.out.drew)
          have GKn := Lib.hid (GKwC.out.drew)
          have HBn := Lib.hid (bw_drew HBwC.out)
          rw [← hwn] at GAn GKn HBn ⊢
          clear hwn GAwC GKwC HBwC TQwC
          go_wp2_with fail
          exact ⟨⟨i + 1, by omega, by rw [HTN.out]; exact congrArg (fun x : Int => Value.bool (x == (v : Int))) (mx3 _ _ _), by go_num, GAn, GKn, HBn⟩, by simp [intOf]; omega⟩
end Go.Proofs.Ytcpfolojfdnojaa
