/- SeamOne, walked. -/
import Derived.Test.YtcahbcminonfbaaAlikeW
import Derived.BigRegion
namespace Go.Proofs.Ytcahbcminonfbaa
open Go.RowKit

set_option linter.unusedSimpArgs false
set_option linter.unusedVariables false
theorem run_eq_ed3 (a b c d : Int) (w : World) : (binOp .eql 38 (.agg #[.int .i64 a, .int .i64 b]) (.agg #[.int .i64 c, .int .i64 d])).run Try.prog w = .ok (.bool (a == c && b == d)) w := by
  rw [run_eql_struct]
  show ((Op.equalIn (9998 + 1 + 1) _ _ _).run _ _).andThen _ = _
  unfold Op.equalIn
  cases h1 : (a == c) <;> cases h2 : (b == d) <;> simp [go_sem, Try.underlying3, Result.andThen, List.range', h1, h2]
theorem run_ne_ed3 (a b c d : Int) (w : World) : (binOp .neq 38 (.agg #[.int .i64 a, .int .i64 b]) (.agg #[.int .i64 c, .int .i64 d])).run Try.prog w = .ok (.bool (!(a == c && b == d))) w := by
  rw [run_neq_struct]
  show ((Op.equalIn (9998 + 1 + 1) _ _ _).run _ _).andThen _ = _
  unfold Op.equalIn
  cases h1 : (a == c) <;> cases h2 : (b == d) <;> simp [go_sem, Try.underlying3, Result.andThen, List.range', h1, h2]
theorem pair_eqB (a b c d : Int) : (a == c && b == d) = decide ((a, b) = (c, d)) := by
  rw [Bool.eq_iff_iff, Bool.and_eq_true, beq_iff_eq, beq_iff_eq, decide_eq_true_eq, Prod.mk.injEq]
theorem mem_step {L : List (Int × Int)} {k : Nat} {e x : Int × Int} (h : L[k]? = some x) : decide (e ∈ L.take (k + 1)) = (decide (e ∈ L.take k) || decide (e = x)) := by
  rw [List.take_add_one, h, Bool.eq_iff_iff, Bool.or_eq_true, decide_eq_true_eq, decide_eq_true_eq, decide_eq_true_eq, List.mem_append]
  simp
/-- A value of a row is another one. -/
theorem ir_set {w : World} {B c i : Nat} {A : Option Addr} {L : List Int} (h : IR w B A c L) (hi : i < L.length) (v : Int) : ∃ g, A = some ⟨g, 0, none⟩ ∧ B ≤ g ∧ g < w.heap.size ∧ w.frozen? ⟨g, i, none⟩ = false ∧ w.cell? ⟨g, i, none⟩ = some (.int .i64 (kval L i)) ∧ KR (w.setCell ⟨g, i, none⟩ (.int .i64 v)) A (L.set i v) := by
  obtain ⟨g, cap, hv, hB, hlt⟩ := World.ownsRow.form h (show 0 < L.length by omega)
  have hA : A = some ⟨g, 0, none⟩ := by injection hv
  subst hA
  obtain ⟨cs, hb⟩ := own_blk h (k := g) (by simp [Value.ownBlock])
  have hadd : ∀ j, (⟨g, 0, none⟩ : Addr).add j = ⟨g, j, none⟩ := fun j => by
    unfold Addr.add
    split <;> simp_all
  have hc : ∀ j, j < L.length → cs[j]? = some (.int .i64 (kval L j)) := fun j hj => by
    have h1 := World.ownsRow.cells h (g := g) rfl j (.int .i64 (kval L j)) (by unfold ZL; rw [List.getElem?_map, kval_at hj]; rfl)
    rw [hadd, hb.cell] at h1
    exact h1
  have hs := hb.set_ i (.int .i64 v)
  refine ⟨g, rfl, hB, hlt, hb.frozen i, by rw [hb.cell]; exact hc i hi, ⟨by simp [ZL], fun _ => ⟨_, rfl, hs.lt, fun j u hu => ?_⟩⟩⟩
  rw [hadd, hs.cell]
  have hj : j < L.length := by
    have := (List.getElem?_eq_some_iff.1 hu).1
    simpa [ZL] using this
  unfold ZL at hu
  rw [List.getElem?_map, List.getElem?_set] at hu
  rw [Array.getElem?_setIfInBounds]
  have hsz : i < cs.size := by
    have := hc i hi
    rw [Array.getElem?_eq_some_iff] at this
    exact this.1
  by_cases e : i = j
  · subst e
    rw [if_pos rfl, if_pos hi] at hu
    rw [if_pos rfl, if_pos hsz]
    simpa using hu
  · rw [if_neg e, kval_at hj] at hu
    rw [if_neg e, hc j hj]
    exact hu
theorem ok_set {n i : Nat} {K : List Int} {v : Int} (h : okK n K) (h0 : 0 ≤ v) (h1 : v ≤ 65535) : okK n (K.set i v) := by
  rcases h with rfl | ⟨hl, hv⟩
  · exact .inl rfl
  · refine .inr ⟨by rw [List.length_set, hl], fun x hx => ?_⟩
    rcases List.mem_or_eq_of_mem_set hx with h2 | h2
    · exact hv x h2
    · omega
structure EK (w : World) (g k : Nat) (x y : Int) : Prop where
  c0 : w.cell? ⟨g, k * 2, none⟩ = some (.int .i64 x)
  c1 : w.cell? ⟨g, k * 2 + 1, none⟩ = some (.int .i64 y)
  lt : g < w.heap.size
theorem EK.below {w w' : World} {g k : Nat} {x y : Int} (h : EK w g k x y) (hb : Below w.heap.size w w') : EK w' g k x y := ⟨(hb.cell (p := ⟨g, k * 2, none⟩) h.lt).trans h.c0, (hb.cell (p := ⟨g, k * 2 + 1, none⟩) h.lt).trans h.c1, Nat.lt_of_lt_of_le h.lt hb.size⟩
theorem EK.drew {w : World} {g k : Nat} {x y : Int} (h : EK w g k x y) : EK w.drew g k x y := ⟨h.c0, h.c1, h.lt⟩
theorem EC.ek {w : World} {A : Option Addr} {L : List (Int × Int)} (h : EC w A L) {k : Nat} {e : Int × Int} (he : L[k]? = some e) : ∃ g, A = some ⟨g, 0, none⟩ ∧ EK w g k e.1 e.2 := by
  obtain ⟨g, hA, hg, hc⟩ := h.at_ (by have := (List.getElem?_eq_some_iff.1 he).1; omega)
  exact ⟨g, hA, (hc k e he).1, (hc k e he).2, hg⟩
attribute [local irreducible] Blk LRow World.alloc World.setCell World.cell? World.frozen? MapV ERow
set_option maxRecDepth 100000 in
set_option maxHeartbeats 8000000 in
theorem oneLaw_any (N : Int) (A : Option Addr) (n c : Nat) (T : List Tri) (Ak : Option Addr) (nk ck : Nat) (K : List Int) (ci : Int) (b : Nat) (w : World) (hb16 : b < 65536) (hnk : K.length = nk) (hnk2 : nk ≤ 9223372036854775807) (ht : TrisAt w w.heap.size A n T) (hk : Reads w w.heap.size 1 Ak nk (ZL K)) :
    Calls Try.prog 4 #[.agg #[.int .i64 N, .slice A n c], .slice Ak nk ck, .int .i64 ci, .int .u16 (b : Int)] w (BoolPost w true) := by
  obtain rfl : n = T.length := ht.len.symm
  subst hnk
  have HT := Lib.hid ht
  have HK0 : Hid (KR w Ak K) := Lib.hid ⟨hk⟩
  clear ht hk
  obtain ⟨i0, hi0, hz0, hz1, hz2⟩ := info_parts int_infoC
  obtain ⟨V, hV⟩ : ∃ V, V = w.alloc (.cells #[.int .i64 N, .slice A T.length c] 24) := ⟨_, rfl⟩
  have GA0 : Hid (Blk V w.heap.size 24 #[.int .i64 N, .slice A T.length c]) := by subst hV; exact Lib.hid (Blk.new _ _ _)
  have HB0 : Hid (Below w.heap.size w V) := by subst hV; exact Lib.hid (bw_alloc (Below.refl _ _) _)
  go_enter Try.func4, Try.ntmps4
  go_upto_region 1 with (fail)
  rw [← hV]
  clear hV
  obtain ⟨ga, hga⟩ : ∃ g, g = w.heap.size := ⟨_, rfl⟩
  rw [← hga] at GA0
  simp only [← hga]
  clear hga
  go_wp2_with fail
  refine (awake_any _).mono ?_
  rintro e w1 ⟨rfl, hb⟩
  have GA1 := Lib.hid (blk_call GA0.out hb)
  have HB1 := Lib.hid (bw_call HB0.out hb)
  clear hb HB0 GA0
  obtain ⟨s0, s1, _, _, _⟩ := soup_facts GA1.out
  go_wp2_with fail
  refine (table31_any N A c T w1 ((HT.out.below HB1.out).more HB1.out.size)).mono ?_
  rintro e w2 (⟨rfl, hb, _⟩ | ⟨g, m, rfl, hm60, hT40, hck, rfl, htab, hb⟩)
  · have HB2 := Lib.hid (bw_call HB1.out hb)
    clear hb
    go_wp2_with fail
    go_ret
    exact ⟨rfl, HB2.out⟩
  have GA2 := Lib.hid (blk_call GA1.out hb)
  have HT2 := Lib.hid htab
  have HB2 := Lib.hid (bw_call HB1.out hb)
  clear hb htab hck GA1 HB1 s0 s1
  obtain ⟨s0, s1, _, _, _⟩ := soup_facts GA2.out
  by_cases hk200 : 200 < K.length
  · have hki : (200 : Int) < (K.length : Int) := by omega
    go_wp2_with fail
    go_ret
    exact ⟨rfl, HB2.out⟩
  have hki : ¬ (200 : Int) < (K.length : Int) := by omega
  go_wp2_with fail
  refine (check31_any (m : Int) A c T Ak ck K w2 (by omega) (by omega) (HK0.out.below HB2.out)).mono ?_
  rintro e w3 ⟨rfl, hb⟩
  have HT3 := Lib.hid (HT2.out.below hb)
  have HB3 := Lib.hid (bw_call HB2.out hb)
  clear hb GA2 HT2 HB2 s0 s1
  by_cases hok : okK T.length K
  rotate_left
  · rw [decide_eq_false hok]
    clear hok
    go_wp2_with fail
    go_ret
    exact ⟨rfl, HB3.out⟩
  rw [decide_eq_true hok]
  by_cases hc0 : ci < 0
  · go_wp2_with fail
    go_ret
    exact ⟨rfl, HB3.out⟩
  by_cases hc1 : (K.length : Int) ≤ ci
  · go_wp2_with fail
    go_ret
    exact ⟨rfl, HB3.out⟩
  obtain ⟨i, rfl⟩ := Int.eq_ofNat_of_zero_le (show 0 ≤ ci by omega)
  have hik : i < K.length := by omega
  have hkl : K.length = 3 * T.length := by
    rcases hok with e | e
    · rw [e] at hik; cases hik
    · exact e.1
  have hi3 : i < 3 * T.length := by omega
  have HOK := Lib.hid hok
  have HOM : Hid (okK T.length (K.set i (b : Int))) := Lib.hid (ok_set hok (by omega) (by omega))
  have hcv : IntKind.i64.wrap (b : Int) = (b : Int) := IntWalk.i64_in _ (by omega)
  have hii : (i : Int) < (K.length : Int) := by omega
  have HSE := Lib.hid HT3.out.s
  have HKL := Lib.hid hkl
  clear hok hc0 hc1 hkl
  have HBE : Hid (Below w3.heap.size w3 (w3.alloc (.cells #[] 3))) := Lib.hid (bw_alloc (Below.refl _ _) _)
  go_upto_region 7 with (at_builtin; go_must (refine wpList_append_sl _ rfl (.tmp 51) (.tmp 52) _ rfl w3.heap.size 3 i0 _ 1 8 Try.underlying25 hi0 hz0 hz1 hz2 rfl (by omega) (.slice (some ⟨w3.heap.size, 0, none⟩) 0 0) 0 [] rfl (own_at (Blk.new _ _ _) (Nat.le_refl _)) w.heap.size Ak K.length ck (ZL K) rfl ((HK0.out.r.below HB3.out).below (by have := HBE.out; exact this.mono HB3.out.size)) (by intro u hu; obtain ⟨z, _, rfl⟩ := List.mem_map.1 hu; rfl) (by simp only [maxLen]; omega) (by omega) (bw_size HBE.out) ?_); intro A5 c5 w5 hown5 hg5 hat5)
  simp only [Nat.zero_add, List.nil_append] at hown5 ⊢
  have HI5 : Hid (IR w5 w3.heap.size A5 c5 K) := Lib.hid hown5
  have HB5 : Hid (Below w3.heap.size w3 w5) := Lib.hid (bw_grow HBE.out hg5 (fun q hq => by simp [Value.ownBlock] at hq; omega))
  clear hown5 hg5 hat5 HBE
  obtain ⟨gm, hgm, hBm, hltm, hfm, hcm, hkr⟩ := ir_set HI5.out hik (b : Int)
  subst hgm
  obtain ⟨w6, hw6⟩ : ∃ W, W = w5.setCell ⟨gm, i, none⟩ (.int .i64 (b : Int)) := ⟨_, rfl⟩
  have HM6 : Hid (KR w6 (some ⟨gm, 0, none⟩) (K.set i (b : Int))) := by subst hw6; exact Lib.hid hkr
  have HB6 : Hid (Below w3.heap.size w3 w6) := by subst hw6; exact Lib.hid (bw_set HB5.out hBm _)
  clear hkr
  go_upto_region 8 with (fail)
  rw [← hw6]
  clear hw6 HI5 HB5 hfm hcm hBm hltm
  have HT6 := Lib.hid (HT3.out.below HB6.out)
  have HC6 : Hid (Below w.heap.size w w6) := Lib.hid (bw_call HB3.out HB6.out)
  have HK6 := Lib.hid (HK0.out.below HC6.out)
  have hml : (K.set i (b : Int)).length = K.length := by rw [List.length_set]
  clear HB6 HT3 HB3
  go_wp2_with fail
  refine (edges31_any g m T Ak ck K w6 (by omega) HT6.out HK6.out HOK.out).mono ?_
  rintro e w7 ⟨A7, c7, rfl, he, hb⟩
  have HE7 := Lib.hid he
  have HT7 := Lib.hid (HT6.out.below hb)
  have HM7 := Lib.hid (HM6.out.below hb)
  have HC7 := Lib.hid (bw_call HC6.out hb)
  clear he hb HT6 HM6 HC6 HK6
  go_upto_region 9 with (fail)
  have HED := Lib.hid (edges31_any g m T (some ⟨gm, 0, none⟩) c5 (K.set i (b : Int)) w7 (by rw [hml]; omega) HT7.out HM7.out HOM.out)
  rw [hml] at HED
  go_wp2_with fail
  refine HED.out.mono ?_
  rintro e w8 ⟨A8, c8, rfl, he, hb⟩
  have E18 := Lib.hid (HE7.out.below hb).ec
  have E28 := Lib.hid he.ec
  have HT8 := Lib.hid (HT7.out.below hb)
  have HC8 := Lib.hid (bw_call HC7.out hb)
  have HL1 : Hid (∀ e ∈ sortE (seamsN T K (3 * T.length)), ¬ e ∈ sortE (seamsN T (K.set i (b : Int)) (3 * T.length)) → e = ce T (nxc i) ∨ e = ce T (pvc i) ∨ (e.2, e.1) = ce T (nxc i) ∨ (e.2, e.1) = ce T (pvc i)) := Lib.hid fun e h1 h2 => seams_one HSE.out (.inr ⟨rfl, rfl⟩) (sortE_mem.1 h1) (fun h => h2 (sortE_mem.2 h))
  have HL2 : Hid (∀ e ∈ sortE (seamsN T (K.set i (b : Int)) (3 * T.length)), ¬ e ∈ sortE (seamsN T K (3 * T.length)) → e = ce T (nxc i) ∨ e = ce T (pvc i) ∨ (e.2, e.1) = ce T (nxc i) ∨ (e.2, e.1) = ce T (pvc i)) := Lib.hid fun e h1 h2 => seams_one HSE.out (.inl ⟨rfl, rfl⟩) (sortE_mem.1 h1) (fun h => h2 (sortE_mem.2 h))
  have HS1 : Hid ((sortE (seamsN T K (3 * T.length))).length ≤ 1000) := Lib.hid (by rw [sortE_len]; have := seamsN_len T K (3 * T.length); omega)
  have HS2 : Hid ((sortE (seamsN T (K.set i (b : Int)) (3 * T.length))).length ≤ 1000) := Lib.hid (by rw [sortE_len]; have := seamsN_len T (K.set i (b : Int)) (3 * T.length); omega)
  clear he hb HED HE7 HT7 HM7 HC7 HOK HOM
  generalize sortE (seamsN T K (3 * T.length)) = S1 at *
  generalize sortE (seamsN T (K.set i (b : Int)) (3 * T.length)) = S2 at *
  have hs1 := HS1.out
  have hs2 := HS2.out
  go_upto_region 12 with (fail)
  go_wp2_with fail
  refine (HT8.out.next hi3).mono ?_
  rintro e v1 ⟨rfl, hb⟩
  have HTv1 := Lib.hid (HT8.out.below hb)
  have E1v1 := Lib.hid (E18.out.below hb)
  have E2v1 := Lib.hid (E28.out.below hb)
  have HCv1 := Lib.hid (bw_call HC8.out hb)
  clear hb HT8 E18 E28 HC8
  go_wp2_with fail
  refine (HTv1.out.edge (nxc_lt hi3)).mono ?_
  rintro e v2 ⟨rfl, hb⟩
  have HTv2 := Lib.hid (HTv1.out.below hb)
  have E1v2 := Lib.hid (E1v1.out.below hb)
  have E2v2 := Lib.hid (E2v1.out.below hb)
  have HCv2 := Lib.hid (bw_call HCv1.out hb)
  clear hb HTv1 E1v1 E2v1 HCv1
  go_wp2_with fail
  refine (HTv2.out.prev hi3).mono ?_
  rintro e v3 ⟨rfl, hb⟩
  have HTv3 := Lib.hid (HTv2.out.below hb)
  have E1v3 := Lib.hid (E1v2.out.below hb)
  have E2v3 := Lib.hid (E2v2.out.below hb)
  have HCv3 := Lib.hid (bw_call HCv2.out hb)
  clear hb HTv2 E1v2 E2v2 HCv2
  go_wp2_with fail
  refine (HTv3.out.edge (pvc_lt hi3)).mono ?_
  rintro e v4 ⟨rfl, hb⟩
  have E1v4 := Lib.hid (E1v3.out.below hb)
  have E2v4 := Lib.hid (E2v3.out.below hb)
  have HCv4 := Lib.hid (bw_call HCv3.out hb)
  clear hb HTv3 E1v3 E2v3 HCv3
  generalize ce T (nxc i) = pe at *
  generalize ce T (pvc i) = qe at *
  obtain ⟨p1, p2⟩ := pe
  obtain ⟨q1, q2⟩ := qe
  simp only
  obtain ⟨w9, hw9⟩ : ∃ W, W = (v4.alloc (.cells #[.int .i64 p1, .int .i64 p2] 38)).alloc (.cells #[.int .i64 q1, .int .i64 q2] 38) := ⟨_, rfl⟩
  have P9 : Hid (Blk w9 v4.heap.size 38 #[.int .i64 p1, .int .i64 p2]) := by subst hw9; exact Lib.hid ((Blk.new _ _ _).alloc _)
  have Q9 : Hid (Blk w9 (v4.heap.size + 1) 38 #[.int .i64 q1, .int .i64 q2]) := by subst hw9; exact Lib.hid (blk_new1 _ _ _ _)
  have E19 : Hid (EC w9 A7 S1) := by subst hw9; exact Lib.hid ((E1v4.out.alloc _).alloc _)
  have E29 : Hid (EC w9 A8 S2) := by subst hw9; exact Lib.hid ((E2v4.out.alloc _).alloc _)
  have HC9 : Hid (Below w.heap.size w w9) := by subst hw9; exact Lib.hid (bw_alloc (bw_alloc HCv4.out _) _)
  go_upto_region 13 with (fail)
  rw [← hw9]
  obtain ⟨gp, hgp⟩ : ∃ g, g = v4.heap.size := ⟨_, rfl⟩
  obtain ⟨gq, hgq⟩ : ∃ g, g = v4.heap.size + 1 := ⟨_, rfl⟩
  rw [← hgq] at Q9 ⊢
  rw [← hgp] at P9
  simp only [← hgp]
  clear hgp hgq hw9 E1v4 E2v4 HCv4
  go_wp2_with fail
  go_loopw [17] (fun iv wr => ∃ k : Nat, k ≤ 2 ∧ iv = .int .i64 k ∧ Hid (Below w9.heap.size w9 wr)) (fun iv _ => 2 - (intOf iv).toNat)
  case atStart => exact ⟨0, by omega, rfl, Lib.hid (Below.refl _ _)⟩
  case round =>
    obtain ⟨k, hk, hkv, HBi⟩ := hrel
    obtain ⟨wI, hwI⟩ : ∃ wI : World, wI = wr := ⟨_, rfl⟩
    rw [← hwI] at HBi ⊢
    clear hwI
    by_cases hk2 : k < 2
    rotate_left
    · obtain rfl : k = 2 := by omega
      have hkv' : _ = Value.int .i64 2 := hkv
      subst hkv'
      clear hkv
      go_wp2_with fail
      go_ret
      exact ⟨rfl, bw_call HC9.out HBi.out⟩
    have hkI : (k : Int) < 2 := by omega
    subst hkv
    go_upto_if 94 with (fail)
    go_cut [18, 19] (fun xv yv wx => ∃ (X : List (Int × Int)) (AX : Option Addr) (cX : Nat) (Y : List (Int × Int)) (AY : Option Addr) (cY : Nat), xv = .slice AX X.length cX ∧ yv = .slice AY Y.length cY ∧ X.length ≤ 1000 ∧ Y.length ≤ 1000 ∧ Hid (EC w9 AX X) ∧ Hid (EC w9 AY Y) ∧ Hid (∀ e ∈ X, ¬ e ∈ Y → e = (p1, p2) ∨ e = (q1, q2) ∨ (e.2, e.1) = (p1, p2) ∨ (e.2, e.1) = (q1, q2)) ∧ wx = wI)
    case first =>
      by_cases hk0 : k = 0
      · have hb1 : ((k : Int) == 1) = false := by simp; omega
        go_wp2_with fail
        go_meet
        exact ⟨S1, A7, c7, S2, A8, c8, rfl, rfl, hs1, hs2, E19, E29, HL1, rfl⟩
      · have hb1 : ((k : Int) == 1) = true := by simp; omega
        go_wp2_with fail
        go_meet
        exact ⟨S2, A8, c8, S1, A7, c7, rfl, rfl, hs2, hs1, E29, E19, HL2, rfl⟩
    case rest =>
      obtain ⟨X, AX, cX, Y, AY, cY, rfl, rfl, hX, hY, EXX, EYY, HLW, hw⟩ := hcut
      replace hw := hw.symm
      subst hw
      clear E19 E29 HL1 HL2 hs1 hs2
      go_wp2_with fail
      go_loopw [20] (fun iv wr => ∃ j : Nat, j ≤ X.length ∧ iv = .int .i64 j ∧ Hid (Below w9.heap.size w9 wr)) (fun iv _ => X.length - (intOf iv).toNat)
      case atStart => exact ⟨0, by omega, rfl, HBi⟩
      case round =>
        obtain ⟨j, hj, rfl, HBj⟩ := hrel
        obtain ⟨wJ, hwJ⟩ : ∃ wJ : World, wJ = wr := ⟨_, rfl⟩
        rw [← hwJ] at HBj ⊢
        clear hwJ HBi
        by_cases hltj : j < X.length
        rotate_left
        · obtain rfl : j = X.length := by omega
          go_wp2_with fail
          exact ⟨⟨k + 1, by omega, by go_num, HBj⟩, by simp [intOf]; omega⟩
        have hji : (j : Int) < (X.length : Int) := by omega
        have hje := List.getElem?_eq_getElem hltj
        obtain ⟨gx, hgx, hek⟩ := (EXX.out).ek hje
        subst hgx
        have HMX : Hid (X[j] ∈ X) := Lib.hid (List.getElem_mem hltj)
        have HLX := Lib.hid (HLW.out X[j] HMX.out)
        have EX9 := Lib.hid hek
        clear hek hje HMX
        generalize X[j] = ex at HLX EX9
        obtain ⟨x, y⟩ := ex
        simp only at EX9 HLX
        go_wp2_with fail
        go_loopw [21, 22] (fun nv iv wr => ∃ h : Nat, h ≤ Y.length ∧ nv = .bool (decide ((x, y) ∈ Y.take h)) ∧ iv = .int .i64 h ∧ Hid (Below w9.heap.size w9 wr)) (fun _ iv _ => Y.length - (intOf iv).toNat)
        case atStart => exact ⟨0, by omega, by simp, rfl, HBj⟩
        case round =>
          obtain ⟨h, hh, rfl, rfl, HBwH⟩ := hrel
          obtain ⟨wH, hwH⟩ : ∃ wH : World, wH = wr := ⟨_, rfl⟩
          rw [← hwH] at HBwH ⊢
          clear hwH HBj
          have EXwH := Lib.hid (EX9.out.below HBwH.out)
          by_cases hlth : h < Y.length
          · have hhi : (h : Int) < (Y.length : Int) := by omega
            have hhe := List.getElem?_eq_getElem hlth
            have HST := Lib.hid (mem_step (e := (x, y)) hhe)
            obtain ⟨gy, hgy, hek⟩ := ((EYY.out).below HBwH.out).ek hhe
            have EYwH := Lib.hid hek
            clear hek hhe
            generalize Y[h] = ey at HST EYwH
            obtain ⟨x2, y2⟩ := ey
            simp only at EYwH HST
            rw [← pair_eqB] at HST
            subst hgy
            have heq := run_eq_ed3 x y x2 y2
            go_upto_region 26 with (fail)
            cases hin : decide ((x, y) ∈ Y.take h) with
            | true =>
              rw [hin] at HST
              refine wp_region_till (S := fun w' => w'.cell? ⟨gx, j * 2, none⟩ = some (.int .i64 x) ∧ w'.cell? ⟨gx, j * 2 + 1, none⟩ = some (.int .i64 y) ∧ w'.cell? ⟨gy, h * 2, none⟩ = some (.int .i64 x2) ∧ w'.cell? ⟨gy, h * 2 + 1, none⟩ = some (.int .i64 y2)) 12 (by kernel_rfl) ⟨EXwH.out.drew.c0, EXwH.out.drew.c1, EYwH.out.drew.c0, EYwH.out.drew.c1⟩ (fun hHeld => ?_)
              refine Till.take (i := 0) (v := ?vt1) rfl (by kernel_rfl) (by kernel_rfl) (by kernel_rfl) (by kernel_rfl) (fun _ _ _ h => h) (Or.inl ⟨by rfl, ?ht1⟩) (by assumption) ?restt1
              case ht1 => (intro w hSw; (try dsimp only at hSw); go_simp; try with_reducible rfl)
              (try simp only [Act.put, List.setIfInBounds_toArray, List.set_cons_zero, List.set_cons_succ])
              refine Till.take (i := 1) (v := ?vt2) rfl (by kernel_rfl) (by kernel_rfl) (by kernel_rfl) (by kernel_rfl) (fun _ _ _ h => h) (Or.inl ⟨by rfl, ?ht2⟩) (by assumption) ?restt2
              case ht2 => (intro w hSw; (try dsimp only at hSw); go_simp; try with_reducible rfl)
              (try simp only [Act.put, List.setIfInBounds_toArray, List.set_cons_zero, List.set_cons_succ])
              refine Till.take (i := 2) rfl (by kernel_rfl) (by kernel_rfl) (by kernel_rfl) (by kernel_rfl) (fun _ _ _ h => h) (Or.inr ⟨by rfl, rfl⟩) (by assumption) ?_
              (try simp only [Act.put, List.setIfInBounds_toArray, List.set_cons_zero, List.set_cons_succ])
              refine Till.take (i := 3) rfl (by kernel_rfl) (by kernel_rfl) (by kernel_rfl) (by kernel_rfl) (fun _ _ _ h => h) (Or.inr ⟨by rfl, rfl⟩) (by assumption) ?_
              (try simp only [Act.put, List.setIfInBounds_toArray, List.set_cons_zero, List.set_cons_succ])
              refine Till.take (i := 4) rfl (by kernel_rfl) (by kernel_rfl) (by kernel_rfl) (by kernel_rfl) (fun _ _ _ h => h) (Or.inr ⟨by rfl, rfl⟩) (by assumption) ?_
              (try simp only [Act.put, List.setIfInBounds_toArray, List.set_cons_zero, List.set_cons_succ])
              refine Till.take (i := 5) rfl (by kernel_rfl) (by kernel_rfl) (by kernel_rfl) (by kernel_rfl) (fun _ _ _ h => h) (Or.inr ⟨by rfl, rfl⟩) (by assumption) ?_
              (try simp only [Act.put, List.setIfInBounds_toArray, List.set_cons_zero, List.set_cons_succ])
              refine Till.take (i := 6) rfl (by kernel_rfl) (by kernel_rfl) (by kernel_rfl) (by kernel_rfl) (fun _ _ _ h => h) (Or.inr ⟨by rfl, rfl⟩) (by assumption) ?_
              (try simp only [Act.put, List.setIfInBounds_toArray, List.set_cons_zero, List.set_cons_succ])
              refine Till.take (i := 7) rfl (by kernel_rfl) (by kernel_rfl) (by kernel_rfl) (by kernel_rfl) (fun _ _ _ h => h) (Or.inr ⟨by rfl, rfl⟩) (by assumption) ?_
              (try simp only [Act.put, List.setIfInBounds_toArray, List.set_cons_zero, List.set_cons_succ])
              refine Till.take (i := 8) rfl (by kernel_rfl) (by kernel_rfl) (by kernel_rfl) (by kernel_rfl) (fun _ _ _ h => h) (Or.inr ⟨by rfl, rfl⟩) (by assumption) ?_
              (try simp only [Act.put, List.setIfInBounds_toArray, List.set_cons_zero, List.set_cons_succ])
              refine Till.take (i := 9) rfl (by kernel_rfl) (by kernel_rfl) (by kernel_rfl) (by kernel_rfl) (fun _ _ _ h => h) (Or.inr ⟨by rfl, rfl⟩) (by assumption) ?_
              (try simp only [Act.put, List.setIfInBounds_toArray, List.set_cons_zero, List.set_cons_succ])
              refine Till.take (i := 10) rfl (by kernel_rfl) (by kernel_rfl) (by kernel_rfl) (by kernel_rfl) (fun _ _ _ h => h) (Or.inr ⟨by rfl, rfl⟩) (by assumption) ?_
              (try simp only [Act.put, List.setIfInBounds_toArray, List.set_cons_zero, List.set_cons_succ])
              refine Till.take (i := 11) (v := ?vt3) rfl (by kernel_rfl) (by kernel_rfl) (by kernel_rfl) (by kernel_rfl) (fun _ _ _ h => h) (Or.inl ⟨by rfl, ?ht3⟩) (by assumption) ?restt3
              case ht3 => (intro w hSw; (try dsimp only at hSw); go_simp; try with_reducible rfl)
              (try simp only [Act.put, List.setIfInBounds_toArray, List.set_cons_zero, List.set_cons_succ])
              refine Till.ready (rs := [12]) (by kernel_rfl) (by simp) ?_
              refine TillEach.last rfl (fun K hK => ?_)
              · go_simp
                refine hK.out _ _ ?_
                clear hK K
                (try simp only [Act.put, List.setIfInBounds_toArray, List.set_cons_zero, List.set_cons_succ])
                refine Till.done (by kernel_rfl) ?_ _
                go_wp2_with fail
                exact ⟨⟨h + 1, by omega, by rw [HST.out]; rfl, by go_num, Lib.hid (bw_drew HBwH.out)⟩, by simp [intOf]; omega⟩
            | false =>
              rw [hin] at HST
              refine wp_region_till (S := fun w' => w'.cell? ⟨gx, j * 2, none⟩ = some (.int .i64 x) ∧ w'.cell? ⟨gx, j * 2 + 1, none⟩ = some (.int .i64 y) ∧ w'.cell? ⟨gy, h * 2, none⟩ = some (.int .i64 x2) ∧ w'.cell? ⟨gy, h * 2 + 1, none⟩ = some (.int .i64 y2)) 12 (by kernel_rfl) ⟨EXwH.out.drew.c0, EXwH.out.drew.c1, EYwH.out.drew.c0, EYwH.out.drew.c1⟩ (fun hHeld => ?_)
              refine Till.take (i := 0) (v := ?vt4) rfl (by kernel_rfl) (by kernel_rfl) (by kernel_rfl) (by kernel_rfl) (fun _ _ _ h => h) (Or.inl ⟨by rfl, ?ht4⟩) (by assumption) ?restt4
              case ht4 => (intro w hSw; (try dsimp only at hSw); go_simp; try with_reducible rfl)
              (try simp only [Act.put, List.setIfInBounds_toArray, List.set_cons_zero, List.set_cons_succ])
              refine Till.take (i := 1) (v := ?vt5) rfl (by kernel_rfl) (by kernel_rfl) (by kernel_rfl) (by kernel_rfl) (fun _ _ _ h => h) (Or.inl ⟨by rfl, ?ht5⟩) (by assumption) ?restt5
              case ht5 => (intro w hSw; (try dsimp only at hSw); go_simp; try with_reducible rfl)
              (try simp only [Act.put, List.setIfInBounds_toArray, List.set_cons_zero, List.set_cons_succ])
              refine Till.take (i := 2) (v := ?vt6) rfl (by kernel_rfl) (by kernel_rfl) (by kernel_rfl) (by kernel_rfl) (fun _ _ _ h => h) (Or.inl ⟨by rfl, ?ht6⟩) (by assumption) ?restt6
              case ht6 => (intro w hSw; (try dsimp only at hSw); go_simp; try with_reducible rfl)
              (try simp only [Act.put, List.setIfInBounds_toArray, List.set_cons_zero, List.set_cons_succ])
              refine Till.take (i := 3) (v := ?vt7) rfl (by kernel_rfl) (by kernel_rfl) (by kernel_rfl) (by kernel_rfl) (fun _ _ _ h => h) (Or.inl ⟨by rfl, ?ht7⟩) (by assumption) ?restt7
              case ht7 => (intro w hSw; (try dsimp only at hSw); go_simp; try with_reducible rfl)
              (try simp only [Act.put, List.setIfInBounds_toArray, List.set_cons_zero, List.set_cons_succ])
              refine Till.take (i := 4) (v := ?vt8) rfl (by kernel_rfl) (by kernel_rfl) (by kernel_rfl) (by kernel_rfl) (fun _ _ _ h => h) (Or.inl ⟨by rfl, ?ht8⟩) (by assumption) ?restt8
              case ht8 => (intro w hSw; (try dsimp only at hSw); go_simp; try with_reducible rfl)
              (try simp only [Act.put, List.setIfInBounds_toArray, List.set_cons_zero, List.set_cons_succ])
              refine Till.take (i := 5) (v := ?vt9) rfl (by kernel_rfl) (by kernel_rfl) (by kernel_rfl) (by kernel_rfl) (fun _ _ _ h => h) (Or.inl ⟨by rfl, ?ht9⟩) (by assumption) ?restt9
              case ht9 => (intro w hSw; (try dsimp only at hSw); go_simp; try with_reducible rfl)
              (try simp only [Act.put, List.setIfInBounds_toArray, List.set_cons_zero, List.set_cons_succ])
              refine Till.take (i := 6) (v := ?vt10) rfl (by kernel_rfl) (by kernel_rfl) (by kernel_rfl) (by kernel_rfl) (fun _ _ _ h => h) (Or.inl ⟨by rfl, ?ht10⟩) (by assumption) ?restt10
              case ht10 => (intro w hSw; (try dsimp only at hSw); go_simp; try with_reducible rfl)
              (try simp only [Act.put, List.setIfInBounds_toArray, List.set_cons_zero, List.set_cons_succ])
              refine Till.take (i := 7) (v := ?vt11) rfl (by kernel_rfl) (by kernel_rfl) (by kernel_rfl) (by kernel_rfl) (fun _ _ _ h => h) (Or.inl ⟨by rfl, ?ht11⟩) (by assumption) ?restt11
              case ht11 => (intro w hSw; (try dsimp only at hSw); go_simp; try with_reducible rfl)
              (try simp only [Act.put, List.setIfInBounds_toArray, List.set_cons_zero, List.set_cons_succ])
              refine Till.take (i := 8) (v := ?vt12) rfl (by kernel_rfl) (by kernel_rfl) (by kernel_rfl) (by kernel_rfl) (fun _ _ _ h => h) (Or.inl ⟨by rfl, ?ht12⟩) (by assumption) ?restt12
              case ht12 => (intro w hSw; (try dsimp only at hSw); go_simp; try with_reducible rfl)
              (try simp only [Act.put, List.setIfInBounds_toArray, List.set_cons_zero, List.set_cons_succ])
              refine Till.take (i := 9) (v := ?vt13) rfl (by kernel_rfl) (by kernel_rfl) (by kernel_rfl) (by kernel_rfl) (fun _ _ _ h => h) (Or.inl ⟨by rfl, ?ht13⟩) (by assumption) ?restt13
              case ht13 => (intro w hSw; (try dsimp only at hSw); go_simp; try with_reducible rfl)
              (try simp only [Act.put, List.setIfInBounds_toArray, List.set_cons_zero, List.set_cons_succ])
              refine Till.take (i := 10) (v := ?vt14) rfl (by kernel_rfl) (by kernel_rfl) (by kernel_rfl) (by kernel_rfl) (fun _ _ _ h => h) (Or.inl ⟨by rfl, ?ht14⟩) (by assumption) ?restt14
              case ht14 => (intro w hSw; (try dsimp only at hSw); go_simp; try with_reducible rfl)
              (try simp only [Act.put, List.setIfInBounds_toArray, List.set_cons_zero, List.set_cons_succ])
              refine Till.take (i := 11) (v := ?vt15) rfl (by kernel_rfl) (by kernel_rfl) (by kernel_rfl) (by kernel_rfl) (fun _ _ _ h => h) (Or.inl ⟨by rfl, ?ht15⟩) (by assumption) ?restt15
              case ht15 => (intro w hSw; (try dsimp only at hSw); go_simp; try with_reducible rfl)
              (try simp only [Act.put, List.setIfInBounds_toArray, List.set_cons_zero, List.set_cons_succ])
              refine Till.ready (rs := [12]) (by kernel_rfl) (by simp) ?_
              refine TillEach.last rfl (fun K hK => ?_)
              · go_simp
                refine hK.out _ _ ?_
                clear hK K
                (try simp only [Act.put, List.setIfInBounds_toArray, List.set_cons_zero, List.set_cons_succ])
                refine Till.done (by kernel_rfl) ?_ _
                go_wp2_with fail
                exact ⟨⟨h + 1, by omega, by rw [HST.out, Bool.false_or], by go_num, Lib.hid (bw_drew HBwH.out)⟩, by simp [intOf]; omega⟩
          · obtain rfl : h = Y.length := by omega
            have HIN : Hid (decide ((x, y) ∈ Y.take Y.length) = decide ((x, y) ∈ Y)) := Lib.hid (by rw [List.take_length])
            obtain ⟨bn, HBN⟩ : ∃ bn, Hid (decide ((x, y) ∈ Y.take Y.length) = bn) := ⟨_, Lib.hid rfl⟩
            rw [HIN.out] at HBN
            rw [HIN.out, HBN.out]
            clear HIN
            have x0 := EXwH.out.c0
            have x1 := EXwH.out.c1
            have hxl := EXwH.out.lt
            have hxl1 : gx < wH.heap.size + 1 := by omega
            go_upto_region 27 with (fail)
            go_cut [23] (fun pv wx => ∃ gu, pv = .pointer (some ⟨gu, 0, none⟩) ∧ Hid (Blk wx gu 38 #[.int .i64 y, .int .i64 x]) ∧ Hid (Below wH.heap.size wH wx))
            case first =>
              go_region
              all_goals go_wp2_with fail
              all_goals go_meet
              all_goals exact ⟨_, rfl, Lib.hid (Blk.new _ _ _).drew, Lib.hid (bw_drew (bw_alloc (Below.refl _ _) _))⟩
            case rest =>
              obtain ⟨gu, rfl, GUw, HBw⟩ := hcut
              obtain ⟨wU, hwU⟩ : ∃ wU : World, wU = wc := ⟨_, rfl⟩
              rw [← hwU] at GUw HBw ⊢
              clear hwU x0 x1 hxl hxl1
              have GUwU := GUw
              have EXwU := Lib.hid (EXwH.out.below HBw.out)
              have HBwU : Hid (Below w9.heap.size w9 wU) := Lib.hid (bw_call HBwH.out HBw.out)
              have PwU := Lib.hid (blk_call P9.out HBwU.out)
              have QwU := Lib.hid (blk_call Q9.out HBwU.out)
              clear GUw HBw HBwH EXwH
              cases bn with
              | true =>
                clear HLX HBN
                go_upto_region 28 with (fail)
                refine wp_region_held_drew (S := fun w' => w'.cell? ⟨gx, j * 2, none⟩ = some (.int .i64 x) ∧ w'.cell? ⟨gx, j * 2 + 1, none⟩ = some (.int .i64 y) ∧ w'.cell? ⟨gp, 0, none⟩ = some (.int .i64 p1) ∧ w'.cell? ⟨gp, 1, none⟩ = some (.int .i64 p2) ∧ w'.cell? ⟨gq, 0, none⟩ = some (.int .i64 q1) ∧ w'.cell? ⟨gq, 1, none⟩ = some (.int .i64 q2) ∧ w'.cell? ⟨gu, 0, none⟩ = some (.int .i64 y) ∧ w'.cell? ⟨gu, 1, none⟩ = some (.int .i64 x)) (by kernel_rfl) ⟨EXwU.out.drew.c0, EXwU.out.drew.c1, PwU.out.drew.cell 0, PwU.out.drew.cell 1, QwU.out.drew.cell 0, QwU.out.drew.cell 1, GUwU.out.drew.cell 0, GUwU.out.drew.cell 1⟩ (fun hHeld => ?_)
                refine held_take (i := 0) (v := ?v1) rfl (by kernel_rfl) (by kernel_rfl) (by kernel_rfl) (fun _ _ _ h => h) (Or.inl ⟨by rfl, ?hy1⟩) (by assumption) ?rest1
                case hy1 => (intro w hSw; (try dsimp only at hSw); go_simp; try with_reducible rfl)
                (try simp only [Act.put, List.setIfInBounds_toArray, List.set_cons_zero, List.set_cons_succ])
                refine held_take (i := 1) (v := ?v2) rfl (by kernel_rfl) (by kernel_rfl) (by kernel_rfl) (fun _ _ _ h => h) (Or.inl ⟨by rfl, ?hy2⟩) (by assumption) ?rest2
                case hy2 => (intro w hSw; (try dsimp only at hSw); go_simp; try with_reducible rfl)
                (try simp only [Act.put, List.setIfInBounds_toArray, List.set_cons_zero, List.set_cons_succ])
                refine held_take (i := 2) (v := ?v3) rfl (by kernel_rfl) (by kernel_rfl) (by kernel_rfl) (fun _ _ _ h => h) (Or.inl ⟨by rfl, ?hy3⟩) (by assumption) ?rest3
                case hy3 => (intro w hSw; (try dsimp only at hSw); go_simp; try with_reducible rfl)
                (try simp only [Act.put, List.setIfInBounds_toArray, List.set_cons_zero, List.set_cons_succ])
                refine held_take (i := 3) rfl (by kernel_rfl) (by kernel_rfl) (by kernel_rfl) (fun _ _ _ h => h) (Or.inr ⟨by rfl, rfl⟩) (by assumption) ?_
                (try simp only [Act.put, List.setIfInBounds_toArray, List.set_cons_zero, List.set_cons_succ])
                refine held_take (i := 4) rfl (by kernel_rfl) (by kernel_rfl) (by kernel_rfl) (fun _ _ _ h => h) (Or.inr ⟨by rfl, rfl⟩) (by assumption) ?_
                (try simp only [Act.put, List.setIfInBounds_toArray, List.set_cons_zero, List.set_cons_succ])
                refine held_take (i := 5) rfl (by kernel_rfl) (by kernel_rfl) (by kernel_rfl) (fun _ _ _ h => h) (Or.inr ⟨by rfl, rfl⟩) (by assumption) ?_
                (try simp only [Act.put, List.setIfInBounds_toArray, List.set_cons_zero, List.set_cons_succ])
                refine held_take (i := 6) rfl (by kernel_rfl) (by kernel_rfl) (by kernel_rfl) (fun _ _ _ h => h) (Or.inr ⟨by rfl, rfl⟩) (by assumption) ?_
                (try simp only [Act.put, List.setIfInBounds_toArray, List.set_cons_zero, List.set_cons_succ])
                refine held_take (i := 7) rfl (by kernel_rfl) (by kernel_rfl) (by kernel_rfl) (fun _ _ _ h => h) (Or.inr ⟨by rfl, rfl⟩) (by assumption) ?_
                (try simp only [Act.put, List.setIfInBounds_toArray, List.set_cons_zero, List.set_cons_succ])
                refine held_take (i := 8) rfl (by kernel_rfl) (by kernel_rfl) (by kernel_rfl) (fun _ _ _ h => h) (Or.inr ⟨by rfl, rfl⟩) (by assumption) ?_
                (try simp only [Act.put, List.setIfInBounds_toArray, List.set_cons_zero, List.set_cons_succ])
                refine held_take (i := 9) (v := ?v4) rfl (by kernel_rfl) (by kernel_rfl) (by kernel_rfl) (fun _ _ _ h => h) (Or.inl ⟨by rfl, ?hy4⟩) (by assumption) ?rest4
                case hy4 => (intro w hSw; (try dsimp only at hSw); go_simp; try with_reducible rfl)
                (try simp only [Act.put, List.setIfInBounds_toArray, List.set_cons_zero, List.set_cons_succ])
                refine held_take (i := 10) (v := ?v5) rfl (by kernel_rfl) (by kernel_rfl) (by kernel_rfl) (fun _ _ _ h => h) (Or.inl ⟨by rfl, ?hy5⟩) (by assumption) ?rest5
                case hy5 => (intro w hSw; (try dsimp only at hSw); go_simp; try with_reducible rfl)
                (try simp only [Act.put, List.setIfInBounds_toArray, List.set_cons_zero, List.set_cons_succ])
                refine held_take (i := 11) rfl (by kernel_rfl) (by kernel_rfl) (by kernel_rfl) (fun _ _ _ h => h) (Or.inr ⟨by rfl, rfl⟩) (by assumption) ?_
                (try simp only [Act.put, List.setIfInBounds_toArray, List.set_cons_zero, List.set_cons_succ])
                refine held_take (i := 12) rfl (by kernel_rfl) (by kernel_rfl) (by kernel_rfl) (fun _ _ _ h => h) (Or.inr ⟨by rfl, rfl⟩) (by assumption) ?_
                (try simp only [Act.put, List.setIfInBounds_toArray, List.set_cons_zero, List.set_cons_succ])
                refine held_take (i := 13) rfl (by kernel_rfl) (by kernel_rfl) (by kernel_rfl) (fun _ _ _ h => h) (Or.inr ⟨by rfl, rfl⟩) (by assumption) ?_
                (try simp only [Act.put, List.setIfInBounds_toArray, List.set_cons_zero, List.set_cons_succ])
                refine held_take (i := 14) rfl (by kernel_rfl) (by kernel_rfl) (by kernel_rfl) (fun _ _ _ h => h) (Or.inr ⟨by rfl, rfl⟩) (by assumption) ?_
                (try simp only [Act.put, List.setIfInBounds_toArray, List.set_cons_zero, List.set_cons_succ])
                refine held_take (i := 15) rfl (by kernel_rfl) (by kernel_rfl) (by kernel_rfl) (fun _ _ _ h => h) (Or.inr ⟨by rfl, rfl⟩) (by assumption) ?_
                (try simp only [Act.put, List.setIfInBounds_toArray, List.set_cons_zero, List.set_cons_succ])
                refine held_take (i := 16) rfl (by kernel_rfl) (by kernel_rfl) (by kernel_rfl) (fun _ _ _ h => h) (Or.inr ⟨by rfl, rfl⟩) (by assumption) ?_
                (try simp only [Act.put, List.setIfInBounds_toArray, List.set_cons_zero, List.set_cons_succ])
                refine held_take (i := 17) (v := ?v6) rfl (by kernel_rfl) (by kernel_rfl) (by kernel_rfl) (fun _ _ _ h => h) (Or.inl ⟨by rfl, ?hy6⟩) (by assumption) ?rest6
                case hy6 => (intro w hSw; (try dsimp only at hSw); go_simp; try with_reducible rfl)
                (try simp only [Act.put, List.setIfInBounds_toArray, List.set_cons_zero, List.set_cons_succ])
                refine held_take (i := 18) (v := ?v7) rfl (by kernel_rfl) (by kernel_rfl) (by kernel_rfl) (fun _ _ _ h => h) (Or.inl ⟨by rfl, ?hy7⟩) (by assumption) ?rest7
                case hy7 => (intro w hSw; (try dsimp only at hSw); go_simp; try with_reducible rfl)
                (try simp only [Act.put, List.setIfInBounds_toArray, List.set_cons_zero, List.set_cons_succ])
                refine held_take (i := 19) rfl (by kernel_rfl) (by kernel_rfl) (by kernel_rfl) (fun _ _ _ h => h) (Or.inr ⟨by rfl, rfl⟩) (by assumption) ?_
                (try simp only [Act.put, List.setIfInBounds_toArray, List.set_cons_zero, List.set_cons_succ])
                refine held_take (i := 20) rfl (by kernel_rfl) (by kernel_rfl) (by kernel_rfl) (fun _ _ _ h => h) (Or.inr ⟨by rfl, rfl⟩) (by assumption) ?_
                (try simp only [Act.put, List.setIfInBounds_toArray, List.set_cons_zero, List.set_cons_succ])
                refine held_take (i := 21) rfl (by kernel_rfl) (by kernel_rfl) (by kernel_rfl) (fun _ _ _ h => h) (Or.inr ⟨by rfl, rfl⟩) (by assumption) ?_
                (try simp only [Act.put, List.setIfInBounds_toArray, List.set_cons_zero, List.set_cons_succ])
                refine held_take (i := 22) (v := ?v8) rfl (by kernel_rfl) (by kernel_rfl) (by kernel_rfl) (fun _ _ _ h => h) (Or.inl ⟨by rfl, ?hy8⟩) (by assumption) ?rest8
                case hy8 => (intro w hSw; (try dsimp only at hSw); go_simp; try with_reducible rfl)
                (try simp only [Act.put, List.setIfInBounds_toArray, List.set_cons_zero, List.set_cons_succ])
                refine held_take (i := 23) (v := ?v9) rfl (by kernel_rfl) (by kernel_rfl) (by kernel_rfl) (fun _ _ _ h => h) (Or.inl ⟨by rfl, ?hy9⟩) (by assumption) ?rest9
                case hy9 => (intro w hSw; (try dsimp only at hSw); go_simp; try with_reducible rfl)
                (try simp only [Act.put, List.setIfInBounds_toArray, List.set_cons_zero, List.set_cons_succ])
                refine held_take (i := 24) rfl (by kernel_rfl) (by kernel_rfl) (by kernel_rfl) (fun _ _ _ h => h) (Or.inr ⟨by rfl, rfl⟩) (by assumption) ?_
                (try simp only [Act.put, List.setIfInBounds_toArray, List.set_cons_zero, List.set_cons_succ])
                refine held_take (i := 25) rfl (by kernel_rfl) (by kernel_rfl) (by kernel_rfl) (fun _ _ _ h => h) (Or.inr ⟨by rfl, rfl⟩) (by assumption) ?_
                (try simp only [Act.put, List.setIfInBounds_toArray, List.set_cons_zero, List.set_cons_succ])
                refine held_take (i := 26) rfl (by kernel_rfl) (by kernel_rfl) (by kernel_rfl) (fun _ _ _ h => h) (Or.inr ⟨by rfl, rfl⟩) (by assumption) ?_
                (try simp only [Act.put, List.setIfInBounds_toArray, List.set_cons_zero, List.set_cons_succ])
                refine held_take (i := 27) (v := ?v10) rfl (by kernel_rfl) (by kernel_rfl) (by kernel_rfl) (fun _ _ _ h => h) (Or.inl ⟨by rfl, ?hy10⟩) (by assumption) ?rest10
                case hy10 => (intro w hSw; (try dsimp only at hSw); go_simp; try with_reducible rfl)
                (try simp only [Act.put, List.setIfInBounds_toArray, List.set_cons_zero, List.set_cons_succ])
                refine wpAnyH_done (by kernel_rfl) ?_ _
                go_wp2_with fail
                exact ⟨⟨j + 1, by omega, by go_num, Lib.hid (bw_drew HBwU.out)⟩, by simp [intOf]; omega⟩
              | false =>
                have hlx := HLX.out (of_decide_eq_false HBN.out)
                have n1 := run_ne_ed3 x y p1 p2
                have n2 := run_ne_ed3 x y q1 q2
                have n3 := run_ne_ed3 y x p1 p2
                have n4 := run_ne_ed3 y x q1 q2
                rw [pair_eqB] at n1 n2 n3 n4
                clear HLX HBN
                go_upto_region 28 with (fail)
                by_cases h1 : (x, y) = (p1, p2)
                · rw [decide_eq_true h1] at n1
                  simp only [Bool.not_true] at n1
                  clear hlx h1
                  refine wp_region_held_drew (S := fun w' => w'.cell? ⟨gx, j * 2, none⟩ = some (.int .i64 x) ∧ w'.cell? ⟨gx, j * 2 + 1, none⟩ = some (.int .i64 y) ∧ w'.cell? ⟨gp, 0, none⟩ = some (.int .i64 p1) ∧ w'.cell? ⟨gp, 1, none⟩ = some (.int .i64 p2) ∧ w'.cell? ⟨gq, 0, none⟩ = some (.int .i64 q1) ∧ w'.cell? ⟨gq, 1, none⟩ = some (.int .i64 q2) ∧ w'.cell? ⟨gu, 0, none⟩ = some (.int .i64 y) ∧ w'.cell? ⟨gu, 1, none⟩ = some (.int .i64 x)) (by kernel_rfl) ⟨EXwU.out.drew.c0, EXwU.out.drew.c1, PwU.out.drew.cell 0, PwU.out.drew.cell 1, QwU.out.drew.cell 0, QwU.out.drew.cell 1, GUwU.out.drew.cell 0, GUwU.out.drew.cell 1⟩ (fun hHeld => ?_)
                  refine held_take (i := 0) (v := ?v11) rfl (by kernel_rfl) (by kernel_rfl) (by kernel_rfl) (fun _ _ _ h => h) (Or.inl ⟨by rfl, ?hy11⟩) (by assumption) ?rest11
                  case hy11 => (intro w hSw; (try dsimp only at hSw); go_simp; try with_reducible rfl)
                  (try simp only [Act.put, List.setIfInBounds_toArray, List.set_cons_zero, List.set_cons_succ])
                  refine held_take (i := 1) (v := ?v12) rfl (by kernel_rfl) (by kernel_rfl) (by kernel_rfl) (fun _ _ _ h => h) (Or.inl ⟨by rfl, ?hy12⟩) (by assumption) ?rest12
                  case hy12 => (intro w hSw; (try dsimp only at hSw); go_simp; try with_reducible rfl)
                  (try simp only [Act.put, List.setIfInBounds_toArray, List.set_cons_zero, List.set_cons_succ])
                  refine held_take (i := 2) (v := ?v13) rfl (by kernel_rfl) (by kernel_rfl) (by kernel_rfl) (fun _ _ _ h => h) (Or.inl ⟨by rfl, ?hy13⟩) (by assumption) ?rest13
                  case hy13 => (intro w hSw; (try dsimp only at hSw); go_simp; try with_reducible rfl)
                  (try simp only [Act.put, List.setIfInBounds_toArray, List.set_cons_zero, List.set_cons_succ])
                  refine held_take (i := 3) (v := ?v14) rfl (by kernel_rfl) (by kernel_rfl) (by kernel_rfl) (fun _ _ _ h => h) (Or.inl ⟨by rfl, ?hy14⟩) (by assumption) ?rest14
                  case hy14 => (intro w hSw; (try dsimp only at hSw); go_simp; try with_reducible rfl)
                  (try simp only [Act.put, List.setIfInBounds_toArray, List.set_cons_zero, List.set_cons_succ])
                  refine held_take (i := 4) (v := ?v15) rfl (by kernel_rfl) (by kernel_rfl) (by kernel_rfl) (fun _ _ _ h => h) (Or.inl ⟨by rfl, ?hy15⟩) (by assumption) ?rest15
                  case hy15 => (intro w hSw; (try dsimp only at hSw); go_simp; try with_reducible rfl)
                  (try simp only [Act.put, List.setIfInBounds_toArray, List.set_cons_zero, List.set_cons_succ])
                  refine held_take (i := 5) (v := ?v16) rfl (by kernel_rfl) (by kernel_rfl) (by kernel_rfl) (fun _ _ _ h => h) (Or.inl ⟨by rfl, ?hy16⟩) (by assumption) ?rest16
                  case hy16 => (intro w hSw; (try dsimp only at hSw); go_simp; try with_reducible rfl)
                  (try simp only [Act.put, List.setIfInBounds_toArray, List.set_cons_zero, List.set_cons_succ])
                  refine held_take (i := 6) (v := ?v17) rfl (by kernel_rfl) (by kernel_rfl) (by kernel_rfl) (fun _ _ _ h => h) (Or.inl ⟨by rfl, ?hy17⟩) (by assumption) ?rest17
                  case hy17 => (intro w hSw; (try dsimp only at hSw); go_simp; try with_reducible rfl)
                  (try simp only [Act.put, List.setIfInBounds_toArray, List.set_cons_zero, List.set_cons_succ])
                  refine held_take (i := 7) (v := ?v18) rfl (by kernel_rfl) (by kernel_rfl) (by kernel_rfl) (fun _ _ _ h => h) (Or.inl ⟨by rfl, ?hy18⟩) (by assumption) ?rest18
                  case hy18 => (intro w hSw; (try dsimp only at hSw); go_simp; try with_reducible rfl)
                  (try simp only [Act.put, List.setIfInBounds_toArray, List.set_cons_zero, List.set_cons_succ])
                  refine held_take (i := 8) (v := ?v19) rfl (by kernel_rfl) (by kernel_rfl) (by kernel_rfl) (fun _ _ _ h => h) (Or.inl ⟨by rfl, ?hy19⟩) (by assumption) ?rest19
                  case hy19 => (intro w hSw; (try dsimp only at hSw); go_simp; try with_reducible rfl)
                  (try simp only [Act.put, List.setIfInBounds_toArray, List.set_cons_zero, List.set_cons_succ])
                  refine held_take (i := 9) (v := ?v20) rfl (by kernel_rfl) (by kernel_rfl) (by kernel_rfl) (fun _ _ _ h => h) (Or.inl ⟨by rfl, ?hy20⟩) (by assumption) ?rest20
                  case hy20 => (intro w hSw; (try dsimp only at hSw); go_simp; try with_reducible rfl)
                  (try simp only [Act.put, List.setIfInBounds_toArray, List.set_cons_zero, List.set_cons_succ])
                  refine held_take (i := 10) (v := ?v21) rfl (by kernel_rfl) (by kernel_rfl) (by kernel_rfl) (fun _ _ _ h => h) (Or.inl ⟨by rfl, ?hy21⟩) (by assumption) ?rest21
                  case hy21 => (intro w hSw; (try dsimp only at hSw); go_simp; try with_reducible rfl)
                  (try simp only [Act.put, List.setIfInBounds_toArray, List.set_cons_zero, List.set_cons_succ])
                  refine held_take (i := 11) rfl (by kernel_rfl) (by kernel_rfl) (by kernel_rfl) (fun _ _ _ h => h) (Or.inr ⟨by rfl, rfl⟩) (by assumption) ?_
                  (try simp only [Act.put, List.setIfInBounds_toArray, List.set_cons_zero, List.set_cons_succ])
                  refine held_take (i := 12) rfl (by kernel_rfl) (by kernel_rfl) (by kernel_rfl) (fun _ _ _ h => h) (Or.inr ⟨by rfl, rfl⟩) (by assumption) ?_
                  (try simp only [Act.put, List.setIfInBounds_toArray, List.set_cons_zero, List.set_cons_succ])
                  refine held_take (i := 13) rfl (by kernel_rfl) (by kernel_rfl) (by kernel_rfl) (fun _ _ _ h => h) (Or.inr ⟨by rfl, rfl⟩) (by assumption) ?_
                  (try simp only [Act.put, List.setIfInBounds_toArray, List.set_cons_zero, List.set_cons_succ])
                  refine held_take (i := 14) rfl (by kernel_rfl) (by kernel_rfl) (by kernel_rfl) (fun _ _ _ h => h) (Or.inr ⟨by rfl, rfl⟩) (by assumption) ?_
                  (try simp only [Act.put, List.setIfInBounds_toArray, List.set_cons_zero, List.set_cons_succ])
                  refine held_take (i := 15) rfl (by kernel_rfl) (by kernel_rfl) (by kernel_rfl) (fun _ _ _ h => h) (Or.inr ⟨by rfl, rfl⟩) (by assumption) ?_
                  (try simp only [Act.put, List.setIfInBounds_toArray, List.set_cons_zero, List.set_cons_succ])
                  refine held_take (i := 16) rfl (by kernel_rfl) (by kernel_rfl) (by kernel_rfl) (fun _ _ _ h => h) (Or.inr ⟨by rfl, rfl⟩) (by assumption) ?_
                  (try simp only [Act.put, List.setIfInBounds_toArray, List.set_cons_zero, List.set_cons_succ])
                  refine held_take (i := 17) (v := ?v22) rfl (by kernel_rfl) (by kernel_rfl) (by kernel_rfl) (fun _ _ _ h => h) (Or.inl ⟨by rfl, ?hy22⟩) (by assumption) ?rest22
                  case hy22 => (intro w hSw; (try dsimp only at hSw); go_simp; try with_reducible rfl)
                  (try simp only [Act.put, List.setIfInBounds_toArray, List.set_cons_zero, List.set_cons_succ])
                  refine held_take (i := 18) (v := ?v23) rfl (by kernel_rfl) (by kernel_rfl) (by kernel_rfl) (fun _ _ _ h => h) (Or.inl ⟨by rfl, ?hy23⟩) (by assumption) ?rest23
                  case hy23 => (intro w hSw; (try dsimp only at hSw); go_simp; try with_reducible rfl)
                  (try simp only [Act.put, List.setIfInBounds_toArray, List.set_cons_zero, List.set_cons_succ])
                  refine held_take (i := 19) rfl (by kernel_rfl) (by kernel_rfl) (by kernel_rfl) (fun _ _ _ h => h) (Or.inr ⟨by rfl, rfl⟩) (by assumption) ?_
                  (try simp only [Act.put, List.setIfInBounds_toArray, List.set_cons_zero, List.set_cons_succ])
                  refine held_take (i := 20) rfl (by kernel_rfl) (by kernel_rfl) (by kernel_rfl) (fun _ _ _ h => h) (Or.inr ⟨by rfl, rfl⟩) (by assumption) ?_
                  (try simp only [Act.put, List.setIfInBounds_toArray, List.set_cons_zero, List.set_cons_succ])
                  refine held_take (i := 21) rfl (by kernel_rfl) (by kernel_rfl) (by kernel_rfl) (fun _ _ _ h => h) (Or.inr ⟨by rfl, rfl⟩) (by assumption) ?_
                  (try simp only [Act.put, List.setIfInBounds_toArray, List.set_cons_zero, List.set_cons_succ])
                  refine held_take (i := 22) (v := ?v24) rfl (by kernel_rfl) (by kernel_rfl) (by kernel_rfl) (fun _ _ _ h => h) (Or.inl ⟨by rfl, ?hy24⟩) (by assumption) ?rest24
                  case hy24 => (intro w hSw; (try dsimp only at hSw); go_simp; try with_reducible rfl)
                  (try simp only [Act.put, List.setIfInBounds_toArray, List.set_cons_zero, List.set_cons_succ])
                  refine held_take (i := 23) (v := ?v25) rfl (by kernel_rfl) (by kernel_rfl) (by kernel_rfl) (fun _ _ _ h => h) (Or.inl ⟨by rfl, ?hy25⟩) (by assumption) ?rest25
                  case hy25 => (intro w hSw; (try dsimp only at hSw); go_simp; try with_reducible rfl)
                  (try simp only [Act.put, List.setIfInBounds_toArray, List.set_cons_zero, List.set_cons_succ])
                  refine held_take (i := 24) rfl (by kernel_rfl) (by kernel_rfl) (by kernel_rfl) (fun _ _ _ h => h) (Or.inr ⟨by rfl, rfl⟩) (by assumption) ?_
                  (try simp only [Act.put, List.setIfInBounds_toArray, List.set_cons_zero, List.set_cons_succ])
                  refine held_take (i := 25) rfl (by kernel_rfl) (by kernel_rfl) (by kernel_rfl) (fun _ _ _ h => h) (Or.inr ⟨by rfl, rfl⟩) (by assumption) ?_
                  (try simp only [Act.put, List.setIfInBounds_toArray, List.set_cons_zero, List.set_cons_succ])
                  refine held_take (i := 26) rfl (by kernel_rfl) (by kernel_rfl) (by kernel_rfl) (fun _ _ _ h => h) (Or.inr ⟨by rfl, rfl⟩) (by assumption) ?_
                  (try simp only [Act.put, List.setIfInBounds_toArray, List.set_cons_zero, List.set_cons_succ])
                  refine held_take (i := 27) (v := ?v26) rfl (by kernel_rfl) (by kernel_rfl) (by kernel_rfl) (fun _ _ _ h => h) (Or.inl ⟨by rfl, ?hy26⟩) (by assumption) ?rest26
                  case hy26 => (intro w hSw; (try dsimp only at hSw); go_simp; try with_reducible rfl)
                  (try simp only [Act.put, List.setIfInBounds_toArray, List.set_cons_zero, List.set_cons_succ])
                  refine wpAnyH_done (by kernel_rfl) ?_ _
                  go_wp2_with fail
                  exact ⟨⟨j + 1, by omega, by go_num, Lib.hid (bw_drew HBwU.out)⟩, by simp [intOf]; omega⟩
                rw [decide_eq_false h1] at n1
                simp only [Bool.not_false] at n1
                by_cases h2 : (x, y) = (q1, q2)
                · rw [decide_eq_true h2] at n2
                  simp only [Bool.not_true] at n2
                  clear hlx h1 h2
                  refine wp_region_held_drew (S := fun w' => w'.cell? ⟨gx, j * 2, none⟩ = some (.int .i64 x) ∧ w'.cell? ⟨gx, j * 2 + 1, none⟩ = some (.int .i64 y) ∧ w'.cell? ⟨gp, 0, none⟩ = some (.int .i64 p1) ∧ w'.cell? ⟨gp, 1, none⟩ = some (.int .i64 p2) ∧ w'.cell? ⟨gq, 0, none⟩ = some (.int .i64 q1) ∧ w'.cell? ⟨gq, 1, none⟩ = some (.int .i64 q2) ∧ w'.cell? ⟨gu, 0, none⟩ = some (.int .i64 y) ∧ w'.cell? ⟨gu, 1, none⟩ = some (.int .i64 x)) (by kernel_rfl) ⟨EXwU.out.drew.c0, EXwU.out.drew.c1, PwU.out.drew.cell 0, PwU.out.drew.cell 1, QwU.out.drew.cell 0, QwU.out.drew.cell 1, GUwU.out.drew.cell 0, GUwU.out.drew.cell 1⟩ (fun hHeld => ?_)
                  refine held_take (i := 0) (v := ?v27) rfl (by kernel_rfl) (by kernel_rfl) (by kernel_rfl) (fun _ _ _ h => h) (Or.inl ⟨by rfl, ?hy27⟩) (by assumption) ?rest27
                  case hy27 => (intro w hSw; (try dsimp only at hSw); go_simp; try with_reducible rfl)
                  (try simp only [Act.put, List.setIfInBounds_toArray, List.set_cons_zero, List.set_cons_succ])
                  refine held_take (i := 1) (v := ?v28) rfl (by kernel_rfl) (by kernel_rfl) (by kernel_rfl) (fun _ _ _ h => h) (Or.inl ⟨by rfl, ?hy28⟩) (by assumption) ?rest28
                  case hy28 => (intro w hSw; (try dsimp only at hSw); go_simp; try with_reducible rfl)
                  (try simp only [Act.put, List.setIfInBounds_toArray, List.set_cons_zero, List.set_cons_succ])
                  refine held_take (i := 2) (v := ?v29) rfl (by kernel_rfl) (by kernel_rfl) (by kernel_rfl) (fun _ _ _ h => h) (Or.inl ⟨by rfl, ?hy29⟩) (by assumption) ?rest29
                  case hy29 => (intro w hSw; (try dsimp only at hSw); go_simp; try with_reducible rfl)
                  (try simp only [Act.put, List.setIfInBounds_toArray, List.set_cons_zero, List.set_cons_succ])
                  refine held_take (i := 3) (v := ?v30) rfl (by kernel_rfl) (by kernel_rfl) (by kernel_rfl) (fun _ _ _ h => h) (Or.inl ⟨by rfl, ?hy30⟩) (by assumption) ?rest30
                  case hy30 => (intro w hSw; (try dsimp only at hSw); go_simp; try with_reducible rfl)
                  (try simp only [Act.put, List.setIfInBounds_toArray, List.set_cons_zero, List.set_cons_succ])
                  refine held_take (i := 4) (v := ?v31) rfl (by kernel_rfl) (by kernel_rfl) (by kernel_rfl) (fun _ _ _ h => h) (Or.inl ⟨by rfl, ?hy31⟩) (by assumption) ?rest31
                  case hy31 => (intro w hSw; (try dsimp only at hSw); go_simp; try with_reducible rfl)
                  (try simp only [Act.put, List.setIfInBounds_toArray, List.set_cons_zero, List.set_cons_succ])
                  refine held_take (i := 5) (v := ?v32) rfl (by kernel_rfl) (by kernel_rfl) (by kernel_rfl) (fun _ _ _ h => h) (Or.inl ⟨by rfl, ?hy32⟩) (by assumption) ?rest32
                  case hy32 => (intro w hSw; (try dsimp only at hSw); go_simp; try with_reducible rfl)
                  (try simp only [Act.put, List.setIfInBounds_toArray, List.set_cons_zero, List.set_cons_succ])
                  refine held_take (i := 6) (v := ?v33) rfl (by kernel_rfl) (by kernel_rfl) (by kernel_rfl) (fun _ _ _ h => h) (Or.inl ⟨by rfl, ?hy33⟩) (by assumption) ?rest33
                  case hy33 => (intro w hSw; (try dsimp only at hSw); go_simp; try with_reducible rfl)
                  (try simp only [Act.put, List.setIfInBounds_toArray, List.set_cons_zero, List.set_cons_succ])
                  refine held_take (i := 7) (v := ?v34) rfl (by kernel_rfl) (by kernel_rfl) (by kernel_rfl) (fun _ _ _ h => h) (Or.inl ⟨by rfl, ?hy34⟩) (by assumption) ?rest34
                  case hy34 => (intro w hSw; (try dsimp only at hSw); go_simp; try with_reducible rfl)
                  (try simp only [Act.put, List.setIfInBounds_toArray, List.set_cons_zero, List.set_cons_succ])
                  refine held_take (i := 8) (v := ?v35) rfl (by kernel_rfl) (by kernel_rfl) (by kernel_rfl) (fun _ _ _ h => h) (Or.inl ⟨by rfl, ?hy35⟩) (by assumption) ?rest35
                  case hy35 => (intro w hSw; (try dsimp only at hSw); go_simp; try with_reducible rfl)
                  (try simp only [Act.put, List.setIfInBounds_toArray, List.set_cons_zero, List.set_cons_succ])
                  refine held_take (i := 9) (v := ?v36) rfl (by kernel_rfl) (by kernel_rfl) (by kernel_rfl) (fun _ _ _ h => h) (Or.inl ⟨by rfl, ?hy36⟩) (by assumption) ?rest36
                  case hy36 => (intro w hSw; (try dsimp only at hSw); go_simp; try with_reducible rfl)
                  (try simp only [Act.put, List.setIfInBounds_toArray, List.set_cons_zero, List.set_cons_succ])
                  refine held_take (i := 10) (v := ?v37) rfl (by kernel_rfl) (by kernel_rfl) (by kernel_rfl) (fun _ _ _ h => h) (Or.inl ⟨by rfl, ?hy37⟩) (by assumption) ?rest37
                  case hy37 => (intro w hSw; (try dsimp only at hSw); go_simp; try with_reducible rfl)
                  (try simp only [Act.put, List.setIfInBounds_toArray, List.set_cons_zero, List.set_cons_succ])
                  refine held_take (i := 11) (v := ?v38) rfl (by kernel_rfl) (by kernel_rfl) (by kernel_rfl) (fun _ _ _ h => h) (Or.inl ⟨by rfl, ?hy38⟩) (by assumption) ?rest38
                  case hy38 => (intro w hSw; (try dsimp only at hSw); go_simp; try with_reducible rfl)
                  (try simp only [Act.put, List.setIfInBounds_toArray, List.set_cons_zero, List.set_cons_succ])
                  refine held_take (i := 12) (v := ?v39) rfl (by kernel_rfl) (by kernel_rfl) (by kernel_rfl) (fun _ _ _ h => h) (Or.inl ⟨by rfl, ?hy39⟩) (by assumption) ?rest39
                  case hy39 => (intro w hSw; (try dsimp only at hSw); go_simp; try with_reducible rfl)
                  (try simp only [Act.put, List.setIfInBounds_toArray, List.set_cons_zero, List.set_cons_succ])
                  refine held_take (i := 13) (v := ?v40) rfl (by kernel_rfl) (by kernel_rfl) (by kernel_rfl) (fun _ _ _ h => h) (Or.inl ⟨by rfl, ?hy40⟩) (by assumption) ?rest40
                  case hy40 => (intro w hSw; (try dsimp only at hSw); go_simp; try with_reducible rfl)
                  (try simp only [Act.put, List.setIfInBounds_toArray, List.set_cons_zero, List.set_cons_succ])
                  refine held_take (i := 14) (v := ?v41) rfl (by kernel_rfl) (by kernel_rfl) (by kernel_rfl) (fun _ _ _ h => h) (Or.inl ⟨by rfl, ?hy41⟩) (by assumption) ?rest41
                  case hy41 => (intro w hSw; (try dsimp only at hSw); go_simp; try with_reducible rfl)
                  (try simp only [Act.put, List.setIfInBounds_toArray, List.set_cons_zero, List.set_cons_succ])
                  refine held_take (i := 15) (v := ?v42) rfl (by kernel_rfl) (by kernel_rfl) (by kernel_rfl) (fun _ _ _ h => h) (Or.inl ⟨by rfl, ?hy42⟩) (by assumption) ?rest42
                  case hy42 => (intro w hSw; (try dsimp only at hSw); go_simp; try with_reducible rfl)
                  (try simp only [Act.put, List.setIfInBounds_toArray, List.set_cons_zero, List.set_cons_succ])
                  refine held_take (i := 16) (v := ?v43) rfl (by kernel_rfl) (by kernel_rfl) (by kernel_rfl) (fun _ _ _ h => h) (Or.inl ⟨by rfl, ?hy43⟩) (by assumption) ?rest43
                  case hy43 => (intro w hSw; (try dsimp only at hSw); go_simp; try with_reducible rfl)
                  (try simp only [Act.put, List.setIfInBounds_toArray, List.set_cons_zero, List.set_cons_succ])
                  refine held_take (i := 17) (v := ?v44) rfl (by kernel_rfl) (by kernel_rfl) (by kernel_rfl) (fun _ _ _ h => h) (Or.inl ⟨by rfl, ?hy44⟩) (by assumption) ?rest44
                  case hy44 => (intro w hSw; (try dsimp only at hSw); go_simp; try with_reducible rfl)
                  (try simp only [Act.put, List.setIfInBounds_toArray, List.set_cons_zero, List.set_cons_succ])
                  refine held_take (i := 18) (v := ?v45) rfl (by kernel_rfl) (by kernel_rfl) (by kernel_rfl) (fun _ _ _ h => h) (Or.inl ⟨by rfl, ?hy45⟩) (by assumption) ?rest45
                  case hy45 => (intro w hSw; (try dsimp only at hSw); go_simp; try with_reducible rfl)
                  (try simp only [Act.put, List.setIfInBounds_toArray, List.set_cons_zero, List.set_cons_succ])
                  refine held_take (i := 19) rfl (by kernel_rfl) (by kernel_rfl) (by kernel_rfl) (fun _ _ _ h => h) (Or.inr ⟨by rfl, rfl⟩) (by assumption) ?_
                  (try simp only [Act.put, List.setIfInBounds_toArray, List.set_cons_zero, List.set_cons_succ])
                  refine held_take (i := 20) rfl (by kernel_rfl) (by kernel_rfl) (by kernel_rfl) (fun _ _ _ h => h) (Or.inr ⟨by rfl, rfl⟩) (by assumption) ?_
                  (try simp only [Act.put, List.setIfInBounds_toArray, List.set_cons_zero, List.set_cons_succ])
                  refine held_take (i := 21) rfl (by kernel_rfl) (by kernel_rfl) (by kernel_rfl) (fun _ _ _ h => h) (Or.inr ⟨by rfl, rfl⟩) (by assumption) ?_
                  (try simp only [Act.put, List.setIfInBounds_toArray, List.set_cons_zero, List.set_cons_succ])
                  refine held_take (i := 22) (v := ?v46) rfl (by kernel_rfl) (by kernel_rfl) (by kernel_rfl) (fun _ _ _ h => h) (Or.inl ⟨by rfl, ?hy46⟩) (by assumption) ?rest46
                  case hy46 => (intro w hSw; (try dsimp only at hSw); go_simp; try with_reducible rfl)
                  (try simp only [Act.put, List.setIfInBounds_toArray, List.set_cons_zero, List.set_cons_succ])
                  refine held_take (i := 23) (v := ?v47) rfl (by kernel_rfl) (by kernel_rfl) (by kernel_rfl) (fun _ _ _ h => h) (Or.inl ⟨by rfl, ?hy47⟩) (by assumption) ?rest47
                  case hy47 => (intro w hSw; (try dsimp only at hSw); go_simp; try with_reducible rfl)
                  (try simp only [Act.put, List.setIfInBounds_toArray, List.set_cons_zero, List.set_cons_succ])
                  refine held_take (i := 24) rfl (by kernel_rfl) (by kernel_rfl) (by kernel_rfl) (fun _ _ _ h => h) (Or.inr ⟨by rfl, rfl⟩) (by assumption) ?_
                  (try simp only [Act.put, List.setIfInBounds_toArray, List.set_cons_zero, List.set_cons_succ])
                  refine held_take (i := 25) rfl (by kernel_rfl) (by kernel_rfl) (by kernel_rfl) (fun _ _ _ h => h) (Or.inr ⟨by rfl, rfl⟩) (by assumption) ?_
                  (try simp only [Act.put, List.setIfInBounds_toArray, List.set_cons_zero, List.set_cons_succ])
                  refine held_take (i := 26) rfl (by kernel_rfl) (by kernel_rfl) (by kernel_rfl) (fun _ _ _ h => h) (Or.inr ⟨by rfl, rfl⟩) (by assumption) ?_
                  (try simp only [Act.put, List.setIfInBounds_toArray, List.set_cons_zero, List.set_cons_succ])
                  refine held_take (i := 27) (v := ?v48) rfl (by kernel_rfl) (by kernel_rfl) (by kernel_rfl) (fun _ _ _ h => h) (Or.inl ⟨by rfl, ?hy48⟩) (by assumption) ?rest48
                  case hy48 => (intro w hSw; (try dsimp only at hSw); go_simp; try with_reducible rfl)
                  (try simp only [Act.put, List.setIfInBounds_toArray, List.set_cons_zero, List.set_cons_succ])
                  refine wpAnyH_done (by kernel_rfl) ?_ _
                  go_wp2_with fail
                  exact ⟨⟨j + 1, by omega, by go_num, Lib.hid (bw_drew HBwU.out)⟩, by simp [intOf]; omega⟩
                rw [decide_eq_false h2] at n2
                simp only [Bool.not_false] at n2
                by_cases h3 : (y, x) = (p1, p2)
                · rw [decide_eq_true h3] at n3
                  simp only [Bool.not_true] at n3
                  clear hlx h1 h2 h3
                  refine wp_region_held_drew (S := fun w' => w'.cell? ⟨gx, j * 2, none⟩ = some (.int .i64 x) ∧ w'.cell? ⟨gx, j * 2 + 1, none⟩ = some (.int .i64 y) ∧ w'.cell? ⟨gp, 0, none⟩ = some (.int .i64 p1) ∧ w'.cell? ⟨gp, 1, none⟩ = some (.int .i64 p2) ∧ w'.cell? ⟨gq, 0, none⟩ = some (.int .i64 q1) ∧ w'.cell? ⟨gq, 1, none⟩ = some (.int .i64 q2) ∧ w'.cell? ⟨gu, 0, none⟩ = some (.int .i64 y) ∧ w'.cell? ⟨gu, 1, none⟩ = some (.int .i64 x)) (by kernel_rfl) ⟨EXwU.out.drew.c0, EXwU.out.drew.c1, PwU.out.drew.cell 0, PwU.out.drew.cell 1, QwU.out.drew.cell 0, QwU.out.drew.cell 1, GUwU.out.drew.cell 0, GUwU.out.drew.cell 1⟩ (fun hHeld => ?_)
                  refine held_take (i := 0) (v := ?v49) rfl (by kernel_rfl) (by kernel_rfl) (by kernel_rfl) (fun _ _ _ h => h) (Or.inl ⟨by rfl, ?hy49⟩) (by assumption) ?rest49
                  case hy49 => (intro w hSw; (try dsimp only at hSw); go_simp; try with_reducible rfl)
                  (try simp only [Act.put, List.setIfInBounds_toArray, List.set_cons_zero, List.set_cons_succ])
                  refine held_take (i := 1) (v := ?v50) rfl (by kernel_rfl) (by kernel_rfl) (by kernel_rfl) (fun _ _ _ h => h) (Or.inl ⟨by rfl, ?hy50⟩) (by assumption) ?rest50
                  case hy50 => (intro w hSw; (try dsimp only at hSw); go_simp; try with_reducible rfl)
                  (try simp only [Act.put, List.setIfInBounds_toArray, List.set_cons_zero, List.set_cons_succ])
                  refine held_take (i := 2) (v := ?v51) rfl (by kernel_rfl) (by kernel_rfl) (by kernel_rfl) (fun _ _ _ h => h) (Or.inl ⟨by rfl, ?hy51⟩) (by assumption) ?rest51
                  case hy51 => (intro w hSw; (try dsimp only at hSw); go_simp; try with_reducible rfl)
                  (try simp only [Act.put, List.setIfInBounds_toArray, List.set_cons_zero, List.set_cons_succ])
                  refine held_take (i := 3) (v := ?v52) rfl (by kernel_rfl) (by kernel_rfl) (by kernel_rfl) (fun _ _ _ h => h) (Or.inl ⟨by rfl, ?hy52⟩) (by assumption) ?rest52
                  case hy52 => (intro w hSw; (try dsimp only at hSw); go_simp; try with_reducible rfl)
                  (try simp only [Act.put, List.setIfInBounds_toArray, List.set_cons_zero, List.set_cons_succ])
                  refine held_take (i := 4) (v := ?v53) rfl (by kernel_rfl) (by kernel_rfl) (by kernel_rfl) (fun _ _ _ h => h) (Or.inl ⟨by rfl, ?hy53⟩) (by assumption) ?rest53
                  case hy53 => (intro w hSw; (try dsimp only at hSw); go_simp; try with_reducible rfl)
                  (try simp only [Act.put, List.setIfInBounds_toArray, List.set_cons_zero, List.set_cons_succ])
                  refine held_take (i := 5) (v := ?v54) rfl (by kernel_rfl) (by kernel_rfl) (by kernel_rfl) (fun _ _ _ h => h) (Or.inl ⟨by rfl, ?hy54⟩) (by assumption) ?rest54
                  case hy54 => (intro w hSw; (try dsimp only at hSw); go_simp; try with_reducible rfl)
                  (try simp only [Act.put, List.setIfInBounds_toArray, List.set_cons_zero, List.set_cons_succ])
                  refine held_take (i := 6) (v := ?v55) rfl (by kernel_rfl) (by kernel_rfl) (by kernel_rfl) (fun _ _ _ h => h) (Or.inl ⟨by rfl, ?hy55⟩) (by assumption) ?rest55
                  case hy55 => (intro w hSw; (try dsimp only at hSw); go_simp; try with_reducible rfl)
                  (try simp only [Act.put, List.setIfInBounds_toArray, List.set_cons_zero, List.set_cons_succ])
                  refine held_take (i := 7) (v := ?v56) rfl (by kernel_rfl) (by kernel_rfl) (by kernel_rfl) (fun _ _ _ h => h) (Or.inl ⟨by rfl, ?hy56⟩) (by assumption) ?rest56
                  case hy56 => (intro w hSw; (try dsimp only at hSw); go_simp; try with_reducible rfl)
                  (try simp only [Act.put, List.setIfInBounds_toArray, List.set_cons_zero, List.set_cons_succ])
                  refine held_take (i := 8) (v := ?v57) rfl (by kernel_rfl) (by kernel_rfl) (by kernel_rfl) (fun _ _ _ h => h) (Or.inl ⟨by rfl, ?hy57⟩) (by assumption) ?rest57
                  case hy57 => (intro w hSw; (try dsimp only at hSw); go_simp; try with_reducible rfl)
                  (try simp only [Act.put, List.setIfInBounds_toArray, List.set_cons_zero, List.set_cons_succ])
                  refine held_take (i := 9) (v := ?v58) rfl (by kernel_rfl) (by kernel_rfl) (by kernel_rfl) (fun _ _ _ h => h) (Or.inl ⟨by rfl, ?hy58⟩) (by assumption) ?rest58
                  case hy58 => (intro w hSw; (try dsimp only at hSw); go_simp; try with_reducible rfl)
                  (try simp only [Act.put, List.setIfInBounds_toArray, List.set_cons_zero, List.set_cons_succ])
                  refine held_take (i := 10) (v := ?v59) rfl (by kernel_rfl) (by kernel_rfl) (by kernel_rfl) (fun _ _ _ h => h) (Or.inl ⟨by rfl, ?hy59⟩) (by assumption) ?rest59
                  case hy59 => (intro w hSw; (try dsimp only at hSw); go_simp; try with_reducible rfl)
                  (try simp only [Act.put, List.setIfInBounds_toArray, List.set_cons_zero, List.set_cons_succ])
                  refine held_take (i := 11) (v := ?v60) rfl (by kernel_rfl) (by kernel_rfl) (by kernel_rfl) (fun _ _ _ h => h) (Or.inl ⟨by rfl, ?hy60⟩) (by assumption) ?rest60
                  case hy60 => (intro w hSw; (try dsimp only at hSw); go_simp; try with_reducible rfl)
                  (try simp only [Act.put, List.setIfInBounds_toArray, List.set_cons_zero, List.set_cons_succ])
                  refine held_take (i := 12) (v := ?v61) rfl (by kernel_rfl) (by kernel_rfl) (by kernel_rfl) (fun _ _ _ h => h) (Or.inl ⟨by rfl, ?hy61⟩) (by assumption) ?rest61
                  case hy61 => (intro w hSw; (try dsimp only at hSw); go_simp; try with_reducible rfl)
                  (try simp only [Act.put, List.setIfInBounds_toArray, List.set_cons_zero, List.set_cons_succ])
                  refine held_take (i := 13) (v := ?v62) rfl (by kernel_rfl) (by kernel_rfl) (by kernel_rfl) (fun _ _ _ h => h) (Or.inl ⟨by rfl, ?hy62⟩) (by assumption) ?rest62
                  case hy62 => (intro w hSw; (try dsimp only at hSw); go_simp; try with_reducible rfl)
                  (try simp only [Act.put, List.setIfInBounds_toArray, List.set_cons_zero, List.set_cons_succ])
                  refine held_take (i := 14) (v := ?v63) rfl (by kernel_rfl) (by kernel_rfl) (by kernel_rfl) (fun _ _ _ h => h) (Or.inl ⟨by rfl, ?hy63⟩) (by assumption) ?rest63
                  case hy63 => (intro w hSw; (try dsimp only at hSw); go_simp; try with_reducible rfl)
                  (try simp only [Act.put, List.setIfInBounds_toArray, List.set_cons_zero, List.set_cons_succ])
                  refine held_take (i := 15) (v := ?v64) rfl (by kernel_rfl) (by kernel_rfl) (by kernel_rfl) (fun _ _ _ h => h) (Or.inl ⟨by rfl, ?hy64⟩) (by assumption) ?rest64
                  case hy64 => (intro w hSw; (try dsimp only at hSw); go_simp; try with_reducible rfl)
                  (try simp only [Act.put, List.setIfInBounds_toArray, List.set_cons_zero, List.set_cons_succ])
                  refine held_take (i := 16) (v := ?v65) rfl (by kernel_rfl) (by kernel_rfl) (by kernel_rfl) (fun _ _ _ h => h) (Or.inl ⟨by rfl, ?hy65⟩) (by assumption) ?rest65
                  case hy65 => (intro w hSw; (try dsimp only at hSw); go_simp; try with_reducible rfl)
                  (try simp only [Act.put, List.setIfInBounds_toArray, List.set_cons_zero, List.set_cons_succ])
                  refine held_take (i := 17) (v := ?v66) rfl (by kernel_rfl) (by kernel_rfl) (by kernel_rfl) (fun _ _ _ h => h) (Or.inl ⟨by rfl, ?hy66⟩) (by assumption) ?rest66
                  case hy66 => (intro w hSw; (try dsimp only at hSw); go_simp; try with_reducible rfl)
                  (try simp only [Act.put, List.setIfInBounds_toArray, List.set_cons_zero, List.set_cons_succ])
                  refine held_take (i := 18) (v := ?v67) rfl (by kernel_rfl) (by kernel_rfl) (by kernel_rfl) (fun _ _ _ h => h) (Or.inl ⟨by rfl, ?hy67⟩) (by assumption) ?rest67
                  case hy67 => (intro w hSw; (try dsimp only at hSw); go_simp; try with_reducible rfl)
                  (try simp only [Act.put, List.setIfInBounds_toArray, List.set_cons_zero, List.set_cons_succ])
                  refine held_take (i := 19) (v := ?v68) rfl (by kernel_rfl) (by kernel_rfl) (by kernel_rfl) (fun _ _ _ h => h) (Or.inl ⟨by rfl, ?hy68⟩) (by assumption) ?rest68
                  case hy68 => (intro w hSw; (try dsimp only at hSw); go_simp; try with_reducible rfl)
                  (try simp only [Act.put, List.setIfInBounds_toArray, List.set_cons_zero, List.set_cons_succ])
                  refine held_take (i := 20) (v := ?v69) rfl (by kernel_rfl) (by kernel_rfl) (by kernel_rfl) (fun _ _ _ h => h) (Or.inl ⟨by rfl, ?hy69⟩) (by assumption) ?rest69
                  case hy69 => (intro w hSw; (try dsimp only at hSw); go_simp; try with_reducible rfl)
                  (try simp only [Act.put, List.setIfInBounds_toArray, List.set_cons_zero, List.set_cons_succ])
                  refine held_take (i := 21) (v := ?v70) rfl (by kernel_rfl) (by kernel_rfl) (by kernel_rfl) (fun _ _ _ h => h) (Or.inl ⟨by rfl, ?hy70⟩) (by assumption) ?rest70
                  case hy70 => (intro w hSw; (try dsimp only at hSw); go_simp; try with_reducible rfl)
                  (try simp only [Act.put, List.setIfInBounds_toArray, List.set_cons_zero, List.set_cons_succ])
                  refine held_take (i := 22) (v := ?v71) rfl (by kernel_rfl) (by kernel_rfl) (by kernel_rfl) (fun _ _ _ h => h) (Or.inl ⟨by rfl, ?hy71⟩) (by assumption) ?rest71
                  case hy71 => (intro w hSw; (try dsimp only at hSw); go_simp; try with_reducible rfl)
                  (try simp only [Act.put, List.setIfInBounds_toArray, List.set_cons_zero, List.set_cons_succ])
                  refine held_take (i := 23) (v := ?v72) rfl (by kernel_rfl) (by kernel_rfl) (by kernel_rfl) (fun _ _ _ h => h) (Or.inl ⟨by rfl, ?hy72⟩) (by assumption) ?rest72
                  case hy72 => (intro w hSw; (try dsimp only at hSw); go_simp; try with_reducible rfl)
                  (try simp only [Act.put, List.setIfInBounds_toArray, List.set_cons_zero, List.set_cons_succ])
                  refine held_take (i := 24) rfl (by kernel_rfl) (by kernel_rfl) (by kernel_rfl) (fun _ _ _ h => h) (Or.inr ⟨by rfl, rfl⟩) (by assumption) ?_
                  (try simp only [Act.put, List.setIfInBounds_toArray, List.set_cons_zero, List.set_cons_succ])
                  refine held_take (i := 25) rfl (by kernel_rfl) (by kernel_rfl) (by kernel_rfl) (fun _ _ _ h => h) (Or.inr ⟨by rfl, rfl⟩) (by assumption) ?_
                  (try simp only [Act.put, List.setIfInBounds_toArray, List.set_cons_zero, List.set_cons_succ])
                  refine held_take (i := 26) rfl (by kernel_rfl) (by kernel_rfl) (by kernel_rfl) (fun _ _ _ h => h) (Or.inr ⟨by rfl, rfl⟩) (by assumption) ?_
                  (try simp only [Act.put, List.setIfInBounds_toArray, List.set_cons_zero, List.set_cons_succ])
                  refine held_take (i := 27) (v := ?v73) rfl (by kernel_rfl) (by kernel_rfl) (by kernel_rfl) (fun _ _ _ h => h) (Or.inl ⟨by rfl, ?hy73⟩) (by assumption) ?rest73
                  case hy73 => (intro w hSw; (try dsimp only at hSw); go_simp; try with_reducible rfl)
                  (try simp only [Act.put, List.setIfInBounds_toArray, List.set_cons_zero, List.set_cons_succ])
                  refine wpAnyH_done (by kernel_rfl) ?_ _
                  go_wp2_with fail
                  exact ⟨⟨j + 1, by omega, by go_num, Lib.hid (bw_drew HBwU.out)⟩, by simp [intOf]; omega⟩
                rw [decide_eq_false h3] at n3
                simp only [Bool.not_false] at n3
                have h4 : (y, x) = (q1, q2) := by
                  rcases hlx with h | h | h | h
                  · exact absurd h h1
                  · exact absurd h h2
                  · exact absurd h h3
                  · exact h
                rw [decide_eq_true h4] at n4
                simp only [Bool.not_true] at n4
                clear hlx h1 h2 h3 h4
                refine wp_region_held_drew (S := fun w' => w'.cell? ⟨gx, j * 2, none⟩ = some (.int .i64 x) ∧ w'.cell? ⟨gx, j * 2 + 1, none⟩ = some (.int .i64 y) ∧ w'.cell? ⟨gp, 0, none⟩ = some (.int .i64 p1) ∧ w'.cell? ⟨gp, 1, none⟩ = some (.int .i64 p2) ∧ w'.cell? ⟨gq, 0, none⟩ = some (.int .i64 q1) ∧ w'.cell? ⟨gq, 1, none⟩ = some (.int .i64 q2) ∧ w'.cell? ⟨gu, 0, none⟩ = some (.int .i64 y) ∧ w'.cell? ⟨gu, 1, none⟩ = some (.int .i64 x)) (by kernel_rfl) ⟨EXwU.out.drew.c0, EXwU.out.drew.c1, PwU.out.drew.cell 0, PwU.out.drew.cell 1, QwU.out.drew.cell 0, QwU.out.drew.cell 1, GUwU.out.drew.cell 0, GUwU.out.drew.cell 1⟩ (fun hHeld => ?_)
                refine held_take (i := 0) (v := ?v74) rfl (by kernel_rfl) (by kernel_rfl) (by kernel_rfl) (fun _ _ _ h => h) (Or.inl ⟨by rfl, ?hy74⟩) (by assumption) ?rest74
                case hy74 => (intro w hSw; (try dsimp only at hSw); go_simp; try with_reducible rfl)
                (try simp only [Act.put, List.setIfInBounds_toArray, List.set_cons_zero, List.set_cons_succ])
                refine held_take (i := 1) (v := ?v75) rfl (by kernel_rfl) (by kernel_rfl) (by kernel_rfl) (fun _ _ _ h => h) (Or.inl ⟨by rfl, ?hy75⟩) (by assumption) ?rest75
                case hy75 => (intro w hSw; (try dsimp only at hSw); go_simp; try with_reducible rfl)
                (try simp only [Act.put, List.setIfInBounds_toArray, List.set_cons_zero, List.set_cons_succ])
                refine held_take (i := 2) (v := ?v76) rfl (by kernel_rfl) (by kernel_rfl) (by kernel_rfl) (fun _ _ _ h => h) (Or.inl ⟨by rfl, ?hy76⟩) (by assumption) ?rest76
                case hy76 => (intro w hSw; (try dsimp only at hSw); go_simp; try with_reducible rfl)
                (try simp only [Act.put, List.setIfInBounds_toArray, List.set_cons_zero, List.set_cons_succ])
                refine held_take (i := 3) (v := ?v77) rfl (by kernel_rfl) (by kernel_rfl) (by kernel_rfl) (fun _ _ _ h => h) (Or.inl ⟨by rfl, ?hy77⟩) (by assumption) ?rest77
                case hy77 => (intro w hSw; (try dsimp only at hSw); go_simp; try with_reducible rfl)
                (try simp only [Act.put, List.setIfInBounds_toArray, List.set_cons_zero, List.set_cons_succ])
                refine held_take (i := 4) (v := ?v78) rfl (by kernel_rfl) (by kernel_rfl) (by kernel_rfl) (fun _ _ _ h => h) (Or.inl ⟨by rfl, ?hy78⟩) (by assumption) ?rest78
                case hy78 => (intro w hSw; (try dsimp only at hSw); go_simp; try with_reducible rfl)
                (try simp only [Act.put, List.setIfInBounds_toArray, List.set_cons_zero, List.set_cons_succ])
                refine held_take (i := 5) (v := ?v79) rfl (by kernel_rfl) (by kernel_rfl) (by kernel_rfl) (fun _ _ _ h => h) (Or.inl ⟨by rfl, ?hy79⟩) (by assumption) ?rest79
                case hy79 => (intro w hSw; (try dsimp only at hSw); go_simp; try with_reducible rfl)
                (try simp only [Act.put, List.setIfInBounds_toArray, List.set_cons_zero, List.set_cons_succ])
                refine held_take (i := 6) (v := ?v80) rfl (by kernel_rfl) (by kernel_rfl) (by kernel_rfl) (fun _ _ _ h => h) (Or.inl ⟨by rfl, ?hy80⟩) (by assumption) ?rest80
                case hy80 => (intro w hSw; (try dsimp only at hSw); go_simp; try with_reducible rfl)
                (try simp only [Act.put, List.setIfInBounds_toArray, List.set_cons_zero, List.set_cons_succ])
                refine held_take (i := 7) (v := ?v81) rfl (by kernel_rfl) (by kernel_rfl) (by kernel_rfl) (fun _ _ _ h => h) (Or.inl ⟨by rfl, ?hy81⟩) (by assumption) ?rest81
                case hy81 => (intro w hSw; (try dsimp only at hSw); go_simp; try with_reducible rfl)
                (try simp only [Act.put, List.setIfInBounds_toArray, List.set_cons_zero, List.set_cons_succ])
                refine held_take (i := 8) (v := ?v82) rfl (by kernel_rfl) (by kernel_rfl) (by kernel_rfl) (fun _ _ _ h => h) (Or.inl ⟨by rfl, ?hy82⟩) (by assumption) ?rest82
                case hy82 => (intro w hSw; (try dsimp only at hSw); go_simp; try with_reducible rfl)
                (try simp only [Act.put, List.setIfInBounds_toArray, List.set_cons_zero, List.set_cons_succ])
                refine held_take (i := 9) (v := ?v83) rfl (by kernel_rfl) (by kernel_rfl) (by kernel_rfl) (fun _ _ _ h => h) (Or.inl ⟨by rfl, ?hy83⟩) (by assumption) ?rest83
                case hy83 => (intro w hSw; (try dsimp only at hSw); go_simp; try with_reducible rfl)
                (try simp only [Act.put, List.setIfInBounds_toArray, List.set_cons_zero, List.set_cons_succ])
                refine held_take (i := 10) (v := ?v84) rfl (by kernel_rfl) (by kernel_rfl) (by kernel_rfl) (fun _ _ _ h => h) (Or.inl ⟨by rfl, ?hy84⟩) (by assumption) ?rest84
                case hy84 => (intro w hSw; (try dsimp only at hSw); go_simp; try with_reducible rfl)
                (try simp only [Act.put, List.setIfInBounds_toArray, List.set_cons_zero, List.set_cons_succ])
                refine held_take (i := 11) (v := ?v85) rfl (by kernel_rfl) (by kernel_rfl) (by kernel_rfl) (fun _ _ _ h => h) (Or.inl ⟨by rfl, ?hy85⟩) (by assumption) ?rest85
                case hy85 => (intro w hSw; (try dsimp only at hSw); go_simp; try with_reducible rfl)
                (try simp only [Act.put, List.setIfInBounds_toArray, List.set_cons_zero, List.set_cons_succ])
                refine held_take (i := 12) (v := ?v86) rfl (by kernel_rfl) (by kernel_rfl) (by kernel_rfl) (fun _ _ _ h => h) (Or.inl ⟨by rfl, ?hy86⟩) (by assumption) ?rest86
                case hy86 => (intro w hSw; (try dsimp only at hSw); go_simp; try with_reducible rfl)
                (try simp only [Act.put, List.setIfInBounds_toArray, List.set_cons_zero, List.set_cons_succ])
                refine held_take (i := 13) (v := ?v87) rfl (by kernel_rfl) (by kernel_rfl) (by kernel_rfl) (fun _ _ _ h => h) (Or.inl ⟨by rfl, ?hy87⟩) (by assumption) ?rest87
                case hy87 => (intro w hSw; (try dsimp only at hSw); go_simp; try with_reducible rfl)
                (try simp only [Act.put, List.setIfInBounds_toArray, List.set_cons_zero, List.set_cons_succ])
                refine held_take (i := 14) (v := ?v88) rfl (by kernel_rfl) (by kernel_rfl) (by kernel_rfl) (fun _ _ _ h => h) (Or.inl ⟨by rfl, ?hy88⟩) (by assumption) ?rest88
                case hy88 => (intro w hSw; (try dsimp only at hSw); go_simp; try with_reducible rfl)
                (try simp only [Act.put, List.setIfInBounds_toArray, List.set_cons_zero, List.set_cons_succ])
                refine held_take (i := 15) (v := ?v89) rfl (by kernel_rfl) (by kernel_rfl) (by kernel_rfl) (fun _ _ _ h => h) (Or.inl ⟨by rfl, ?hy89⟩) (by assumption) ?rest89
                case hy89 => (intro w hSw; (try dsimp only at hSw); go_simp; try with_reducible rfl)
                (try simp only [Act.put, List.setIfInBounds_toArray, List.set_cons_zero, List.set_cons_succ])
                refine held_take (i := 16) (v := ?v90) rfl (by kernel_rfl) (by kernel_rfl) (by kernel_rfl) (fun _ _ _ h => h) (Or.inl ⟨by rfl, ?hy90⟩) (by assumption) ?rest90
                case hy90 => (intro w hSw; (try dsimp only at hSw); go_simp; try with_reducible rfl)
                (try simp only [Act.put, List.setIfInBounds_toArray, List.set_cons_zero, List.set_cons_succ])
                refine held_take (i := 17) (v := ?v91) rfl (by kernel_rfl) (by kernel_rfl) (by kernel_rfl) (fun _ _ _ h => h) (Or.inl ⟨by rfl, ?hy91⟩) (by assumption) ?rest91
                case hy91 => (intro w hSw; (try dsimp only at hSw); go_simp; try with_reducible rfl)
                (try simp only [Act.put, List.setIfInBounds_toArray, List.set_cons_zero, List.set_cons_succ])
                refine held_take (i := 18) (v := ?v92) rfl (by kernel_rfl) (by kernel_rfl) (by kernel_rfl) (fun _ _ _ h => h) (Or.inl ⟨by rfl, ?hy92⟩) (by assumption) ?rest92
                case hy92 => (intro w hSw; (try dsimp only at hSw); go_simp; try with_reducible rfl)
                (try simp only [Act.put, List.setIfInBounds_toArray, List.set_cons_zero, List.set_cons_succ])
                refine held_take (i := 19) (v := ?v93) rfl (by kernel_rfl) (by kernel_rfl) (by kernel_rfl) (fun _ _ _ h => h) (Or.inl ⟨by rfl, ?hy93⟩) (by assumption) ?rest93
                case hy93 => (intro w hSw; (try dsimp only at hSw); go_simp; try with_reducible rfl)
                (try simp only [Act.put, List.setIfInBounds_toArray, List.set_cons_zero, List.set_cons_succ])
                refine held_take (i := 20) (v := ?v94) rfl (by kernel_rfl) (by kernel_rfl) (by kernel_rfl) (fun _ _ _ h => h) (Or.inl ⟨by rfl, ?hy94⟩) (by assumption) ?rest94
                case hy94 => (intro w hSw; (try dsimp only at hSw); go_simp; try with_reducible rfl)
                (try simp only [Act.put, List.setIfInBounds_toArray, List.set_cons_zero, List.set_cons_succ])
                refine held_take (i := 21) (v := ?v95) rfl (by kernel_rfl) (by kernel_rfl) (by kernel_rfl) (fun _ _ _ h => h) (Or.inl ⟨by rfl, ?hy95⟩) (by assumption) ?rest95
                case hy95 => (intro w hSw; (try dsimp only at hSw); go_simp; try with_reducible rfl)
                (try simp only [Act.put, List.setIfInBounds_toArray, List.set_cons_zero, List.set_cons_succ])
                refine held_take (i := 22) (v := ?v96) rfl (by kernel_rfl) (by kernel_rfl) (by kernel_rfl) (fun _ _ _ h => h) (Or.inl ⟨by rfl, ?hy96⟩) (by assumption) ?rest96
                case hy96 => (intro w hSw; (try dsimp only at hSw); go_simp; try with_reducible rfl)
                (try simp only [Act.put, List.setIfInBounds_toArray, List.set_cons_zero, List.set_cons_succ])
                refine held_take (i := 23) (v := ?v97) rfl (by kernel_rfl) (by kernel_rfl) (by kernel_rfl) (fun _ _ _ h => h) (Or.inl ⟨by rfl, ?hy97⟩) (by assumption) ?rest97
                case hy97 => (intro w hSw; (try dsimp only at hSw); go_simp; try with_reducible rfl)
                (try simp only [Act.put, List.setIfInBounds_toArray, List.set_cons_zero, List.set_cons_succ])
                refine held_take (i := 24) (v := ?v98) rfl (by kernel_rfl) (by kernel_rfl) (by kernel_rfl) (fun _ _ _ h => h) (Or.inl ⟨by rfl, ?hy98⟩) (by assumption) ?rest98
                case hy98 => (intro w hSw; (try dsimp only at hSw); go_simp; try with_reducible rfl)
                (try simp only [Act.put, List.setIfInBounds_toArray, List.set_cons_zero, List.set_cons_succ])
                refine held_take (i := 25) (v := ?v99) rfl (by kernel_rfl) (by kernel_rfl) (by kernel_rfl) (fun _ _ _ h => h) (Or.inl ⟨by rfl, ?hy99⟩) (by assumption) ?rest99
                case hy99 => (intro w hSw; (try dsimp only at hSw); go_simp; try with_reducible rfl)
                (try simp only [Act.put, List.setIfInBounds_toArray, List.set_cons_zero, List.set_cons_succ])
                refine held_take (i := 26) (v := ?v100) rfl (by kernel_rfl) (by kernel_rfl) (by kernel_rfl) (fun _ _ _ h => h) (Or.inl ⟨by rfl, ?hy100⟩) (by assumption) ?rest100
                case hy100 => (intro w hSw; (try dsimp only at hSw); go_simp; try with_reducible rfl)
                (try simp only [Act.put, List.setIfInBounds_toArray, List.set_cons_zero, List.set_cons_succ])
                refine held_take (i := 27) (v := ?v101) rfl (by kernel_rfl) (by kernel_rfl) (by kernel_rfl) (fun _ _ _ h => h) (Or.inl ⟨by rfl, ?hy101⟩) (by assumption) ?rest101
                case hy101 => (intro w hSw; (try dsimp only at hSw); go_simp; try with_reducible rfl)
                (try simp only [Act.put, List.setIfInBounds_toArray, List.set_cons_zero, List.set_cons_succ])
                refine wpAnyH_done (by kernel_rfl) ?_ _
                go_wp2_with fail
                exact ⟨⟨j + 1, by omega, by go_num, Lib.hid (bw_drew HBwU.out)⟩, by simp [intOf]; omega⟩
end Go.Proofs.Ytcahbcminonfbaa
