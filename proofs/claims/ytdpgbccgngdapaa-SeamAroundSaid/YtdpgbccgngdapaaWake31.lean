/- The small functions of layer 31's laws, walked: Alike, Check, pair, table, awake. No condition. -/
import Derived.Test.YtdpgbccgngdapaaSmR
namespace Go.Proofs.Ytdpgbccgngdapaa
open Go.RowKit

set_option linter.unusedSimpArgs false
set_option linter.unusedVariables false
/-- A row of edges that is read. -/
structure EC (w : World) (A : Option Addr) (L : List (Int × Int)) : Prop where
  at_ : 0 < L.length → ∃ g, A = some ⟨g, 0, none⟩ ∧ g < w.heap.size ∧ ∀ k e, L[k]? = some e → w.cell? ⟨g, k * 2, none⟩ = some (.int .i64 e.1) ∧ w.cell? ⟨g, k * 2 + 1, none⟩ = some (.int .i64 e.2)
section
variable {w w' : World} {A : Option Addr} {L : List (Int × Int)}
theorem EC.below (h : EC w A L) (hb : Below w.heap.size w w') : EC w' A L := ⟨fun hl => by
  obtain ⟨g, e, hg, hc⟩ := h.at_ hl
  exact ⟨g, e, Nat.lt_of_lt_of_le hg hb.size, fun k e' he => ⟨(hb.cell (p := ⟨g, k * 2, none⟩) hg).trans (hc k e' he).1, (hb.cell (p := ⟨g, k * 2 + 1, none⟩) hg).trans (hc k e' he).2⟩⟩⟩
theorem EC.alloc (h : EC w A L) (o : Obj) : EC (w.alloc o) A L := h.below ((Below.refl _ _).alloc (Nat.le_refl _) _)
theorem EC.drew (h : EC w A L) : EC w.drew A L := ⟨h.at_⟩
theorem EC.drewN (h : EC w A L) (n : Nat) : EC (w.drewN n) A L := ⟨h.at_⟩
theorem flat2 : ∀ (L : List (Int × Int)) (k : Nat) (e : Int × Int), L[k]? = some e → (L.flatMap cellE)[k * 2]? = some (.int .i64 e.1) ∧ (L.flatMap cellE)[k * 2 + 1]? = some (.int .i64 e.2)
  | [], k, e, h => by simp at h
  | x :: L, 0, e, h => by
    simp at h
    subst h
    exact ⟨rfl, rfl⟩
  | x :: L, k + 1, e, h => by
    simp at h
    have h1 := flat2 L k e h
    rw [show (k + 1) * 2 = k * 2 + 2 by omega]
    exact h1
theorem ERow.ec {B c : Nat} (h : ERow w B A c L) : EC w A L := ⟨fun hl => by
  obtain ⟨g, cap, hv, _, hlt⟩ := World.ownsRow.form h hl
  have hA : A = some ⟨g, 0, none⟩ := by injection hv
  subst hA
  have hadd : ∀ j, (⟨g, 0, none⟩ : Addr).add j = ⟨g, j, none⟩ := fun j => by
    unfold Addr.add
    split <;> simp_all
  refine ⟨g, rfl, hlt, fun k e he => ?_⟩
  have h1 := flat2 L k e he
  have h2 := World.ownsRow.cells h (g := g) rfl _ _ h1.1
  have h3 := World.ownsRow.cells h (g := g) rfl _ _ h1.2
  rw [hadd] at h2 h3
  exact ⟨h2, h3⟩⟩
end
theorem run_ne_ed2 (a b : Int) (w : World) : (binOp .neq 39 (.agg #[.int .i64 a, .int .i64 b]) (.agg #[.int .i64 a, .int .i64 b])).run Try.prog w = .ok (.bool false) w := by
  rw [run_neq_struct]
  show ((Op.equalIn (9998 + 1 + 1) _ _ _).run _ _).andThen _ = _
  unfold Op.equalIn
  simp [go_sem, Try.underlying3, Result.andThen, List.range']
attribute [local irreducible] Blk LRow World.alloc World.setCell World.cell? World.frozen? MapV ERow
set_option maxRecDepth 100000 in
set_option maxHeartbeats 4000000 in
theorem alike31_any (A A' : Option Addr) (c c' : Nat) (L : List (Int × Int)) (w : World) (hn : L.length ≤ 1000000) (h : EC w A L) (h' : EC w A' L) :
    Calls Try.prog 16 #[.slice A L.length c, .slice A' L.length c'] w (BoolPost w true) := by
  have H1 := Lib.hid h
  have H2 := Lib.hid h'
  clear h h'
  go_enter Try.func16, Try.ntmps16
  have hb0 : ((L.length : Int) != (L.length : Int)) = false := by simp
  go_wp2_with fail
  go_loopw [5] (fun iv wr => ∃ k q : Nat, k ≤ L.length ∧ iv = .int .i64 k ∧ wr = w.drewN q) (fun iv _ => L.length - (intOf iv).toNat)
  case atStart => exact ⟨0, 0, by omega, rfl, rfl⟩
  case round =>
    obtain ⟨k, q, hk, rfl, rfl⟩ := hrel
    by_cases hlt : k < L.length
    · have hki : (k : Int) < (L.length : Int) := by omega
      obtain ⟨g, rfl, _, hc⟩ := H1.out.at_ (by omega)
      obtain ⟨g', rfl, _, hc'⟩ := H2.out.at_ (by omega)
      have a0 := hc k _ (List.getElem?_eq_getElem hlt)
      have b0 := hc' k _ (List.getElem?_eq_getElem hlt)
      generalize L[k] = e at a0 b0
      obtain ⟨x, y⟩ := e
      obtain ⟨a0, a1⟩ := a0
      obtain ⟨b0, b1⟩ := b0
      simp only at a0 a1 b0 b1
      have hne := run_ne_ed2 x y
      clear hc hc'
      go_upto_region 6 with (fail)
      go_quiet (fail)
      go_wp2_with fail
      exact ⟨⟨k + 1, _, by omega, by go_num, rfl⟩, by simp [intOf]; omega⟩
    · obtain rfl : k = L.length := by omega
      go_wp2_with fail
      go_ret
      exact ⟨rfl, below_drewN (Below.refl _ _) _⟩
/-- A table, or none. -/
def TablePost (w : World) (N : Int) (T : List Tri) (e : Ending) (w' : World) : Prop :=
  (e = .returned (.pointer none) ∧ Below w.heap.size w w' ∧ (40 < T.length ∨ 60 < N ∨ N < 0 ∨ checkR N T ≠ (0, 0, 0))) ∨
  (∃ g m : Nat, N = (m : Int) ∧ m ≤ 60 ∧ T.length ≤ 40 ∧ checkR N T = (0, 0, 0) ∧ e = .returned (.pointer (some ⟨g, 0, none⟩)) ∧ TabN w' g m T ∧ Below w.heap.size w w')
theorem surf_chk {m : Nat} {T : List Tri} (h : checkR (m : Int) T = (0, 0, 0)) : SurfE m T := by
  obtain ⟨k, hk⟩ := surf_of (checkR_zero (by rw [h])).1
  obtain ⟨h1, h2⟩ := surf_e.1 hk
  obtain rfl : m = k := by omega
  exact h2
set_option maxRecDepth 100000 in
set_option maxHeartbeats 4000000 in
theorem table31_any (N : Int) (A : Option Addr) (c : Nat) (T : List Tri) (w : World) (ht : TrisAt w w.heap.size A T.length T) :
    Calls Try.prog 6 #[.agg #[.int .i64 N, .slice A T.length c]] w (TablePost w N T) := by
  have HT := Lib.hid ht
  clear ht
  obtain ⟨V, hV⟩ : ∃ V, V = w.alloc (.cells #[.int .i64 N, .slice A T.length c] 24) := ⟨_, rfl⟩
  have GA0 : Hid (Blk V w.heap.size 24 #[.int .i64 N, .slice A T.length c]) := by subst hV; exact Lib.hid (Blk.new _ _ _)
  have HB0 : Hid (Below w.heap.size w V) := by subst hV; exact Lib.hid (bw_alloc (Below.refl _ _) _)
  go_enter Try.func6, Try.ntmps6
  go_upto_region 1 with (fail)
  rw [← hV]
  clear hV
  obtain ⟨ga, hga⟩ : ∃ g, g = w.heap.size := ⟨_, rfl⟩
  rw [← hga] at GA0
  simp only [← hga]
  clear hga
  obtain ⟨s0, s1, _, _, _⟩ := soup_facts GA0.out
  by_cases hT40 : 40 < T.length
  · have hT40' : (40 : Int) < (T.length : Int) := by omega
    go_wp2_with fail
    go_ret
    exact .inl ⟨rfl, HB0.out, .inl hT40⟩
  have hT40' : ¬ (40 : Int) < (T.length : Int) := by omega
  by_cases hN60 : 60 < N
  · go_wp2_with fail
    go_ret
    exact .inl ⟨rfl, HB0.out, .inr (.inl hN60)⟩
  by_cases hN0 : N < 0
  · go_wp2_with fail
    go_ret
    exact .inl ⟨rfl, HB0.out, .inr (.inr (.inl hN0))⟩
  go_wp2_with fail
  refine (new_any N A T.length c T V (by omega) ((HT.out.below HB0.out).more HB0.out.size)).mono ?_
  rintro e w2 (⟨hx, g, rfl, htab, hb⟩ | ⟨hx, rfl, hb⟩)
  · have HB2 := Lib.hid (bw_call HB0.out hb)
    obtain ⟨m, rfl⟩ := Int.eq_ofNat_of_zero_le (show 0 ≤ N by omega)
    have HTB : Hid (TabN w2 g m T) := Lib.hid ⟨htab.base (Nat.zero_le _), surf_chk hx, by omega⟩
    have HX := Lib.hid hx
    clear hb htab hx s0 s1
    unfold wv
    simp only
    go_wp2_with fail
    go_ret
    exact .inr ⟨g, m, rfl, by omega, by omega, HX.out, rfl, HTB.out.alloc _, bw_alloc HB2.out _⟩
  · have HB2 := Lib.hid (bw_call HB0.out hb)
    have HX := Lib.hid hx
    clear hb hx s0 s1
    unfold wv
    simp only
    go_wp2_with fail
    go_ret
    exact .inl ⟨rfl, bw_alloc HB2.out _, .inr (.inr (.inr HX.out))⟩
def prT : List Tri := [⟨0, 1, 2⟩, ⟨3, 2, 1⟩]
theorem pr_is : checkR ((4 : Nat) : Int) prT = (0, 0, 0) := by decide +kernel
theorem pr_a : seamsN prT [5, 6, 7, 8, 7, 6] (3 * prT.length) = [] := by decide +kernel
theorem pr_b : seamsN prT [5, 6, 7, 8, 7, 9] (3 * prT.length) = [(1, 2)] := by decide +kernel
theorem sortE_one (x : Int × Int) : sortE [x] = [x] := sortE_is (by simp) (List.pairwise_singleton _ _) fun _ => Iff.rfl
theorem sortE_nil : sortE [] = [] := List.eq_nil_of_length_eq_zero (sortE_len [])
set_option maxRecDepth 100000 in
set_option maxHeartbeats 4000000 in
theorem pair31_any (w : World) : Calls Try.prog 15 #[] w (fun e w' => ∃ g, e = .returned (.pointer (some ⟨g, 0, none⟩)) ∧ TabN w' g 4 prT ∧ Below w.heap.size w w') := by
  have HB0 : Hid (Below w.heap.size w (w.alloc (.cells #[.int .i64 0, .int .i64 1, .int .i64 2, .int .i64 3, .int .i64 2, .int .i64 1] 65))) := Lib.hid (bw_alloc (Below.refl _ _) _)
  obtain ⟨V, hV⟩ : ∃ V, V = w.alloc (.cells #[.int .i64 0, .int .i64 1, .int .i64 2, .int .i64 3, .int .i64 2, .int .i64 1] 65) := ⟨_, rfl⟩
  have HT : Hid (TrisAt V V.heap.size (some ⟨w.heap.size, 0, none⟩) prT.length prT) := by
    subst hV
    refine Lib.hid (TrisAt.mk_ ?_)
    simpa [prT, Tri.cells] using reads_new w #[.int .i64 0, .int .i64 1, .int .i64 2, .int .i64 3, .int .i64 2, .int .i64 1] 65 2 3 rfl
  rw [← hV] at HB0
  go_enter Try.func15, Try.ntmps15
  go_wp2_with fail
  rw [← hV]
  refine (new_any 4 (some ⟨w.heap.size, 0, none⟩) prT.length 2 prT V (by decide) HT.out).mono ?_
  rintro e w2 (⟨hx, g, rfl, htab, hb⟩ | ⟨hx, rfl, hb⟩)
  rotate_left
  · exact absurd pr_is hx
  have HB2 := Lib.hid (bw_call HB0.out hb)
  have HTB : Hid (TabN w2 g 4 prT) := Lib.hid ⟨htab.base (Nat.zero_le _), surf_chk pr_is, by decide⟩
  clear hb htab hx HB0 HT hV
  unfold wv
  simp only
  go_wp2_with fail
  go_ret
  exact ⟨g, rfl, HTB.out.alloc _, bw_alloc HB2.out _⟩
theorem kr_new (w : World) (t : TypeId) (K : List Int) (cs : Array Value) (h : cs = (ZL K).toArray) : KR (w.alloc (.cells cs t)) (some ⟨w.heap.size, 0, none⟩) K := by
  subst h
  have h1 := reads_new w (ZL K).toArray t K.length 1 (by simp [ZL])
  exact ⟨by simpa using h1.more (by simp)⟩
set_option maxRecDepth 100000 in
set_option maxHeartbeats 4000000 in
theorem awake_any (w : World) : Calls Try.prog 5 #[] w (BoolPost w true) := by
  go_enter Try.func5, Try.ntmps5
  go_wp2_with fail
  refine (pair31_any w).mono ?_
  rintro e w1 ⟨g, rfl, ht, hb⟩
  have HT1 := Lib.hid ht
  have HB1 := Lib.hid hb
  clear ht hb
  obtain ⟨w2, hw2⟩ : ∃ W, W = w1.alloc (.cells #[.int .i64 5, .int .i64 6, .int .i64 7, .int .i64 8, .int .i64 7, .int .i64 6] 3) := ⟨_, rfl⟩
  have HT2 : Hid (TabN w2 g 4 prT) := by subst hw2; exact Lib.hid (HT1.out.alloc _)
  have HK2 : Hid (KR w2 (some ⟨w1.heap.size, 0, none⟩) [5, 6, 7, 8, 7, 6]) := by subst hw2; exact Lib.hid (kr_new _ _ _ _ rfl)
  have HB2 : Hid (Below w.heap.size w w2) := by subst hw2; exact Lib.hid (bw_alloc HB1.out _)
  go_wp2_with fail
  rw [← hw2]
  refine (edges31_any g 4 prT (some ⟨w1.heap.size, 0, none⟩) 6 [5, 6, 7, 8, 7, 6] w2 (by decide) HT2.out HK2.out (by decide)).mono ?_
  rintro e w3 ⟨A3, c3, rfl, he, hb⟩
  rw [pr_a, sortE_nil]
  have HB3 := Lib.hid (bw_call HB2.out hb)
  clear he hb hw2 HT1 HB1 HT2 HK2 HB2
  simp only [List.length_nil]
  go_upto_region 2 with (fail)
  go_wp2_with fail
  refine (pair31_any w3).mono ?_
  rintro e w4 ⟨g4, rfl, ht, hb⟩
  have HT4 := Lib.hid ht
  have HB4 := Lib.hid (bw_call HB3.out hb)
  clear ht hb HB3
  obtain ⟨w5, hw5⟩ : ∃ W, W = w4.alloc (.cells #[.int .i64 5, .int .i64 6, .int .i64 7, .int .i64 8, .int .i64 7, .int .i64 9] 3) := ⟨_, rfl⟩
  have HT5 : Hid (TabN w5 g4 4 prT) := by subst hw5; exact Lib.hid (HT4.out.alloc _)
  have HK5 : Hid (KR w5 (some ⟨w4.heap.size, 0, none⟩) [5, 6, 7, 8, 7, 9]) := by subst hw5; exact Lib.hid (kr_new _ _ _ _ rfl)
  have HB5 : Hid (Below w.heap.size w w5) := by subst hw5; exact Lib.hid (bw_alloc HB4.out _)
  go_wp2_with fail
  rw [← hw5]
  refine (edges31_any g4 4 prT (some ⟨w4.heap.size, 0, none⟩) 6 [5, 6, 7, 8, 7, 9] w5 (by decide) HT5.out HK5.out (by decide)).mono ?_
  rintro e w6 ⟨A6, c6, rfl, he, hb⟩
  rw [pr_b, sortE_one] at he ⊢
  have HB6 := Lib.hid (bw_call HB5.out hb)
  have HE6 := Lib.hid he.ec
  clear he hb hw5 HT4 HB4 HT5 HK5 HB5
  simp only [List.length_cons, List.length_nil]
  obtain ⟨w7, hw7⟩ : ∃ W, W = w6.alloc (.cells #[.int .i64 1, .int .i64 2] 39) := ⟨_, rfl⟩
  have HE7 : Hid (EC w7 A6 [(1, 2)]) := by subst hw7; exact Lib.hid (HE6.out.alloc _)
  have HF7 : Hid (EC w7 (some ⟨w6.heap.size, 0, none⟩) [(1, 2)]) := by
    subst hw7
    refine Lib.hid ⟨fun _ => ⟨_, rfl, by simp, fun k e hk => ?_⟩⟩
    cases k with
    | zero =>
      simp at hk
      subst hk
      exact ⟨(Blk.new w6 39 #[.int .i64 1, .int .i64 2]).cell 0, (Blk.new w6 39 #[.int .i64 1, .int .i64 2]).cell 1⟩
    | succ k => simp at hk
  have HB7 : Hid (Below w.heap.size w w7) := by subst hw7; exact Lib.hid (bw_alloc HB6.out _)
  go_wp2_with fail
  rw [← hw7]
  refine (alike31_any A6 (some ⟨w6.heap.size, 0, none⟩) c6 1 [(1, 2)] w7 (by decide) HE7.out HF7.out).mono ?_
  rintro e w8 ⟨rfl, hb⟩
  have HB8 := Lib.hid (bw_call HB7.out hb)
  go_wp2_with fail
  go_ret
  exact ⟨rfl, HB8.out⟩
end Go.Proofs.Ytdpgbccgngdapaa
