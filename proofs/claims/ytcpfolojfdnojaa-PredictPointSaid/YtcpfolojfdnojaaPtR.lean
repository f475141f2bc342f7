/- gypsumref28.Point, walked. No condition but sizes. -/
import Derived.Test.YtcpfolojfdnojaaPtO
namespace Go.Proofs.Ytcpfolojfdnojaa
open Go.RowKit

set_option linter.unusedSimpArgs false
set_option linter.unusedVariables false
theorem rar_facts {w : World} {g : Nat} {a b c d e : Value} (h : Blk w g 31 #[a, b, c, d, e]) : w.cell? ⟨g, 0, none⟩ = some a ∧ w.cell? ⟨g, 1, none⟩ = some b ∧ w.cell? ⟨g, 2, none⟩ = some c ∧ w.cell? ⟨g, 3, none⟩ = some d ∧ w.cell? ⟨g, 4, none⟩ = some e := ⟨h.cell 0, h.cell 1, h.cell 2, h.cell 3, h.cell 4⟩
theorem refCutB_any (x : Int) (w : World) : Calls Try.prog 32 #[.int .i64 x] w (IntPost w (cutI x)) := (refCut_any x w).mono fun e w' h => ⟨h.1, h.2 ▸ Below.refl _ _⟩
/-- A cell of a block that is there. -/
structure CellP (w : World) (p : Addr) (u : Value) : Prop where
  c : w.cell? p = some u
  lt : p.block < w.heap.size
section
variable {w w' : World} {p : Addr} {u : Value}
theorem CellP.below (h : CellP w p u) (hb : Below w.heap.size w w') : CellP w' p u := ⟨(hb.cell h.lt).trans h.c, Nat.lt_of_lt_of_le h.lt hb.size⟩
theorem CellP.drew (h : CellP w p u) : CellP w.drew p u := ⟨h.c, h.lt⟩
end
theorem pt_cell {w : World} {B n v i : Nat} {A : Option Addr} {P : List Tri} (h : TrisAt w B A n P) (hB : B ≤ w.heap.size) (hv : v < n) (hi : i < 3) : ∃ ad, A = some ad ∧ CellP w ((ad.add (v * 3)).add i) (.int .i64 (cornerT (tri P v) i)) := by
  obtain ⟨ad, t, e, htt, _, hb, hc⟩ := h.at_ hv
  refine ⟨ad, e, ?_, ?_⟩
  · rw [tri_of htt]
    rcases (by omega : i = 0 ∨ i = 1 ∨ i = 2) with rfl | rfl | rfl
    · have h0 := hc.c0
      rw [show (ad.add (v * 3)).add 0 = ad.add (v * 3) by simp [Addr.add]]
      exact h0
    · exact hc.c1
    · exact hc.c2
  · rw [block_of_add, block_of_add]
    omega
/-- The kind comes down to a rule that serves. -/
def Down (kd k : Int) (X : Ar) (n : Nat) (s : Nat) : Prop :=
  ((k = 3 ∧ (0 < s → hasP n X.a ∧ hasP n X.b ∧ hasP n X.c ∧ hasP n X.d)) ∨ (k = 2 ∧ (1 < s → hasP n X.a ∧ hasP n X.b ∧ hasP n X.c)) ∨ (k = 1 ∧ (2 < s → hasP n X.a ∧ hasP n X.b)) ∨ (k = 0 ∧ (3 < s → hasP n X.l))) ∧ ruleOf kd X n = ruleOf k X n
theorem down0 {kd : Int} (h0 : 0 ≤ kd) (h1 : kd ≤ 3) (X : Ar) (n : Nat) : Down kd kd X n 0 := ⟨by
  rcases (by omega : kd = 3 ∨ kd = 2 ∨ kd = 1 ∨ kd = 0) with h | h | h | h
  · exact .inl ⟨h, fun h => by omega⟩
  · exact .inr (.inl ⟨h, fun h => by omega⟩)
  · exact .inr (.inr (.inl ⟨h, fun h => by omega⟩))
  · exact .inr (.inr (.inr ⟨h, fun h => by omega⟩)), rfl⟩
theorem down1 {kd k : Int} {X : Ar} {n : Nat} (h : Down kd k X n 0) : (k = 3 ∧ ¬ (hasP n X.a ∧ hasP n X.b ∧ hasP n X.c ∧ hasP n X.d) → Down kd 2 X n 1) ∧ (¬ (k = 3 ∧ ¬ (hasP n X.a ∧ hasP n X.b ∧ hasP n X.c ∧ hasP n X.d)) → Down kd k X n 1) := by
  obtain ⟨h1, h2⟩ := h
  constructor
  · rintro ⟨rfl, hD⟩
    refine ⟨.inr (.inl ⟨rfl, fun h => by omega⟩), h2.trans ?_⟩
    unfold ruleOf
    rw [if_neg (show ¬ ((3 : Int) = 3 ∧ hasP n X.a ∧ hasP n X.b ∧ hasP n X.c ∧ hasP n X.d) from fun h => hD h.2), if_neg (show ¬ ((2 : Int) = 3 ∧ hasP n X.a ∧ hasP n X.b ∧ hasP n X.c ∧ hasP n X.d) from fun h => absurd h.1 (by decide))]
    simp
  · intro hn
    refine ⟨?_, h2⟩
    rcases h1 with ⟨h, _⟩ | ⟨h, _⟩ | ⟨h, _⟩ | ⟨h, _⟩
    · exact .inl ⟨h, fun _ => Classical.not_not.1 fun hD => hn ⟨h, hD⟩⟩
    · exact .inr (.inl ⟨h, fun h => by omega⟩)
    · exact .inr (.inr (.inl ⟨h, fun h => by omega⟩))
    · exact .inr (.inr (.inr ⟨h, fun h => by omega⟩))
theorem down2 {kd k : Int} {X : Ar} {n : Nat} (h : Down kd k X n 1) : (k = 2 ∧ ¬ (hasP n X.a ∧ hasP n X.b ∧ hasP n X.c) → Down kd 1 X n 2) ∧ (¬ (k = 2 ∧ ¬ (hasP n X.a ∧ hasP n X.b ∧ hasP n X.c)) → Down kd k X n 2) := by
  obtain ⟨h1, h2⟩ := h
  constructor
  · rintro ⟨rfl, hD⟩
    refine ⟨.inr (.inr (.inl ⟨rfl, fun h => by omega⟩)), h2.trans ?_⟩
    unfold ruleOf
    rw [if_neg (show ¬ ((2 : Int) = 3 ∧ hasP n X.a ∧ hasP n X.b ∧ hasP n X.c ∧ hasP n X.d) from fun h => absurd h.1 (by decide)), if_neg (show ¬ (((2 : Int) = 3 ∨ (2 : Int) = 2) ∧ hasP n X.a ∧ hasP n X.b ∧ hasP n X.c) from fun h => hD h.2), if_neg (show ¬ ((1 : Int) = 3 ∧ hasP n X.a ∧ hasP n X.b ∧ hasP n X.c ∧ hasP n X.d) from fun h => absurd h.1 (by decide)), if_neg (show ¬ (((1 : Int) = 3 ∨ (1 : Int) = 2) ∧ hasP n X.a ∧ hasP n X.b ∧ hasP n X.c) from fun h => absurd h.1 (by decide))]
    simp
  · intro hn
    refine ⟨?_, h2⟩
    rcases h1 with ⟨h, hd⟩ | ⟨h, _⟩ | ⟨h, _⟩ | ⟨h, _⟩
    · exact .inl ⟨h, fun _ => hd (by omega)⟩
    · exact .inr (.inl ⟨h, fun _ => Classical.not_not.1 fun hD => hn ⟨h, hD⟩⟩)
    · exact .inr (.inr (.inl ⟨h, fun h => by omega⟩))
    · exact .inr (.inr (.inr ⟨h, fun h => by omega⟩))
theorem down3 {kd k : Int} {X : Ar} {n : Nat} (h : Down kd k X n 2) : (k = 1 ∧ ¬ (hasP n X.a ∧ hasP n X.b) → Down kd 0 X n 3) ∧ (¬ (k = 1 ∧ ¬ (hasP n X.a ∧ hasP n X.b)) → Down kd k X n 3) := by
  obtain ⟨h1, h2⟩ := h
  constructor
  · rintro ⟨rfl, hD⟩
    refine ⟨.inr (.inr (.inr ⟨rfl, fun h => by omega⟩)), h2.trans ?_⟩
    unfold ruleOf
    rw [if_neg (show ¬ ((1 : Int) = 3 ∧ hasP n X.a ∧ hasP n X.b ∧ hasP n X.c ∧ hasP n X.d) from fun h => absurd h.1 (by decide)), if_neg (show ¬ (((1 : Int) = 3 ∨ (1 : Int) = 2) ∧ hasP n X.a ∧ hasP n X.b ∧ hasP n X.c) from fun h => absurd h.1 (by decide)), if_neg (show ¬ (((1 : Int) = 3 ∨ (1 : Int) = 2 ∨ (1 : Int) = 1) ∧ hasP n X.a ∧ hasP n X.b) from fun h => hD h.2), if_neg (show ¬ ((0 : Int) = 3 ∧ hasP n X.a ∧ hasP n X.b ∧ hasP n X.c ∧ hasP n X.d) from fun h => absurd h.1 (by decide)), if_neg (show ¬ (((0 : Int) = 3 ∨ (0 : Int) = 2) ∧ hasP n X.a ∧ hasP n X.b ∧ hasP n X.c) from fun h => absurd h.1 (by decide)), if_neg (show ¬ (((0 : Int) = 3 ∨ (0 : Int) = 2 ∨ (0 : Int) = 1) ∧ hasP n X.a ∧ hasP n X.b) from fun h => absurd h.1 (by decide))]
    simp
  · intro hn
    refine ⟨?_, h2⟩
    rcases h1 with ⟨h, hd⟩ | ⟨h, hd⟩ | ⟨h, _⟩ | ⟨h, _⟩
    · exact .inl ⟨h, fun _ => hd (by omega)⟩
    · exact .inr (.inl ⟨h, fun _ => hd (by omega)⟩)
    · exact .inr (.inr (.inl ⟨h, fun _ => Classical.not_not.1 fun hD => hn ⟨h, hD⟩⟩))
    · exact .inr (.inr (.inr ⟨h, fun h => by omega⟩))
theorem down4 {kd k : Int} {X : Ar} {n : Nat} (h : Down kd k X n 3) : (k = 0 ∧ ¬ hasP n X.l → ruleOf kd X n = .none) ∧ (¬ (k = 0 ∧ ¬ hasP n X.l) →
    (k = 3 ∧ ruleOf kd X n = .double ∧ hasP n X.a ∧ hasP n X.b ∧ hasP n X.c ∧ hasP n X.d) ∨ (k = 2 ∧ ruleOf kd X n = .across ∧ hasP n X.a ∧ hasP n X.b ∧ hasP n X.c) ∨ (k = 1 ∧ ruleOf kd X n = .middle ∧ hasP n X.a ∧ hasP n X.b) ∨ (k = 0 ∧ ruleOf kd X n = .last ∧ hasP n X.l)) := by
  obtain ⟨h1, h2⟩ := h
  constructor
  · rintro ⟨rfl, hD⟩
    rw [h2]
    unfold ruleOf
    rw [if_neg (fun h => absurd h.1 (by decide)), if_neg (fun h => absurd h.1 (by decide)), if_neg (fun h => absurd h.1 (by decide)), if_neg (fun h => hD h.2)]
  · intro hn
    rw [h2]
    rcases h1 with ⟨rfl, hd⟩ | ⟨rfl, hd⟩ | ⟨rfl, hd⟩ | ⟨rfl, _⟩
    · have hd := hd (by omega)
      exact .inl ⟨rfl, by unfold ruleOf; rw [if_pos ⟨rfl, hd⟩], hd⟩
    · have hd := hd (by omega)
      exact .inr (.inl ⟨rfl, by unfold ruleOf; rw [if_neg (fun h => absurd h.1 (by decide)), if_pos ⟨by decide, hd⟩], hd⟩)
    · have hd := hd (by omega)
      exact .inr (.inr (.inl ⟨rfl, by unfold ruleOf; rw [if_neg (fun h => absurd h.1 (by decide)), if_neg (fun h => absurd h.1 (by decide)), if_pos ⟨by decide, hd⟩], hd⟩))
    · have hd : hasP n X.l := Classical.not_not.1 fun hD => hn ⟨rfl, hD⟩
      exact .inr (.inr (.inr ⟨rfl, by unfold ruleOf; rw [if_neg (fun h => absurd h.1 (by decide)), if_neg (fun h => absurd h.1 (by decide)), if_neg (fun h => absurd h.1 (by decide)), if_pos ⟨by decide, hd⟩], hd⟩))
theorem out_of {kd : Int} (h : kd < 0 ∨ 3 < kd) (X : Ar) (n : Nat) : ruleOf kd X n = .none := by
  unfold ruleOf
  rw [if_neg (fun h => by omega), if_neg (fun h => by omega), if_neg (fun h => by omega), if_neg (fun h => by omega)]
theorem point_none {kd : Int} {X : Ar} {P : List Tri} (h : ruleOf kd X P.length = .none) (i : Nat) : pointL kd X P i = 0 := by unfold pointL; rw [h]; rfl
attribute [local irreducible] Blk World.alloc World.setCell World.cell? World.frozen?
set_option maxRecDepth 100000 in
set_option maxHeartbeats 8000000 in
theorem refPoint_any (kd xl xa xb xc xd : Int) (Ap : Option Addr) (np cp : Nat) (P : List Tri) (w : World) (hn : np ≤ 10000) (hp : TrisAt w w.heap.size Ap np P) :
    Calls Try.prog 14 #[.int .i64 kd, .agg #[.int .i64 xl, .int .i64 xa, .int .i64 xb, .int .i64 xc, .int .i64 xd], .slice Ap np cp] w (PtPost w kd ⟨xl, xa, xb, xc, xd⟩ P) := by
  have HPL : Hid (P.length = np) := Lib.hid hp.len
  have HP := Lib.hid hp
  clear hp
  obtain ⟨X, HXX⟩ : ∃ X : Ar, Hid (X = ⟨xl, xa, xb, xc, xd⟩) := ⟨_, Lib.hid rfl⟩
  rw [← HXX.out]
  obtain ⟨V, hV⟩ : ∃ V, V = ((w.alloc (.cells #[.int .i64 xl, .int .i64 xa, .int .i64 xb, .int .i64 xc, .int .i64 xd] 31)).alloc (.cells #[.int .i64 0, .int .i64 0, .int .i64 0] 36)).alloc (.cells #[.int .i64 0, .int .i64 0, .int .i64 0] 36) := ⟨_, rfl⟩
  have GX0 : Hid (Blk V w.heap.size 31 #[.int .i64 xl, .int .i64 xa, .int .i64 xb, .int .i64 xc, .int .i64 xd]) := by subst hV; exact Lib.hid (((Blk.new _ _ _).alloc _).alloc _)
  have GR0 : Hid (Blk V (w.heap.size + 1) 36 #[.int .i64 0, .int .i64 0, .int .i64 0]) := by subst hV; exact Lib.hid ((blk_new1 _ _ _ _).alloc _)
  have GO0 : Hid (Blk V (w.heap.size + 2) 36 #[.int .i64 0, .int .i64 0, .int .i64 0]) := by subst hV; exact Lib.hid (Blk.new_ (by simp) _ _)
  have HB0 : Hid (Below w.heap.size w V) := by subst hV; exact Lib.hid (bw_alloc (bw_alloc (bw_alloc (Below.refl _ _) _) _) _)
  go_enter Try.func14, Try.ntmps14
  go_upto_region 2 with (fail)
  rw [← hV]
  clear hV
  obtain ⟨g0, hg0⟩ : ∃ g, g = w.heap.size := ⟨_, rfl⟩
  obtain ⟨g1, hg1⟩ : ∃ g, g = w.heap.size + 1 := ⟨_, rfl⟩
  obtain ⟨g3, hg3⟩ : ∃ g, g = w.heap.size + 1 + 1 := ⟨_, rfl⟩
  have HN : Hid (g0 ≠ g3 ∧ g1 ≠ g3) := Lib.hid ⟨by omega, by omega⟩
  have HG3 : Hid (w.heap.size ≤ g3) := Lib.hid (by omega)
  have HG1 : Hid (w.heap.size ≤ g1) := Lib.hid (by omega)
  rw [show w.heap.size + 2 = w.heap.size + 1 + 1 by omega] at GO0
  rw [← hg3] at GO0 ⊢
  rw [← hg1] at GR0 ⊢
  rw [← hg0] at GX0
  simp only [← hg0]
  clear hg0 hg1 hg3
  obtain ⟨x0, x1, x2, x3, x4⟩ := rar_facts GX0.out
  have HZ : Hid (∀ (W : World), Blk W g1 36 #[.int .i64 0, .int .i64 0, .int .i64 0] → Below w.heap.size w W → ruleOf kd X np = .none → Below w.heap.size w (((W.setCell ⟨g1, 0, none⟩ (.int .i64 0)).setCell ⟨g1, 1, none⟩ (.int .i64 0)).setCell ⟨g1, 2, none⟩ (.int .i64 0))) := Lib.hid fun W h hb _ => bw_set (bw_set (bw_set hb HG1.out _) HG1.out _) HG1.out _
  have r0 := GR0.out.cell 0
  have r1 := GR0.out.cell 1
  have r2 := GR0.out.cell 2
  have rf0 := GR0.out.frozen 0
  have rf1 := GR0.out.frozen 1
  have rf2 := GR0.out.frozen 2
  have o0 := GO0.out.cell 0
  have o1 := GO0.out.cell 1
  have o2 := GO0.out.cell 2
  simp at r0 r1 r2 o0 o1 o2
  by_cases hlo : kd < 0
  · have HRU : Hid (ruleOf kd X P.length = .none) := Lib.hid (out_of (.inl hlo) X _)
    go_wp2_with fail
    have z := ((GR0.out.set_ 0 (.int .i64 0)).set_ 1 (.int .i64 0)).set_ 2 (.int .i64 0)
    have z0 := z.cell 0
    have z1 := z.cell 1
    have z2 := z.cell 2
    simp at z0 z1 z2
    refine bodyPost_ret (v := .agg #[.int .i64 0, .int .i64 0, .int .i64 0]) ?_ rfl ⟨by rw [point_none HRU.out, point_none HRU.out, point_none HRU.out], bw_set (bw_set (bw_set HB0.out HG1.out _) HG1.out _) HG1.out _⟩
    simp [results, Try.results14, go_sem, z0, z1, z2]
  by_cases hhi : 3 < kd
  · have HRU : Hid (ruleOf kd X P.length = .none) := Lib.hid (out_of (.inr hhi) X _)
    go_wp2_with fail
    have z := ((GR0.out.set_ 0 (.int .i64 0)).set_ 1 (.int .i64 0)).set_ 2 (.int .i64 0)
    have z0 := z.cell 0
    have z1 := z.cell 1
    have z2 := z.cell 2
    simp at z0 z1 z2
    refine bodyPost_ret (v := .agg #[.int .i64 0, .int .i64 0, .int .i64 0]) ?_ rfl ⟨by rw [point_none HRU.out, point_none HRU.out, point_none HRU.out], bw_set (bw_set (bw_set HB0.out HG1.out _) HG1.out _) HG1.out _⟩
    simp [results, Try.results14, go_sem, z0, z1, z2]
  have HD0 := Lib.hid (down0 (show 0 ≤ kd by omega) (show kd ≤ 3 by omega) X np)
  rw [HXX.out] at HD0
  clear o0 o1 o2 r0 r1 r2 rf0 rf1 rf2
  go_upto_region 4 with (fail)
  go_cut [43] from 17 to 43 (fun bv wx => bv = .bool (decide (kd = 3 ∧ ¬ (hasP np xa ∧ hasP np xb ∧ hasP np xc ∧ hasP np xd))) ∧ wx = V)
  case first =>
    by_cases hkk : kd = 3
    · subst hkk
      go_wp2_with fail
      refine (refHas_any Ap np cp xa V (by omega)).mono ?_
      by_cases ha : hasP np xa
      rotate_left
      · rw [decide_eq_false ha]
        rintro e w1 ⟨rfl, hw⟩
        rw [hw]
        clear hw
        go_wp2_with fail
        go_meet
        exact ⟨by simp [ha], rfl⟩
      rw [decide_eq_true ha]
      rintro e w1 ⟨rfl, hw⟩
      rw [hw]
      clear hw w1
      go_wp2_with fail
      refine (refHas_any Ap np cp xb V (by omega)).mono ?_
      by_cases hb : hasP np xb
      rotate_left
      · rw [decide_eq_false hb]
        rintro e w1 ⟨rfl, hw⟩
        rw [hw]
        clear hw
        go_wp2_with fail
        go_meet
        exact ⟨by simp [hb], rfl⟩
      rw [decide_eq_true hb]
      rintro e w1 ⟨rfl, hw⟩
      rw [hw]
      clear hw w1
      go_wp2_with fail
      refine (refHas_any Ap np cp xc V (by omega)).mono ?_
      by_cases hc : hasP np xc
      rotate_left
      · rw [decide_eq_false hc]
        rintro e w1 ⟨rfl, hw⟩
        rw [hw]
        clear hw
        go_wp2_with fail
        go_meet
        exact ⟨by simp [hc], rfl⟩
      rw [decide_eq_true hc]
      rintro e w1 ⟨rfl, hw⟩
      rw [hw]
      clear hw w1
      go_wp2_with fail
      refine (refHas_any Ap np cp xd V (by omega)).mono ?_
      by_cases hd : hasP np xd
      rotate_left
      · rw [decide_eq_false hd]
        rintro e w1 ⟨rfl, hw⟩
        rw [hw]
        clear hw
        go_wp2_with fail
        go_meet
        exact ⟨by simp [hd], rfl⟩
      rw [decide_eq_true hd]
      rintro e w1 ⟨rfl, hw⟩
      rw [hw]
      clear hw w1
      go_wp2_with fail
      go_meet
      exact ⟨by simp [ha, hb, hc, hd], rfl⟩
    · have hkb : (kd == 3) = false := by simp [hkk]
      go_wp2_with fail
      go_meet
      exact ⟨by simp [hkk], rfl⟩
  case rest =>
    obtain ⟨rfl, hw⟩ := hcut
    replace hw := hw.symm
    subst hw
    go_upto_if 43 with (fail)
    go_cut [0] from 43 to 43 (fun kx wx => ∃ k1 : Int, kx = .int .i64 k1 ∧ wx = V ∧ Hid (Down kd k1 ⟨xl, xa, xb, xc, xd⟩ np 1))
    case first =>
      by_cases hdd : kd = 3 ∧ ¬ (hasP np xa ∧ hasP np xb ∧ hasP np xc ∧ hasP np xd)
      · rw [decide_eq_true hdd]
        have HDN := Lib.hid ((down1 HD0.out).1 hdd)
        clear hdd
        go_wp2_with fail
        go_meet
        exact ⟨2, rfl, rfl, HDN⟩
      · rw [decide_eq_false hdd]
        have HDN := Lib.hid ((down1 HD0.out).2 hdd)
        clear hdd
        go_wp2_with fail
        go_meet
        exact ⟨kd, rfl, rfl, HDN⟩
    case rest =>
      obtain ⟨k1, rfl, hw, HD1⟩ := hcut
      replace hw := hw.symm
      subst hw
      clear HD0
      go_upto_region 6 with (fail)
      go_cut [64] from 44 to 64 (fun bv wx => bv = .bool (decide (k1 = 2 ∧ ¬ (hasP np xa ∧ hasP np xb ∧ hasP np xc))) ∧ wx = V)
      case first =>
        by_cases hkk : k1 = 2
        · subst hkk
          go_wp2_with fail
          refine (refHas_any Ap np cp xa V (by omega)).mono ?_
          by_cases ha : hasP np xa
          rotate_left
          · rw [decide_eq_false ha]
            rintro e w1 ⟨rfl, hw⟩
            rw [hw]
            clear hw
            go_wp2_with fail
            go_meet
            exact ⟨by simp [ha], rfl⟩
          rw [decide_eq_true ha]
          rintro e w1 ⟨rfl, hw⟩
          rw [hw]
          clear hw w1
          go_wp2_with fail
          refine (refHas_any Ap np cp xb V (by omega)).mono ?_
          by_cases hb : hasP np xb
          rotate_left
          · rw [decide_eq_false hb]
            rintro e w1 ⟨rfl, hw⟩
            rw [hw]
            clear hw
            go_wp2_with fail
            go_meet
            exact ⟨by simp [hb], rfl⟩
          rw [decide_eq_true hb]
          rintro e w1 ⟨rfl, hw⟩
          rw [hw]
          clear hw w1
          go_wp2_with fail
          refine (refHas_any Ap np cp xc V (by omega)).mono ?_
          by_cases hc : hasP np xc
          rotate_left
          · rw [decide_eq_false hc]
            rintro e w1 ⟨rfl, hw⟩
            rw [hw]
            clear hw
            go_wp2_with fail
            go_meet
            exact ⟨by simp [hc], rfl⟩
          rw [decide_eq_true hc]
          rintro e w1 ⟨rfl, hw⟩
          rw [hw]
          clear hw w1
          go_wp2_with fail
          go_meet
          exact ⟨by simp [ha, hb, hc], rfl⟩
        · have hkb : (k1 == 2) = false := by simp [hkk]
          go_wp2_with fail
          go_meet
          exact ⟨by simp [hkk], rfl⟩
      case rest =>
        obtain ⟨rfl, hw⟩ := hcut
        replace hw := hw.symm
        subst hw
        go_upto_if 64 with (fail)
        go_cut [0] from 64 to 64 (fun kx wx => ∃ k2 : Int, kx = .int .i64 k2 ∧ wx = V ∧ Hid (Down kd k2 ⟨xl, xa, xb, xc, xd⟩ np 2))
        case first =>
          by_cases hdd : k1 = 2 ∧ ¬ (hasP np xa ∧ hasP np xb ∧ hasP np xc)
          · rw [decide_eq_true hdd]
            have HDN := Lib.hid ((down2 HD1.out).1 hdd)
            clear hdd
            go_wp2_with fail
            go_meet
            exact ⟨1, rfl, rfl, HDN⟩
          · rw [decide_eq_false hdd]
            have HDN := Lib.hid ((down2 HD1.out).2 hdd)
            clear hdd
            go_wp2_with fail
            go_meet
            exact ⟨k1, rfl, rfl, HDN⟩
        case rest =>
          obtain ⟨k2, rfl, hw, HD2⟩ := hcut
          replace hw := hw.symm
          subst hw
          clear HD1
          go_upto_region 8 with (fail)
          go_cut [79] from 65 to 79 (fun bv wx => bv = .bool (decide (k2 = 1 ∧ ¬ (hasP np xa ∧ hasP np xb))) ∧ wx = V)
          case first =>
            by_cases hkk : k2 = 1
            · subst hkk
              go_wp2_with fail
              refine (refHas_any Ap np cp xa V (by omega)).mono ?_
              by_cases ha : hasP np xa
              rotate_left
              · rw [decide_eq_false ha]
                rintro e w1 ⟨rfl, hw⟩
                rw [hw]
                clear hw
                go_wp2_with fail
                go_meet
                exact ⟨by simp [ha], rfl⟩
              rw [decide_eq_true ha]
              rintro e w1 ⟨rfl, hw⟩
              rw [hw]
              clear hw w1
              go_wp2_with fail
              refine (refHas_any Ap np cp xb V (by omega)).mono ?_
              by_cases hb : hasP np xb
              rotate_left
              · rw [decide_eq_false hb]
                rintro e w1 ⟨rfl, hw⟩
                rw [hw]
                clear hw
                go_wp2_with fail
                go_meet
                exact ⟨by simp [hb], rfl⟩
              rw [decide_eq_true hb]
              rintro e w1 ⟨rfl, hw⟩
              rw [hw]
              clear hw w1
              go_wp2_with fail
              go_meet
              exact ⟨by simp [ha, hb], rfl⟩
            · have hkb : (k2 == 1) = false := by simp [hkk]
              go_wp2_with fail
              go_meet
              exact ⟨by simp [hkk], rfl⟩
          case rest =>
            obtain ⟨rfl, hw⟩ := hcut
            replace hw := hw.symm
            subst hw
            go_upto_if 79 with (fail)
            go_cut [0] from 79 to 79 (fun kx wx => ∃ k3 : Int, kx = .int .i64 k3 ∧ wx = V ∧ Hid (Down kd k3 ⟨xl, xa, xb, xc, xd⟩ np 3))
            case first =>
              by_cases hdd : k2 = 1 ∧ ¬ (hasP np xa ∧ hasP np xb)
              · rw [decide_eq_true hdd]
                have HDN := Lib.hid ((down3 HD2.out).1 hdd)
                clear hdd
                go_wp2_with fail
                go_meet
                exact ⟨0, rfl, rfl, HDN⟩
              · rw [decide_eq_false hdd]
                have HDN := Lib.hid ((down3 HD2.out).2 hdd)
                clear hdd
                go_wp2_with fail
                go_meet
                exact ⟨k2, rfl, rfl, HDN⟩
            case rest =>
              obtain ⟨k3, rfl, hw, HD3⟩ := hcut
              replace hw := hw.symm
              subst hw
              clear HD2
              go_upto_region 10 with (fail)
              go_cut [88] from 80 to 88 (fun bv wx => bv = .bool (decide (k3 = 0 ∧ ¬ (hasP np xl))) ∧ wx = V)
              case first =>
                by_cases hkk : k3 = 0
                · subst hkk
                  go_wp2_with fail
                  refine (refHas_any Ap np cp xl V (by omega)).mono ?_
                  by_cases hl : hasP np xl
                  rotate_left
                  · rw [decide_eq_false hl]
                    rintro e w1 ⟨rfl, hw⟩
                    rw [hw]
                    clear hw
                    go_wp2_with fail
                    go_meet
                    exact ⟨by simp [hl], rfl⟩
                  rw [decide_eq_true hl]
                  rintro e w1 ⟨rfl, hw⟩
                  rw [hw]
                  clear hw w1
                  go_wp2_with fail
                  go_meet
                  exact ⟨by simp [hl], rfl⟩
                · have hkb : (k3 == 0) = false := by simp [hkk]
                  go_wp2_with fail
                  go_meet
                  exact ⟨by simp [hkk], rfl⟩
              case rest =>
                obtain ⟨rfl, hw⟩ := hcut
                replace hw := hw.symm
                subst hw
                by_cases hdd : k3 = 0 ∧ ¬ (hasP np xl)
                · rw [decide_eq_true hdd]
                  have HRU : Hid (ruleOf kd X P.length = .none) := Lib.hid (by rw [HPL.out, HXX.out]; exact (down4 HD3.out).1 hdd)
                  clear hdd
                  have r0 := GR0.out.cell 0
                  have r1 := GR0.out.cell 1
                  have r2 := GR0.out.cell 2
                  have rf0 := GR0.out.frozen 0
                  have rf1 := GR0.out.frozen 1
                  have rf2 := GR0.out.frozen 2
                  have o0 := GO0.out.cell 0
                  have o1 := GO0.out.cell 1
                  have o2 := GO0.out.cell 2
                  simp at r0 r1 r2 o0 o1 o2
                  go_wp2_with fail
                  have z := ((GR0.out.set_ 0 (.int .i64 0)).set_ 1 (.int .i64 0)).set_ 2 (.int .i64 0)
                  have z0 := z.cell 0
                  have z1 := z.cell 1
                  have z2 := z.cell 2
                  simp at z0 z1 z2
                  refine bodyPost_ret (v := .agg #[.int .i64 0, .int .i64 0, .int .i64 0]) ?_ rfl ⟨by rw [point_none HRU.out, point_none HRU.out, point_none HRU.out], bw_set (bw_set (bw_set HB0.out HG1.out _) HG1.out _) HG1.out _⟩
                  simp [results, Try.results14, go_sem, z0, z1, z2]
                rw [decide_eq_false hdd]
                have HD4 := Lib.hid ((down4 HD3.out).2 hdd)
                clear hdd HD3 x0 x1 x2 x3 x4
                go_wp2_with fail
                go_loopw [8] (fun iv wr => ∃ k : Nat, k ≤ 3 ∧ iv = .int .i64 k ∧ Hid (Blk wr g0 31 #[.int .i64 xl, .int .i64 xa, .int .i64 xb, .int .i64 xc, .int .i64 xd]) ∧ Hid (Blk wr g1 36 #[.int .i64 0, .int .i64 0, .int .i64 0]) ∧ Hid (Blk wr g3 36 (outC kd X P k)) ∧ Hid (Below w.heap.size w wr)) (fun iv _ => 3 - (intOf iv).toNat)
                case atStart => exact ⟨0, by omega, rfl, GX0, GR0, GO0, HB0⟩
                case round =>
                  obtain ⟨k, hk, rfl, GXwB, GRwB, GOwB, HBwB⟩ := hrel
                  obtain ⟨wB, hwB⟩ : ∃ wB : World, wB = wr := ⟨_, rfl⟩
                  rw [← hwB] at GXwB GRwB GOwB HBwB ⊢
                  clear hwB GX0 GR0 GO0 HB0
                  by_cases hk3 : k < 3
                  · have hki : (k : Int) < 3 := by omega
                    obtain ⟨q, HQ⟩ : ∃ q, Hid (outV kd X P k k = q) := ⟨_, Lib.hid rfl⟩
                    rcases HD4.out with ⟨rfl, hru, ha, hb, hc, hd⟩ | ⟨rfl, hru, ha, hb, hc⟩ | ⟨rfl, hru, ha, hb⟩ | ⟨rfl, hru, hl⟩
                    · obtain ⟨va, rfl⟩ := Int.eq_ofNat_of_zero_le ha.1
                      have hva : va < np := by have := ha.2; omega
                      have hia : (va : Int) < (np : Int) := by omega
                      obtain ⟨ad, eAd, cta⟩ := pt_cell (HP.out.below HBwB.out) HBwB.out.size hva hk3
                      subst eAd
                      have GCawB := Lib.hid cta
                      obtain ⟨pa, HPa⟩ : ∃ pa, Hid (cutI (cornerT (tri P va) k) = pa) := ⟨_, Lib.hid rfl⟩
                      have la := cut_le (cornerT (tri P va) k)
                      rw [HPa.out] at la
                      have HCUa : Hid (∀ (W : World), Calls Try.prog 32 #[.int .i64 (cornerT (tri P va) k)] W (IntPost W pa)) := Lib.hid fun W => HPa.out ▸ refCutB_any _ W
                      obtain ⟨vb, rfl⟩ := Int.eq_ofNat_of_zero_le hb.1
                      have hvb : vb < np := by have := hb.2; omega
                      have hib : (vb : Int) < (np : Int) := by omega
                      have GCbwB : Hid (CellP wB ((ad.add (vb * 3)).add k) (.int .i64 (cornerT (tri P vb) k))) := Lib.hid (by obtain ⟨ad', e, h⟩ := pt_cell (HP.out.below HBwB.out) HBwB.out.size hvb hk3; injection e with e; subst e; exact h)
                      obtain ⟨pb, HPb⟩ : ∃ pb, Hid (cutI (cornerT (tri P vb) k) = pb) := ⟨_, Lib.hid rfl⟩
                      have lb := cut_le (cornerT (tri P vb) k)
                      rw [HPb.out] at lb
                      have HCUb : Hid (∀ (W : World), Calls Try.prog 32 #[.int .i64 (cornerT (tri P vb) k)] W (IntPost W pb)) := Lib.hid fun W => HPb.out ▸ refCutB_any _ W
                      obtain ⟨vc, rfl⟩ := Int.eq_ofNat_of_zero_le hc.1
                      have hvc : vc < np := by have := hc.2; omega
                      have hic : (vc : Int) < (np : Int) := by omega
                      have GCcwB : Hid (CellP wB ((ad.add (vc * 3)).add k) (.int .i64 (cornerT (tri P vc) k))) := Lib.hid (by obtain ⟨ad', e, h⟩ := pt_cell (HP.out.below HBwB.out) HBwB.out.size hvc hk3; injection e with e; subst e; exact h)
                      obtain ⟨pcc, HPc⟩ : ∃ pcc, Hid (cutI (cornerT (tri P vc) k) = pcc) := ⟨_, Lib.hid rfl⟩
                      have lc := cut_le (cornerT (tri P vc) k)
                      rw [HPc.out] at lc
                      have HCUc : Hid (∀ (W : World), Calls Try.prog 32 #[.int .i64 (cornerT (tri P vc) k)] W (IntPost W pcc)) := Lib.hid fun W => HPc.out ▸ refCutB_any _ W
                      obtain ⟨vd, rfl⟩ := Int.eq_ofNat_of_zero_le hd.1
                      have hvd : vd < np := by have := hd.2; omega
                      have hid : (vd : Int) < (np : Int) := by omega
                      have GCdwB : Hid (CellP wB ((ad.add (vd * 3)).add k) (.int .i64 (cornerT (tri P vd) k))) := Lib.hid (by obtain ⟨ad', e, h⟩ := pt_cell (HP.out.below HBwB.out) HBwB.out.size hvd hk3; injection e with e; subst e; exact h)
                      obtain ⟨pd, HPd⟩ : ∃ pd, Hid (cutI (cornerT (tri P vd) k) = pd) := ⟨_, Lib.hid rfl⟩
                      have ld := cut_le (cornerT (tri P vd) k)
                      rw [HPd.out] at ld
                      have HCUd : Hid (∀ (W : World), Calls Try.prog 32 #[.int .i64 (cornerT (tri P vd) k)] W (IntPost W pd)) := Lib.hid fun W => HPd.out ▸ refCutB_any _ W
                      have HSET : Hid (∀ (W : World), Blk W g3 36 (outC kd X P k) → Hid (Blk (W.setCell ⟨g3, k, none⟩ (.int .i64 (cutI (Int.tdiv (2 * pa + 2 * pb - pcc - pd) 2)))) g3 36 (outC kd X P (k + 1)))) := Lib.hid fun W h => Lib.hid (by
                        have h1 := out_set hk3 (show ruleOf kd X P.length = .double by rw [HPL.out, HXX.out]; exact hru) h
                        rwa [show tell .double X P k = cutI (Int.tdiv (2 * pa + 2 * pb - pcc - pd) 2) by
                          rw [HXX.out]
                          show cutI (Int.tdiv (2 * cutI (cornerT (tri P va) k) + 2 * cutI (cornerT (tri P vb) k) - cutI (cornerT (tri P vc) k) - cutI (cornerT (tri P vd) k)) 2) = _
                          rw [HPa.out, HPb.out, HPc.out, HPd.out]] at h1)
                      generalize cornerT (tri P va) k = ra at *
                      generalize cornerT (tri P vb) k = rb at *
                      generalize cornerT (tri P vc) k = rc at *
                      generalize cornerT (tri P vd) k = rd at *
                      clear hru HD4 ha hb hc hd HPa HPb HPc HPd cta
                      have q1 : IntKind.i64.wrap (2 * pa) = 2 * pa := IntWalk.i64_in _ (by omega)
                      have q2 : IntKind.i64.wrap (2 * pb) = 2 * pb := IntWalk.i64_in _ (by omega)
                      have q3 : IntKind.i64.wrap (2 * pa + 2 * pb) = 2 * pa + 2 * pb := IntWalk.i64_in _ (by omega)
                      have q4 : IntKind.i64.wrap (2 * pa + 2 * pb - pcc) = 2 * pa + 2 * pb - pcc := IntWalk.i64_in _ (by omega)
                      have q5 : IntKind.i64.wrap (2 * pa + 2 * pb - pcc - pd) = 2 * pa + 2 * pb - pcc - pd := IntWalk.i64_in _ (by omega)
                      have hh := half_le (x := 2 * pa + 2 * pb - pcc - pd) (b := 3145728) (by omega) (by omega)
                      have q9 : IntKind.i64.wrap (Int.tdiv (2 * pa + 2 * pb - pcc - pd) 2) = Int.tdiv (2 * pa + 2 * pb - pcc - pd) 2 := IntWalk.i64_in _ (by omega)
                      go_upto_region 24 with (fail)
                      refine wp_region_till (S := fun w' => w'.cell? ⟨g0, 1, none⟩ = some (.int .i64 (va : Int)) ∧ w'.cell? ⟨g0, 2, none⟩ = some (.int .i64 (vb : Int)) ∧ w'.cell? ⟨g0, 3, none⟩ = some (.int .i64 (vc : Int)) ∧ w'.cell? ⟨g0, 4, none⟩ = some (.int .i64 (vd : Int)) ∧ w'.cell? ((ad.add (va * 3)).add k) = some (.int .i64 ra) ∧ w'.cell? ((ad.add (vb * 3)).add k) = some (.int .i64 rb) ∧ w'.cell? ((ad.add (vc * 3)).add k) = some (.int .i64 rc) ∧ w'.cell? ((ad.add (vd * 3)).add k) = some (.int .i64 rd)) 38 (by kernel_rfl) ⟨(rar_facts GXwB.out.drew).2.1, (rar_facts GXwB.out.drew).2.2.1, (rar_facts GXwB.out.drew).2.2.2.1, (rar_facts GXwB.out.drew).2.2.2.2, GCawB.out.drew.c, GCbwB.out.drew.c, GCcwB.out.drew.c, GCdwB.out.drew.c⟩ (fun hHeld => ?_)
                      refine Till.take (i := 0) (v := ?vt1) rfl (by kernel_rfl) (by kernel_rfl) (by kernel_rfl) (by kernel_rfl) (fun _ _ _ h => h) (Or.inl ⟨by rfl, ?ht1⟩) (by assumption) ?restt1
                      case ht1 => (intro w hSw; (try dsimp only at hSw); go_simp; try with_reducible rfl)
                      (try simp only [Act.put, List.setIfInBounds_toArray, List.set_cons_zero, List.set_cons_succ])
                      refine Till.take (i := 1) (v := ?vt2) rfl (by kernel_rfl) (by kernel_rfl) (by kernel_rfl) (by kernel_rfl) (fun _ _ _ h => h) (Or.inl ⟨by rfl, ?ht2⟩) (by assumption) ?restt2
                      case ht2 => (intro w hSw; (try dsimp only at hSw); go_simp; try with_reducible rfl)
                      (try simp only [Act.put, List.setIfInBounds_toArray, List.set_cons_zero, List.set_cons_succ])
                      refine Till.take (i := 2) (v := ?vt3) rfl (by kernel_rfl) (by kernel_rfl) (by kernel_rfl) (by kernel_rfl) (fun _ _ _ h => h) (Or.inl ⟨by rfl, ?ht3⟩) (by assumption) ?restt3
                      case ht3 => (intro w hSw; (try dsimp only at hSw); go_simp; try with_reducible rfl)
                      (try simp only [Act.put, List.setIfInBounds_toArray, List.set_cons_zero, List.set_cons_succ])
                      refine Till.take (i := 3) (v := ?vt4) rfl (by kernel_rfl) (by kernel_rfl) (by kernel_rfl) (by kernel_rfl) (fun _ _ _ h => h) (Or.inl ⟨by rfl, ?ht4⟩) (by assumption) ?restt4
                      case ht4 => (intro w hSw; (try dsimp only at hSw); go_simp; try with_reducible rfl)
                      (try simp only [Act.put, List.setIfInBounds_toArray, List.set_cons_zero, List.set_cons_succ])
                      refine Till.take (i := 4) (v := ?vt5) rfl (by kernel_rfl) (by kernel_rfl) (by kernel_rfl) (by kernel_rfl) (fun _ _ _ h => h) (Or.inl ⟨by rfl, ?ht5⟩) (by assumption) ?restt5
                      case ht5 => (intro w hSw; (try dsimp only at hSw); go_simp; try with_reducible rfl)
                      (try simp only [Act.put, List.setIfInBounds_toArray, List.set_cons_zero, List.set_cons_succ])
                      refine Till.take (i := 5) (v := ?vt6) rfl (by kernel_rfl) (by kernel_rfl) (by kernel_rfl) (by kernel_rfl) (fun _ _ _ h => h) (Or.inl ⟨by rfl, ?ht6⟩) (by assumption) ?restt6
                      case ht6 => (intro w hSw; (try dsimp only at hSw); go_simp; try with_reducible rfl)
                      (try simp only [Act.put, List.setIfInBounds_toArray, List.set_cons_zero, List.set_cons_succ])
                      refine Till.take (i := 6) (v := ?vt7) rfl (by kernel_rfl) (by kernel_rfl) (by kernel_rfl) (by kernel_rfl) (fun _ _ _ h => h) (Or.inl ⟨by rfl, ?ht7⟩) (by assumption) ?restt7
                      case ht7 => (intro w hSw; (try dsimp only at hSw); go_simp; try with_reducible rfl)
                      (try simp only [Act.put, List.setIfInBounds_toArray, List.set_cons_zero, List.set_cons_succ])
                      refine Till.take (i := 9) (v := ?vt8) rfl (by kernel_rfl) (by kernel_rfl) (by kernel_rfl) (by kernel_rfl) (fun _ _ _ h => h) (Or.inl ⟨by rfl, ?ht8⟩) (by assumption) ?restt8
                      case ht8 => (intro w hSw; (try dsimp only at hSw); go_simp; try with_reducible rfl)
                      (try simp only [Act.put, List.setIfInBounds_toArray, List.set_cons_zero, List.set_cons_succ])
                      refine Till.take (i := 10) (v := ?vt9) rfl (by kernel_rfl) (by kernel_rfl) (by kernel_rfl) (by kernel_rfl) (fun _ _ _ h => h) (Or.inl ⟨by rfl, ?ht9⟩) (by assumption) ?restt9
                      case ht9 => (intro w hSw; (try dsimp only at hSw); go_simp; try with_reducible rfl)
                      (try simp only [Act.put, List.setIfInBounds_toArray, List.set_cons_zero, List.set_cons_succ])
                      refine Till.take (i := 11) (v := ?vt10) rfl (by kernel_rfl) (by kernel_rfl) (by kernel_rfl) (by kernel_rfl) (fun _ _ _ h => h) (Or.inl ⟨by rfl, ?ht10⟩) (by assumption) ?restt10
                      case ht10 => (intro w hSw; (try dsimp only at hSw); go_simp; try with_reducible rfl)
                      (try simp only [Act.put, List.setIfInBounds_toArray, List.set_cons_zero, List.set_cons_succ])
                      refine Till.take (i := 12) (v := ?vt11) rfl (by kernel_rfl) (by kernel_rfl) (by kernel_rfl) (by kernel_rfl) (fun _ _ _ h => h) (Or.inl ⟨by rfl, ?ht11⟩) (by assumption) ?restt11
                      case ht11 => (intro w hSw; (try dsimp only at hSw); go_simp; try with_reducible rfl)
                      (try simp only [Act.put, List.setIfInBounds_toArray, List.set_cons_zero, List.set_cons_succ])
                      refine Till.take (i := 13) (v := ?vt12) rfl (by kernel_rfl) (by kernel_rfl) (by kernel_rfl) (by kernel_rfl) (fun _ _ _ h => h) (Or.inl ⟨by rfl, ?ht12⟩) (by assumption) ?restt12
                      case ht12 => (intro w hSw; (try dsimp only at hSw); go_simp; try with_reducible rfl)
                      (try simp only [Act.put, List.setIfInBounds_toArray, List.set_cons_zero, List.set_cons_succ])
                      refine Till.take (i := 14) (v := ?vt13) rfl (by kernel_rfl) (by kernel_rfl) (by kernel_rfl) (by kernel_rfl) (fun _ _ _ h => h) (Or.inl ⟨by rfl, ?ht13⟩) (by assumption) ?restt13
                      case ht13 => (intro w hSw; (try dsimp only at hSw); go_simp; try with_reducible rfl)
                      (try simp only [Act.put, List.setIfInBounds_toArray, List.set_cons_zero, List.set_cons_succ])
                      refine Till.take (i := 15) (v := ?vt14) rfl (by kernel_rfl) (by kernel_rfl) (by kernel_rfl) (by kernel_rfl) (fun _ _ _ h => h) (Or.inl ⟨by rfl, ?ht14⟩) (by assumption) ?restt14
                      case ht14 => (intro w hSw; (try dsimp only at hSw); go_simp; try with_reducible rfl)
                      (try simp only [Act.put, List.setIfInBounds_toArray, List.set_cons_zero, List.set_cons_succ])
                      refine Till.take (i := 19) (v := ?vt15) rfl (by kernel_rfl) (by kernel_rfl) (by kernel_rfl) (by kernel_rfl) (fun _ _ _ h => h) (Or.inl ⟨by rfl, ?ht15⟩) (by assumption) ?restt15
                      case ht15 => (intro w hSw; (try dsimp only at hSw); go_simp; try with_reducible rfl)
                      (try simp only [Act.put, List.setIfInBounds_toArray, List.set_cons_zero, List.set_cons_succ])
                      refine Till.take (i := 20) (v := ?vt16) rfl (by kernel_rfl) (by kernel_rfl) (by kernel_rfl) (by kernel_rfl) (fun _ _ _ h => h) (Or.inl ⟨by rfl, ?ht16⟩) (by assumption) ?restt16
                      case ht16 => (intro w hSw; (try dsimp only at hSw); go_simp; try with_reducible rfl)
                      (try simp only [Act.put, List.setIfInBounds_toArray, List.set_cons_zero, List.set_cons_succ])
                      refine Till.take (i := 21) (v := ?vt17) rfl (by kernel_rfl) (by kernel_rfl) (by kernel_rfl) (by kernel_rfl) (fun _ _ _ h => h) (Or.inl ⟨by rfl, ?ht17⟩) (by assumption) ?restt17
                      case ht17 => (intro w hSw; (try dsimp only at hSw); go_simp; try with_reducible rfl)
                      (try simp only [Act.put, List.setIfInBounds_toArray, List.set_cons_zero, List.set_cons_succ])
                      refine Till.take (i := 22) (v := ?vt18) rfl (by kernel_rfl) (by kernel_rfl) (by kernel_rfl) (by kernel_rfl) (fun _ _ _ h => h) (Or.inl ⟨by rfl, ?ht18⟩) (by assumption) ?restt18
                      case ht18 => (intro w hSw; (try dsimp only at hSw); go_simp; try with_reducible rfl)
                      (try simp only [Act.put, List.setIfInBounds_toArray, List.set_cons_zero, List.set_cons_succ])
                      refine Till.take (i := 23) (v := ?vt19) rfl (by kernel_rfl) (by kernel_rfl) (by kernel_rfl) (by kernel_rfl) (fun _ _ _ h => h) (Or.inl ⟨by rfl, ?ht19⟩) (by assumption) ?restt19
                      case ht19 => (intro w hSw; (try dsimp only at hSw); go_simp; try with_reducible rfl)
                      (try simp only [Act.put, List.setIfInBounds_toArray, List.set_cons_zero, List.set_cons_succ])
                      refine Till.take (i := 24) (v := ?vt20) rfl (by kernel_rfl) (by kernel_rfl) (by kernel_rfl) (by kernel_rfl) (fun _ _ _ h => h) (Or.inl ⟨by rfl, ?ht20⟩) (by assumption) ?restt20
                      case ht20 => (intro w hSw; (try dsimp only at hSw); go_simp; try with_reducible rfl)
                      (try simp only [Act.put, List.setIfInBounds_toArray, List.set_cons_zero, List.set_cons_succ])
                      refine Till.take (i := 25) (v := ?vt21) rfl (by kernel_rfl) (by kernel_rfl) (by kernel_rfl) (by kernel_rfl) (fun _ _ _ h => h) (Or.inl ⟨by rfl, ?ht21⟩) (by assumption) ?restt21
                      case ht21 => (intro w hSw; (try dsimp only at hSw); go_simp; try with_reducible rfl)
                      (try simp only [Act.put, List.setIfInBounds_toArray, List.set_cons_zero, List.set_cons_succ])
                      refine Till.take (i := 28) (v := ?vt22) rfl (by kernel_rfl) (by kernel_rfl) (by kernel_rfl) (by kernel_rfl) (fun _ _ _ h => h) (Or.inl ⟨by rfl, ?ht22⟩) (by assumption) ?restt22
                      case ht22 => (intro w hSw; (try dsimp only at hSw); go_simp; try with_reducible rfl)
                      (try simp only [Act.put, List.setIfInBounds_toArray, List.set_cons_zero, List.set_cons_succ])
                      refine Till.take (i := 29) (v := ?vt23) rfl (by kernel_rfl) (by kernel_rfl) (by kernel_rfl) (by kernel_rfl) (fun _ _ _ h => h) (Or.inl ⟨by rfl, ?ht23⟩) (by assumption) ?restt23
                      case ht23 => (intro w hSw; (try dsimp only at hSw); go_simp; try with_reducible rfl)
                      (try simp only [Act.put, List.setIfInBounds_toArray, List.set_cons_zero, List.set_cons_succ])
                      refine Till.take (i := 30) (v := ?vt24) rfl (by kernel_rfl) (by kernel_rfl) (by kernel_rfl) (by kernel_rfl) (fun _ _ _ h => h) (Or.inl ⟨by rfl, ?ht24⟩) (by assumption) ?restt24
                      case ht24 => (intro w hSw; (try dsimp only at hSw); go_simp; try with_reducible rfl)
                      (try simp only [Act.put, List.setIfInBounds_toArray, List.set_cons_zero, List.set_cons_succ])
                      refine Till.take (i := 31) (v := ?vt25) rfl (by kernel_rfl) (by kernel_rfl) (by kernel_rfl) (by kernel_rfl) (fun _ _ _ h => h) (Or.inl ⟨by rfl, ?ht25⟩) (by assumption) ?restt25
                      case ht25 => (intro w hSw; (try dsimp only at hSw); go_simp; try with_reducible rfl)
                      (try simp only [Act.put, List.setIfInBounds_toArray, List.set_cons_zero, List.set_cons_succ])
                      refine Till.take (i := 32) (v := ?vt26) rfl (by kernel_rfl) (by kernel_rfl) (by kernel_rfl) (by kernel_rfl) (fun _ _ _ h => h) (Or.inl ⟨by rfl, ?ht26⟩) (by assumption) ?restt26
                      case ht26 => (intro w hSw; (try dsimp only at hSw); go_simp; try with_reducible rfl)
                      (try simp only [Act.put, List.setIfInBounds_toArray, List.set_cons_zero, List.set_cons_succ])
                      refine Till.take (i := 33) (v := ?vt27) rfl (by kernel_rfl) (by kernel_rfl) (by kernel_rfl) (by kernel_rfl) (fun _ _ _ h => h) (Or.inl ⟨by rfl, ?ht27⟩) (by assumption) ?restt27
                      case ht27 => (intro w hSw; (try dsimp only at hSw); go_simp; try with_reducible rfl)
                      (try simp only [Act.put, List.setIfInBounds_toArray, List.set_cons_zero, List.set_cons_succ])
                      refine Till.take (i := 34) (v := ?vt28) rfl (by kernel_rfl) (by kernel_rfl) (by kernel_rfl) (by kernel_rfl) (fun _ _ _ h => h) (Or.inl ⟨by rfl, ?ht28⟩) (by assumption) ?restt28
                      case ht28 => (intro w hSw; (try dsimp only at hSw); go_simp; try with_reducible rfl)
                      (try simp only [Act.put, List.setIfInBounds_toArray, List.set_cons_zero, List.set_cons_succ])
                      refine Till.ready (rs := [7]) (by kernel_rfl) (by simp) ?_
                      refine TillEach.cons rfl (fun K hK => ?_) ?_
                      · go_simp
                        go_wp2_with (go_at_call 32; refine (HCUa.out wB.drew).mono ?_; rintro e v30 ⟨rfl, hb⟩)
                        have GXv30 := Lib.hid (blk_call GXwB.out.drew hb)
                        have GOv30 := Lib.hid (blk_call GOwB.out.drew hb)
                        have GRv30 := Lib.hid (blk_call GRwB.out.drew hb)
                        have GCav30 := Lib.hid (GCawB.out.drew.below hb)
                        have GCbv30 := Lib.hid (GCbwB.out.drew.below hb)
                        have GCcv30 := Lib.hid (GCcwB.out.drew.below hb)
                        have GCdv30 := Lib.hid (GCdwB.out.drew.below hb)
                        have HBv30 := Lib.hid (bw_call (bw_drew HBwB.out) hb)
                        clear hb
                        refine hK.out _ _ ?_ (fun hHeld => ?_)
                        · exact ⟨(rar_facts GXv30.out).2.1, (rar_facts GXv30.out).2.2.1, (rar_facts GXv30.out).2.2.2.1, (rar_facts GXv30.out).2.2.2.2, GCav30.out.c, GCbv30.out.c, GCcv30.out.c, GCdv30.out.c⟩
                        clear hK K
                        (try simp only [Act.put, List.setIfInBounds_toArray, List.set_cons_zero, List.set_cons_succ])
                        refine Till.take (i := 8) (v := ?vt29) rfl (by kernel_rfl) (by kernel_rfl) (by kernel_rfl) (by kernel_rfl) (fun _ _ _ h => h) (Or.inl ⟨by rfl, ?ht29⟩) (by assumption) ?restt29
                        case ht29 => (intro w hSw; (try dsimp only at hSw); go_simp; try with_reducible rfl)
                        (try simp only [Act.put, List.setIfInBounds_toArray, List.set_cons_zero, List.set_cons_succ])
                        refine Till.ready (rs := [16]) (by kernel_rfl) (by simp) ?_
                        refine TillEach.cons rfl (fun K hK => ?_) ?_
                        · go_simp
                          go_wp2_with (go_at_call 32; refine (HCUb.out v30).mono ?_; rintro e v31 ⟨rfl, hb⟩)
                          have GXv31 := Lib.hid (blk_call GXv30.out hb)
                          have GOv31 := Lib.hid (blk_call GOv30.out hb)
                          have GRv31 := Lib.hid (blk_call GRv30.out hb)
                          have GCav31 := Lib.hid (GCav30.out.below hb)
                          have GCbv31 := Lib.hid (GCbv30.out.below hb)
                          have GCcv31 := Lib.hid (GCcv30.out.below hb)
                          have GCdv31 := Lib.hid (GCdv30.out.below hb)
                          have HBv31 := Lib.hid (bw_call HBv30.out hb)
                          clear hb GXv30 GOv30 GRv30 GCav30 GCbv30 GCcv30 GCdv30 HBv30
                          refine hK.out _ _ ?_ (fun hHeld => ?_)
                          · exact ⟨(rar_facts GXv31.out).2.1, (rar_facts GXv31.out).2.2.1, (rar_facts GXv31.out).2.2.2.1, (rar_facts GXv31.out).2.2.2.2, GCav31.out.c, GCbv31.out.c, GCcv31.out.c, GCdv31.out.c⟩
                          clear hK K
                          (try simp only [Act.put, List.setIfInBounds_toArray, List.set_cons_zero, List.set_cons_succ])
                          refine Till.take (i := 17) (v := ?vt30) rfl (by kernel_rfl) (by kernel_rfl) (by kernel_rfl) (by kernel_rfl) (fun _ _ _ h => h) (Or.inl ⟨by rfl, ?ht30⟩) (by assumption) ?restt30
                          case ht30 => (intro w hSw; (try dsimp only at hSw); go_simp; try with_reducible rfl)
                          (try simp only [Act.put, List.setIfInBounds_toArray, List.set_cons_zero, List.set_cons_succ])
                          refine Till.take (i := 18) (v := ?vt31) rfl (by kernel_rfl) (by kernel_rfl) (by kernel_rfl) (by kernel_rfl) (fun _ _ _ h => h) (Or.inl ⟨by rfl, ?ht31⟩) (by assumption) ?restt31
                          case ht31 => (intro w hSw; (try dsimp only at hSw); go_simp; try with_reducible rfl)
                          (try simp only [Act.put, List.setIfInBounds_toArray, List.set_cons_zero, List.set_cons_succ])
                          refine Till.ready (rs := [26]) (by kernel_rfl) (by simp) ?_
                          refine TillEach.cons rfl (fun K hK => ?_) ?_
                          · go_simp
                            go_wp2_with (go_at_call 32; refine (HCUc.out v31).mono ?_; rintro e v32 ⟨rfl, hb⟩)
                            have GXv32 := Lib.hid (blk_call GXv31.out hb)
                            have GOv32 := Lib.hid (blk_call GOv31.out hb)
                            have GRv32 := Lib.hid (blk_call GRv31.out hb)
                            have GCav32 := Lib.hid (GCav31.out.below hb)
                            have GCbv32 := Lib.hid (GCbv31.out.below hb)
                            have GCcv32 := Lib.hid (GCcv31.out.below hb)
                            have GCdv32 := Lib.hid (GCdv31.out.below hb)
                            have HBv32 := Lib.hid (bw_call HBv31.out hb)
                            clear hb GXv31 GOv31 GRv31 GCav31 GCbv31 GCcv31 GCdv31 HBv31
                            refine hK.out _ _ ?_ (fun hHeld => ?_)
                            · exact ⟨(rar_facts GXv32.out).2.1, (rar_facts GXv32.out).2.2.1, (rar_facts GXv32.out).2.2.2.1, (rar_facts GXv32.out).2.2.2.2, GCav32.out.c, GCbv32.out.c, GCcv32.out.c, GCdv32.out.c⟩
                            clear hK K
                            (try simp only [Act.put, List.setIfInBounds_toArray, List.set_cons_zero, List.set_cons_succ])
                            refine Till.take (i := 27) (v := ?vt32) rfl (by kernel_rfl) (by kernel_rfl) (by kernel_rfl) (by kernel_rfl) (fun _ _ _ h => h) (Or.inl ⟨by rfl, ?ht32⟩) (by assumption) ?restt32
                            case ht32 => (intro w hSw; (try dsimp only at hSw); go_simp; try with_reducible rfl)
                            (try simp only [Act.put, List.setIfInBounds_toArray, List.set_cons_zero, List.set_cons_succ])
                            refine Till.ready (rs := [35]) (by kernel_rfl) (by simp) ?_
                            refine TillEach.cons rfl (fun K hK => ?_) ?_
                            · go_simp
                              go_wp2_with (go_at_call 32; refine (HCUd.out v32).mono ?_; rintro e v33 ⟨rfl, hb⟩)
                              have GXv33 := Lib.hid (blk_call GXv32.out hb)
                              have GOv33 := Lib.hid (blk_call GOv32.out hb)
                              have GRv33 := Lib.hid (blk_call GRv32.out hb)
                              have GCav33 := Lib.hid (GCav32.out.below hb)
                              have GCbv33 := Lib.hid (GCbv32.out.below hb)
                              have GCcv33 := Lib.hid (GCcv32.out.below hb)
                              have GCdv33 := Lib.hid (GCdv32.out.below hb)
                              have HBv33 := Lib.hid (bw_call HBv32.out hb)
                              clear hb GXv32 GOv32 GRv32 GCav32 GCbv32 GCcv32 GCdv32 HBv32
                              refine hK.out _ _ ?_ (fun hHeld => ?_)
                              · exact ⟨(rar_facts GXv33.out).2.1, (rar_facts GXv33.out).2.2.1, (rar_facts GXv33.out).2.2.2.1, (rar_facts GXv33.out).2.2.2.2, GCav33.out.c, GCbv33.out.c, GCcv33.out.c, GCdv33.out.c⟩
                              clear hK K
                              (try simp only [Act.put, List.setIfInBounds_toArray, List.set_cons_zero, List.set_cons_succ])
                              refine Till.take (i := 36) (v := ?vt33) rfl (by kernel_rfl) (by kernel_rfl) (by kernel_rfl) (by kernel_rfl) (fun _ _ _ h => h) (Or.inl ⟨by rfl, ?ht33⟩) (by assumption) ?restt33
                              case ht33 => (intro w hSw; (try dsimp only at hSw); go_simp; try with_reducible rfl)
                              (try simp only [Act.put, List.setIfInBounds_toArray, List.set_cons_zero, List.set_cons_succ])
                              refine Till.take (i := 37) (v := ?vt34) rfl (by kernel_rfl) (by kernel_rfl) (by kernel_rfl) (by kernel_rfl) (fun _ _ _ h => h) (Or.inl ⟨by rfl, ?ht34⟩) (by assumption) ?restt34
                              case ht34 => (intro w hSw; (try dsimp only at hSw); go_simp; try with_reducible rfl)
                              (try simp only [Act.put, List.setIfInBounds_toArray, List.set_cons_zero, List.set_cons_succ])
                              refine Till.ready (rs := [38]) (by kernel_rfl) (by simp) ?_
                              refine TillEach.last rfl (fun K hK => ?_)
                              · go_simp
                                refine hK.out _ _ ?_
                                clear hK K
                                (try simp only [Act.put, List.setIfInBounds_toArray, List.set_cons_zero, List.set_cons_succ])
                                refine Till.done (by kernel_rfl) ?_ _
                                go_wp2_with fail
                                clear GCav33 GCbv33 GCcv33 GCdv33
                                have y0 := HQ.out ▸ (out_cell GOv33.out hk3)
                                have f0 := GOv33.out.frozen k
                                go_wp2_with fail
                                refine (refCutB_any (Int.tdiv (2 * pa + 2 * pb - pcc - pd) 2) v33).mono ?_
                                rintro e w40 ⟨rfl, hb⟩
                                have GX40 := Lib.hid (blk_call GXv33.out hb)
                                have GR40 := Lib.hid (blk_call GRv33.out hb)
                                have GO40 := Lib.hid (blk_call GOv33.out hb)
                                have HB40 := Lib.hid (bw_call HBv33.out hb)
                                clear hb y0 f0 GXv33 GRv33 GOv33 HBv33
                                have y0 := HQ.out ▸ (out_cell GO40.out hk3)
                                have f0 := GO40.out.frozen k
                                go_wp2_with fail
                                exact ⟨⟨k + 1, by omega, by go_num, Lib.hid (GX40.out.far HN.out.1 _), Lib.hid (GR40.out.far HN.out.2 _), HSET.out _ GO40.out, Lib.hid (bw_set HB40.out HG3.out _)⟩, by simp [intOf]; omega⟩
                            exact TillEach.nil
                          exact TillEach.nil
                        exact TillEach.nil
                      exact TillEach.nil
                    · obtain ⟨va, rfl⟩ := Int.eq_ofNat_of_zero_le ha.1
                      have hva : va < np := by have := ha.2; omega
                      have hia : (va : Int) < (np : Int) := by omega
                      obtain ⟨ad, eAd, cta⟩ := pt_cell (HP.out.below HBwB.out) HBwB.out.size hva hk3
                      subst eAd
                      have GCawB := Lib.hid cta
                      obtain ⟨pa, HPa⟩ : ∃ pa, Hid (cutI (cornerT (tri P va) k) = pa) := ⟨_, Lib.hid rfl⟩
                      have la := cut_le (cornerT (tri P va) k)
                      rw [HPa.out] at la
                      have HCUa : Hid (∀ (W : World), Calls Try.prog 32 #[.int .i64 (cornerT (tri P va) k)] W (IntPost W pa)) := Lib.hid fun W => HPa.out ▸ refCutB_any _ W
                      obtain ⟨vb, rfl⟩ := Int.eq_ofNat_of_zero_le hb.1
                      have hvb : vb < np := by have := hb.2; omega
                      have hib : (vb : Int) < (np : Int) := by omega
                      have GCbwB : Hid (CellP wB ((ad.add (vb * 3)).add k) (.int .i64 (cornerT (tri P vb) k))) := Lib.hid (by obtain ⟨ad', e, h⟩ := pt_cell (HP.out.below HBwB.out) HBwB.out.size hvb hk3; injection e with e; subst e; exact h)
                      obtain ⟨pb, HPb⟩ : ∃ pb, Hid (cutI (cornerT (tri P vb) k) = pb) := ⟨_, Lib.hid rfl⟩
                      have lb := cut_le (cornerT (tri P vb) k)
                      rw [HPb.out] at lb
                      have HCUb : Hid (∀ (W : World), Calls Try.prog 32 #[.int .i64 (cornerT (tri P vb) k)] W (IntPost W pb)) := Lib.hid fun W => HPb.out ▸ refCutB_any _ W
                      obtain ⟨vc, rfl⟩ := Int.eq_ofNat_of_zero_le hc.1
                      have hvc : vc < np := by have := hc.2; omega
                      have hic : (vc : Int) < (np : Int) := by omega
                      have GCcwB : Hid (CellP wB ((ad.add (vc * 3)).add k) (.int .i64 (cornerT (tri P vc) k))) := Lib.hid (by obtain ⟨ad', e, h⟩ := pt_cell (HP.out.below HBwB.out) HBwB.out.size hvc hk3; injection e with e; subst e; exact h)
                      obtain ⟨pcc, HPc⟩ : ∃ pcc, Hid (cutI (cornerT (tri P vc) k) = pcc) := ⟨_, Lib.hid rfl⟩
                      have lc := cut_le (cornerT (tri P vc) k)
                      rw [HPc.out] at lc
                      have HCUc : Hid (∀ (W : World), Calls Try.prog 32 #[.int .i64 (cornerT (tri P vc) k)] W (IntPost W pcc)) := Lib.hid fun W => HPc.out ▸ refCutB_any _ W
                      have HSET : Hid (∀ (W : World), Blk W g3 36 (outC kd X P k) → Hid (Blk (W.setCell ⟨g3, k, none⟩ (.int .i64 (cutI (pa + pb - pcc)))) g3 36 (outC kd X P (k + 1)))) := Lib.hid fun W h => Lib.hid (by
                        have h1 := out_set hk3 (show ruleOf kd X P.length = .across by rw [HPL.out, HXX.out]; exact hru) h
                        rwa [show tell .across X P k = cutI (pa + pb - pcc) by
                          rw [HXX.out]
                          show cutI (cutI (cornerT (tri P va) k) + cutI (cornerT (tri P vb) k) - cutI (cornerT (tri P vc) k)) = _
                          rw [HPa.out, HPb.out, HPc.out]] at h1)
                      generalize cornerT (tri P va) k = ra at *
                      generalize cornerT (tri P vb) k = rb at *
                      generalize cornerT (tri P vc) k = rc at *
                      clear hru HD4 ha hb hc HPa HPb HPc cta
                      have q1 : IntKind.i64.wrap (pa + pb) = pa + pb := IntWalk.i64_in _ (by omega)
                      have q2 : IntKind.i64.wrap (pa + pb - pcc) = pa + pb - pcc := IntWalk.i64_in _ (by omega)
                      go_upto_region 22 with (fail)
                      refine wp_region_till (S := fun w' => w'.cell? ⟨g0, 1, none⟩ = some (.int .i64 (va : Int)) ∧ w'.cell? ⟨g0, 2, none⟩ = some (.int .i64 (vb : Int)) ∧ w'.cell? ⟨g0, 3, none⟩ = some (.int .i64 (vc : Int)) ∧ w'.cell? ((ad.add (va * 3)).add k) = some (.int .i64 ra) ∧ w'.cell? ((ad.add (vb * 3)).add k) = some (.int .i64 rb) ∧ w'.cell? ((ad.add (vc * 3)).add k) = some (.int .i64 rc)) 26 (by kernel_rfl) ⟨(rar_facts GXwB.out.drew).2.1, (rar_facts GXwB.out.drew).2.2.1, (rar_facts GXwB.out.drew).2.2.2.1, GCawB.out.drew.c, GCbwB.out.drew.c, GCcwB.out.drew.c⟩ (fun hHeld => ?_)
                      refine Till.take (i := 0) (v := ?vt35) rfl (by kernel_rfl) (by kernel_rfl) (by kernel_rfl) (by kernel_rfl) (fun _ _ _ h => h) (Or.inl ⟨by rfl, ?ht35⟩) (by assumption) ?restt35
                      case ht35 => (intro w hSw; (try dsimp only at hSw); go_simp; try with_reducible rfl)
                      (try simp only [Act.put, List.setIfInBounds_toArray, List.set_cons_zero, List.set_cons_succ])
                      refine Till.take (i := 1) (v := ?vt36) rfl (by kernel_rfl) (by kernel_rfl) (by kernel_rfl) (by kernel_rfl) (fun _ _ _ h => h) (Or.inl ⟨by rfl, ?ht36⟩) (by assumption) ?restt36
                      case ht36 => (intro w hSw; (try dsimp only at hSw); go_simp; try with_reducible rfl)
                      (try simp only [Act.put, List.setIfInBounds_toArray, List.set_cons_zero, List.set_cons_succ])
                      refine Till.take (i := 2) (v := ?vt37) rfl (by kernel_rfl) (by kernel_rfl) (by kernel_rfl) (by kernel_rfl) (fun _ _ _ h => h) (Or.inl ⟨by rfl, ?ht37⟩) (by assumption) ?restt37
                      case ht37 => (intro w hSw; (try dsimp only at hSw); go_simp; try with_reducible rfl)
                      (try simp only [Act.put, List.setIfInBounds_toArray, List.set_cons_zero, List.set_cons_succ])
                      refine Till.take (i := 3) (v := ?vt38) rfl (by kernel_rfl) (by kernel_rfl) (by kernel_rfl) (by kernel_rfl) (fun _ _ _ h => h) (Or.inl ⟨by rfl, ?ht38⟩) (by assumption) ?restt38
                      case ht38 => (intro w hSw; (try dsimp only at hSw); go_simp; try with_reducible rfl)
                      (try simp only [Act.put, List.setIfInBounds_toArray, List.set_cons_zero, List.set_cons_succ])
                      refine Till.take (i := 4) (v := ?vt39) rfl (by kernel_rfl) (by kernel_rfl) (by kernel_rfl) (by kernel_rfl) (fun _ _ _ h => h) (Or.inl ⟨by rfl, ?ht39⟩) (by assumption) ?restt39
                      case ht39 => (intro w hSw; (try dsimp only at hSw); go_simp; try with_reducible rfl)
                      (try simp only [Act.put, List.setIfInBounds_toArray, List.set_cons_zero, List.set_cons_succ])
                      refine Till.take (i := 5) (v := ?vt40) rfl (by kernel_rfl) (by kernel_rfl) (by kernel_rfl) (by kernel_rfl) (fun _ _ _ h => h) (Or.inl ⟨by rfl, ?ht40⟩) (by assumption) ?restt40
                      case ht40 => (intro w hSw; (try dsimp only at hSw); go_simp; try with_reducible rfl)
                      (try simp only [Act.put, List.setIfInBounds_toArray, List.set_cons_zero, List.set_cons_succ])
                      refine Till.take (i := 6) (v := ?vt41) rfl (by kernel_rfl) (by kernel_rfl) (by kernel_rfl) (by kernel_rfl) (fun _ _ _ h => h) (Or.inl ⟨by rfl, ?ht41⟩) (by assumption) ?restt41
                      case ht41 => (intro w hSw; (try dsimp only at hSw); go_simp; try with_reducible rfl)
                      (try simp only [Act.put, List.setIfInBounds_toArray, List.set_cons_zero, List.set_cons_succ])
                      refine Till.take (i := 8) (v := ?vt42) rfl (by kernel_rfl) (by kernel_rfl) (by kernel_rfl) (by kernel_rfl) (fun _ _ _ h => h) (Or.inl ⟨by rfl, ?ht42⟩) (by assumption) ?restt42
                      case ht42 => (intro w hSw; (try dsimp only at hSw); go_simp; try with_reducible rfl)
                      (try simp only [Act.put, List.setIfInBounds_toArray, List.set_cons_zero, List.set_cons_succ])
                      refine Till.take (i := 9) (v := ?vt43) rfl (by kernel_rfl) (by kernel_rfl) (by kernel_rfl) (by kernel_rfl) (fun _ _ _ h => h) (Or.inl ⟨by rfl, ?ht43⟩) (by assumption) ?restt43
                      case ht43 => (intro w hSw; (try dsimp only at hSw); go_simp; try with_reducible rfl)
                      (try simp only [Act.put, List.setIfInBounds_toArray, List.set_cons_zero, List.set_cons_succ])
                      refine Till.take (i := 10) (v := ?vt44) rfl (by kernel_rfl) (by kernel_rfl) (by kernel_rfl) (by kernel_rfl) (fun _ _ _ h => h) (Or.inl ⟨by rfl, ?ht44⟩) (by assumption) ?restt44
                      case ht44 => (intro w hSw; (try dsimp only at hSw); go_simp; try with_reducible rfl)
                      (try simp only [Act.put, List.setIfInBounds_toArray, List.set_cons_zero, List.set_cons_succ])
                      refine Till.take (i := 11) (v := ?vt45) rfl (by kernel_rfl) (by kernel_rfl) (by kernel_rfl) (by kernel_rfl) (fun _ _ _ h => h) (Or.inl ⟨by rfl, ?ht45⟩) (by assumption) ?restt45
                      case ht45 => (intro w hSw; (try dsimp only at hSw); go_simp; try with_reducible rfl)
                      (try simp only [Act.put, List.setIfInBounds_toArray, List.set_cons_zero, List.set_cons_succ])
                      refine Till.take (i := 12) (v := ?vt46) rfl (by kernel_rfl) (by kernel_rfl) (by kernel_rfl) (by kernel_rfl) (fun _ _ _ h => h) (Or.inl ⟨by rfl, ?ht46⟩) (by assumption) ?restt46
                      case ht46 => (intro w hSw; (try dsimp only at hSw); go_simp; try with_reducible rfl)
                      (try simp only [Act.put, List.setIfInBounds_toArray, List.set_cons_zero, List.set_cons_succ])
                      refine Till.take (i := 13) (v := ?vt47) rfl (by kernel_rfl) (by kernel_rfl) (by kernel_rfl) (by kernel_rfl) (fun _ _ _ h => h) (Or.inl ⟨by rfl, ?ht47⟩) (by assumption) ?restt47
                      case ht47 => (intro w hSw; (try dsimp only at hSw); go_simp; try with_reducible rfl)
                      (try simp only [Act.put, List.setIfInBounds_toArray, List.set_cons_zero, List.set_cons_succ])
                      refine Till.take (i := 14) (v := ?vt48) rfl (by kernel_rfl) (by kernel_rfl) (by kernel_rfl) (by kernel_rfl) (fun _ _ _ h => h) (Or.inl ⟨by rfl, ?ht48⟩) (by assumption) ?restt48
                      case ht48 => (intro w hSw; (try dsimp only at hSw); go_simp; try with_reducible rfl)
                      (try simp only [Act.put, List.setIfInBounds_toArray, List.set_cons_zero, List.set_cons_succ])
                      refine Till.take (i := 17) (v := ?vt49) rfl (by kernel_rfl) (by kernel_rfl) (by kernel_rfl) (by kernel_rfl) (fun _ _ _ h => h) (Or.inl ⟨by rfl, ?ht49⟩) (by assumption) ?restt49
                      case ht49 => (intro w hSw; (try dsimp only at hSw); go_simp; try with_reducible rfl)
                      (try simp only [Act.put, List.setIfInBounds_toArray, List.set_cons_zero, List.set_cons_succ])
                      refine Till.take (i := 18) (v := ?vt50) rfl (by kernel_rfl) (by kernel_rfl) (by kernel_rfl) (by kernel_rfl) (fun _ _ _ h => h) (Or.inl ⟨by rfl, ?ht50⟩) (by assumption) ?restt50
                      case ht50 => (intro w hSw; (try dsimp only at hSw); go_simp; try with_reducible rfl)
                      (try simp only [Act.put, List.setIfInBounds_toArray, List.set_cons_zero, List.set_cons_succ])
                      refine Till.take (i := 19) (v := ?vt51) rfl (by kernel_rfl) (by kernel_rfl) (by kernel_rfl) (by kernel_rfl) (fun _ _ _ h => h) (Or.inl ⟨by rfl, ?ht51⟩) (by assumption) ?restt51
                      case ht51 => (intro w hSw; (try dsimp only at hSw); go_simp; try with_reducible rfl)
                      (try simp only [Act.put, List.setIfInBounds_toArray, List.set_cons_zero, List.set_cons_succ])
                      refine Till.take (i := 20) (v := ?vt52) rfl (by kernel_rfl) (by kernel_rfl) (by kernel_rfl) (by kernel_rfl) (fun _ _ _ h => h) (Or.inl ⟨by rfl, ?ht52⟩) (by assumption) ?restt52
                      case ht52 => (intro w hSw; (try dsimp only at hSw); go_simp; try with_reducible rfl)
                      (try simp only [Act.put, List.setIfInBounds_toArray, List.set_cons_zero, List.set_cons_succ])
                      refine Till.take (i := 21) (v := ?vt53) rfl (by kernel_rfl) (by kernel_rfl) (by kernel_rfl) (by kernel_rfl) (fun _ _ _ h => h) (Or.inl ⟨by rfl, ?ht53⟩) (by assumption) ?restt53
                      case ht53 => (intro w hSw; (try dsimp only at hSw); go_simp; try with_reducible rfl)
                      (try simp only [Act.put, List.setIfInBounds_toArray, List.set_cons_zero, List.set_cons_succ])
                      refine Till.take (i := 22) (v := ?vt54) rfl (by kernel_rfl) (by kernel_rfl) (by kernel_rfl) (by kernel_rfl) (fun _ _ _ h => h) (Or.inl ⟨by rfl, ?ht54⟩) (by assumption) ?restt54
                      case ht54 => (intro w hSw; (try dsimp only at hSw); go_simp; try with_reducible rfl)
                      (try simp only [Act.put, List.setIfInBounds_toArray, List.set_cons_zero, List.set_cons_succ])
                      refine Till.take (i := 23) (v := ?vt55) rfl (by kernel_rfl) (by kernel_rfl) (by kernel_rfl) (by kernel_rfl) (fun _ _ _ h => h) (Or.inl ⟨by rfl, ?ht55⟩) (by assumption) ?restt55
                      case ht55 => (intro w hSw; (try dsimp only at hSw); go_simp; try with_reducible rfl)
                      (try simp only [Act.put, List.setIfInBounds_toArray, List.set_cons_zero, List.set_cons_succ])
                      refine Till.ready (rs := [7]) (by kernel_rfl) (by simp) ?_
                      refine TillEach.cons rfl (fun K hK => ?_) ?_
                      · go_simp
                        go_wp2_with (go_at_call 32; refine (HCUa.out wB.drew).mono ?_; rintro e v30 ⟨rfl, hb⟩)
                        have GXv30 := Lib.hid (blk_call GXwB.out.drew hb)
                        have GOv30 := Lib.hid (blk_call GOwB.out.drew hb)
                        have GRv30 := Lib.hid (blk_call GRwB.out.drew hb)
                        have GCav30 := Lib.hid (GCawB.out.drew.below hb)
                        have GCbv30 := Lib.hid (GCbwB.out.drew.below hb)
                        have GCcv30 := Lib.hid (GCcwB.out.drew.below hb)
                        have HBv30 := Lib.hid (bw_call (bw_drew HBwB.out) hb)
                        clear hb
                        refine hK.out _ _ ?_ (fun hHeld => ?_)
                        · exact ⟨(rar_facts GXv30.out).2.1, (rar_facts GXv30.out).2.2.1, (rar_facts GXv30.out).2.2.2.1, GCav30.out.c, GCbv30.out.c, GCcv30.out.c⟩
                        clear hK K
                        (try simp only [Act.put, List.setIfInBounds_toArray, List.set_cons_zero, List.set_cons_succ])
                        refine Till.ready (rs := [15]) (by kernel_rfl) (by simp) ?_
                        refine TillEach.cons rfl (fun K hK => ?_) ?_
                        · go_simp
                          go_wp2_with (go_at_call 32; refine (HCUb.out v30).mono ?_; rintro e v31 ⟨rfl, hb⟩)
                          have GXv31 := Lib.hid (blk_call GXv30.out hb)
                          have GOv31 := Lib.hid (blk_call GOv30.out hb)
                          have GRv31 := Lib.hid (blk_call GRv30.out hb)
                          have GCav31 := Lib.hid (GCav30.out.below hb)
                          have GCbv31 := Lib.hid (GCbv30.out.below hb)
                          have GCcv31 := Lib.hid (GCcv30.out.below hb)
                          have HBv31 := Lib.hid (bw_call HBv30.out hb)
                          clear hb GXv30 GOv30 GRv30 GCav30 GCbv30 GCcv30 HBv30
                          refine hK.out _ _ ?_ (fun hHeld => ?_)
                          · exact ⟨(rar_facts GXv31.out).2.1, (rar_facts GXv31.out).2.2.1, (rar_facts GXv31.out).2.2.2.1, GCav31.out.c, GCbv31.out.c, GCcv31.out.c⟩
                          clear hK K
                          (try simp only [Act.put, List.setIfInBounds_toArray, List.set_cons_zero, List.set_cons_succ])
                          refine Till.take (i := 16) (v := ?vt56) rfl (by kernel_rfl) (by kernel_rfl) (by kernel_rfl) (by kernel_rfl) (fun _ _ _ h => h) (Or.inl ⟨by rfl, ?ht56⟩) (by assumption) ?restt56
                          case ht56 => (intro w hSw; (try dsimp only at hSw); go_simp; try with_reducible rfl)
                          (try simp only [Act.put, List.setIfInBounds_toArray, List.set_cons_zero, List.set_cons_succ])
                          refine Till.ready (rs := [24]) (by kernel_rfl) (by simp) ?_
                          refine TillEach.cons rfl (fun K hK => ?_) ?_
                          · go_simp
                            go_wp2_with (go_at_call 32; refine (HCUc.out v31).mono ?_; rintro e v32 ⟨rfl, hb⟩)
                            have GXv32 := Lib.hid (blk_call GXv31.out hb)
                            have GOv32 := Lib.hid (blk_call GOv31.out hb)
                            have GRv32 := Lib.hid (blk_call GRv31.out hb)
                            have GCav32 := Lib.hid (GCav31.out.below hb)
                            have GCbv32 := Lib.hid (GCbv31.out.below hb)
                            have GCcv32 := Lib.hid (GCcv31.out.below hb)
                            have HBv32 := Lib.hid (bw_call HBv31.out hb)
                            clear hb GXv31 GOv31 GRv31 GCav31 GCbv31 GCcv31 HBv31
                            refine hK.out _ _ ?_ (fun hHeld => ?_)
                            · exact ⟨(rar_facts GXv32.out).2.1, (rar_facts GXv32.out).2.2.1, (rar_facts GXv32.out).2.2.2.1, GCav32.out.c, GCbv32.out.c, GCcv32.out.c⟩
                            clear hK K
                            (try simp only [Act.put, List.setIfInBounds_toArray, List.set_cons_zero, List.set_cons_succ])
                            refine Till.take (i := 25) (v := ?vt57) rfl (by kernel_rfl) (by kernel_rfl) (by kernel_rfl) (by kernel_rfl) (fun _ _ _ h => h) (Or.inl ⟨by rfl, ?ht57⟩) (by assumption) ?restt57
                            case ht57 => (intro w hSw; (try dsimp only at hSw); go_simp; try with_reducible rfl)
                            (try simp only [Act.put, List.setIfInBounds_toArray, List.set_cons_zero, List.set_cons_succ])
                            refine Till.ready (rs := [26]) (by kernel_rfl) (by simp) ?_
                            refine TillEach.last rfl (fun K hK => ?_)
                            · go_simp
                              refine hK.out _ _ ?_
                              clear hK K
                              (try simp only [Act.put, List.setIfInBounds_toArray, List.set_cons_zero, List.set_cons_succ])
                              refine Till.done (by kernel_rfl) ?_ _
                              go_wp2_with fail
                              clear GCav32 GCbv32 GCcv32
                              have y0 := HQ.out ▸ (out_cell GOv32.out hk3)
                              have f0 := GOv32.out.frozen k
                              go_wp2_with fail
                              refine (refCutB_any (pa + pb - pcc) v32).mono ?_
                              rintro e w40 ⟨rfl, hb⟩
                              have GX40 := Lib.hid (blk_call GXv32.out hb)
                              have GR40 := Lib.hid (blk_call GRv32.out hb)
                              have GO40 := Lib.hid (blk_call GOv32.out hb)
                              have HB40 := Lib.hid (bw_call HBv32.out hb)
                              clear hb y0 f0 GXv32 GRv32 GOv32 HBv32
                              have y0 := HQ.out ▸ (out_cell GO40.out hk3)
                              have f0 := GO40.out.frozen k
                              go_wp2_with fail
                              exact ⟨⟨k + 1, by omega, by go_num, Lib.hid (GX40.out.far HN.out.1 _), Lib.hid (GR40.out.far HN.out.2 _), HSET.out _ GO40.out, Lib.hid (bw_set HB40.out HG3.out _)⟩, by simp [intOf]; omega⟩
                          exact TillEach.nil
                        exact TillEach.nil
                      exact TillEach.nil
                    · obtain ⟨va, rfl⟩ := Int.eq_ofNat_of_zero_le ha.1
                      have hva : va < np := by have := ha.2; omega
                      have hia : (va : Int) < (np : Int) := by omega
                      obtain ⟨ad, eAd, cta⟩ := pt_cell (HP.out.below HBwB.out) HBwB.out.size hva hk3
                      subst eAd
                      have GCawB := Lib.hid cta
                      obtain ⟨pa, HPa⟩ : ∃ pa, Hid (cutI (cornerT (tri P va) k) = pa) := ⟨_, Lib.hid rfl⟩
                      have la := cut_le (cornerT (tri P va) k)
                      rw [HPa.out] at la
                      have HCUa : Hid (∀ (W : World), Calls Try.prog 32 #[.int .i64 (cornerT (tri P va) k)] W (IntPost W pa)) := Lib.hid fun W => HPa.out ▸ refCutB_any _ W
                      obtain ⟨vb, rfl⟩ := Int.eq_ofNat_of_zero_le hb.1
                      have hvb : vb < np := by have := hb.2; omega
                      have hib : (vb : Int) < (np : Int) := by omega
                      have GCbwB : Hid (CellP wB ((ad.add (vb * 3)).add k) (.int .i64 (cornerT (tri P vb) k))) := Lib.hid (by obtain ⟨ad', e, h⟩ := pt_cell (HP.out.below HBwB.out) HBwB.out.size hvb hk3; injection e with e; subst e; exact h)
                      obtain ⟨pb, HPb⟩ : ∃ pb, Hid (cutI (cornerT (tri P vb) k) = pb) := ⟨_, Lib.hid rfl⟩
                      have lb := cut_le (cornerT (tri P vb) k)
                      rw [HPb.out] at lb
                      have HCUb : Hid (∀ (W : World), Calls Try.prog 32 #[.int .i64 (cornerT (tri P vb) k)] W (IntPost W pb)) := Lib.hid fun W => HPb.out ▸ refCutB_any _ W
                      have HSET : Hid (∀ (W : World), Blk W g3 36 (outC kd X P k) → Hid (Blk (W.setCell ⟨g3, k, none⟩ (.int .i64 (cutI (Int.tdiv (pa + pb) 2)))) g3 36 (outC kd X P (k + 1)))) := Lib.hid fun W h => Lib.hid (by
                        have h1 := out_set hk3 (show ruleOf kd X P.length = .middle by rw [HPL.out, HXX.out]; exact hru) h
                        rwa [show tell .middle X P k = cutI (Int.tdiv (pa + pb) 2) by
                          rw [HXX.out]
                          show cutI (Int.tdiv (cutI (cornerT (tri P va) k) + cutI (cornerT (tri P vb) k)) 2) = _
                          rw [HPa.out, HPb.out]] at h1)
                      generalize cornerT (tri P va) k = ra at *
                      generalize cornerT (tri P vb) k = rb at *
                      clear hru HD4 ha hb HPa HPb cta
                      have q1 : IntKind.i64.wrap (pa + pb) = pa + pb := IntWalk.i64_in _ (by omega)
                      have hh := half_le (x := pa + pb) (b := 1048576) (by omega) (by omega)
                      have q9 : IntKind.i64.wrap (Int.tdiv (pa + pb) 2) = Int.tdiv (pa + pb) 2 := IntWalk.i64_in _ (by omega)
                      go_upto_region 20 with (fail)
                      refine wp_region_till (S := fun w' => w'.cell? ⟨g0, 1, none⟩ = some (.int .i64 (va : Int)) ∧ w'.cell? ⟨g0, 2, none⟩ = some (.int .i64 (vb : Int)) ∧ w'.cell? ((ad.add (va * 3)).add k) = some (.int .i64 ra) ∧ w'.cell? ((ad.add (vb * 3)).add k) = some (.int .i64 rb)) 18 (by kernel_rfl) ⟨(rar_facts GXwB.out.drew).2.1, (rar_facts GXwB.out.drew).2.2.1, GCawB.out.drew.c, GCbwB.out.drew.c⟩ (fun hHeld => ?_)
                      refine Till.take (i := 0) (v := ?vt58) rfl (by kernel_rfl) (by kernel_rfl) (by kernel_rfl) (by kernel_rfl) (fun _ _ _ h => h) (Or.inl ⟨by rfl, ?ht58⟩) (by assumption) ?restt58
                      case ht58 => (intro w hSw; (try dsimp only at hSw); go_simp; try with_reducible rfl)
                      (try simp only [Act.put, List.setIfInBounds_toArray, List.set_cons_zero, List.set_cons_succ])
                      refine Till.take (i := 1) (v := ?vt59) rfl (by kernel_rfl) (by kernel_rfl) (by kernel_rfl) (by kernel_rfl) (fun _ _ _ h => h) (Or.inl ⟨by rfl, ?ht59⟩) (by assumption) ?restt59
                      case ht59 => (intro w hSw; (try dsimp only at hSw); go_simp; try with_reducible rfl)
                      (try simp only [Act.put, List.setIfInBounds_toArray, List.set_cons_zero, List.set_cons_succ])
                      refine Till.take (i := 2) (v := ?vt60) rfl (by kernel_rfl) (by kernel_rfl) (by kernel_rfl) (by kernel_rfl) (fun _ _ _ h => h) (Or.inl ⟨by rfl, ?ht60⟩) (by assumption) ?restt60
                      case ht60 => (intro w hSw; (try dsimp only at hSw); go_simp; try with_reducible rfl)
                      (try simp only [Act.put, List.setIfInBounds_toArray, List.set_cons_zero, List.set_cons_succ])
                      refine Till.take (i := 3) (v := ?vt61) rfl (by kernel_rfl) (by kernel_rfl) (by kernel_rfl) (by kernel_rfl) (fun _ _ _ h => h) (Or.inl ⟨by rfl, ?ht61⟩) (by assumption) ?restt61
                      case ht61 => (intro w hSw; (try dsimp only at hSw); go_simp; try with_reducible rfl)
                      (try simp only [Act.put, List.setIfInBounds_toArray, List.set_cons_zero, List.set_cons_succ])
                      refine Till.take (i := 4) (v := ?vt62) rfl (by kernel_rfl) (by kernel_rfl) (by kernel_rfl) (by kernel_rfl) (fun _ _ _ h => h) (Or.inl ⟨by rfl, ?ht62⟩) (by assumption) ?restt62
                      case ht62 => (intro w hSw; (try dsimp only at hSw); go_simp; try with_reducible rfl)
                      (try simp only [Act.put, List.setIfInBounds_toArray, List.set_cons_zero, List.set_cons_succ])
                      refine Till.take (i := 5) (v := ?vt63) rfl (by kernel_rfl) (by kernel_rfl) (by kernel_rfl) (by kernel_rfl) (fun _ _ _ h => h) (Or.inl ⟨by rfl, ?ht63⟩) (by assumption) ?restt63
                      case ht63 => (intro w hSw; (try dsimp only at hSw); go_simp; try with_reducible rfl)
                      (try simp only [Act.put, List.setIfInBounds_toArray, List.set_cons_zero, List.set_cons_succ])
                      refine Till.take (i := 6) (v := ?vt64) rfl (by kernel_rfl) (by kernel_rfl) (by kernel_rfl) (by kernel_rfl) (fun _ _ _ h => h) (Or.inl ⟨by rfl, ?ht64⟩) (by assumption) ?restt64
                      case ht64 => (intro w hSw; (try dsimp only at hSw); go_simp; try with_reducible rfl)
                      (try simp only [Act.put, List.setIfInBounds_toArray, List.set_cons_zero, List.set_cons_succ])
                      refine Till.take (i := 8) (v := ?vt65) rfl (by kernel_rfl) (by kernel_rfl) (by kernel_rfl) (by kernel_rfl) (fun _ _ _ h => h) (Or.inl ⟨by rfl, ?ht65⟩) (by assumption) ?restt65
                      case ht65 => (intro w hSw; (try dsimp only at hSw); go_simp; try with_reducible rfl)
                      (try simp only [Act.put, List.setIfInBounds_toArray, List.set_cons_zero, List.set_cons_succ])
                      refine Till.take (i := 9) (v := ?vt66) rfl (by kernel_rfl) (by kernel_rfl) (by kernel_rfl) (by kernel_rfl) (fun _ _ _ h => h) (Or.inl ⟨by rfl, ?ht66⟩) (by assumption) ?restt66
                      case ht66 => (intro w hSw; (try dsimp only at hSw); go_simp; try with_reducible rfl)
                      (try simp only [Act.put, List.setIfInBounds_toArray, List.set_cons_zero, List.set_cons_succ])
                      refine Till.take (i := 10) (v := ?vt67) rfl (by kernel_rfl) (by kernel_rfl) (by kernel_rfl) (by kernel_rfl) (fun _ _ _ h => h) (Or.inl ⟨by rfl, ?ht67⟩) (by assumption) ?restt67
                      case ht67 => (intro w hSw; (try dsimp only at hSw); go_simp; try with_reducible rfl)
                      (try simp only [Act.put, List.setIfInBounds_toArray, List.set_cons_zero, List.set_cons_succ])
                      refine Till.take (i := 11) (v := ?vt68) rfl (by kernel_rfl) (by kernel_rfl) (by kernel_rfl) (by kernel_rfl) (fun _ _ _ h => h) (Or.inl ⟨by rfl, ?ht68⟩) (by assumption) ?restt68
                      case ht68 => (intro w hSw; (try dsimp only at hSw); go_simp; try with_reducible rfl)
                      (try simp only [Act.put, List.setIfInBounds_toArray, List.set_cons_zero, List.set_cons_succ])
                      refine Till.take (i := 12) (v := ?vt69) rfl (by kernel_rfl) (by kernel_rfl) (by kernel_rfl) (by kernel_rfl) (fun _ _ _ h => h) (Or.inl ⟨by rfl, ?ht69⟩) (by assumption) ?restt69
                      case ht69 => (intro w hSw; (try dsimp only at hSw); go_simp; try with_reducible rfl)
                      (try simp only [Act.put, List.setIfInBounds_toArray, List.set_cons_zero, List.set_cons_succ])
                      refine Till.take (i := 13) (v := ?vt70) rfl (by kernel_rfl) (by kernel_rfl) (by kernel_rfl) (by kernel_rfl) (fun _ _ _ h => h) (Or.inl ⟨by rfl, ?ht70⟩) (by assumption) ?restt70
                      case ht70 => (intro w hSw; (try dsimp only at hSw); go_simp; try with_reducible rfl)
                      (try simp only [Act.put, List.setIfInBounds_toArray, List.set_cons_zero, List.set_cons_succ])
                      refine Till.take (i := 14) (v := ?vt71) rfl (by kernel_rfl) (by kernel_rfl) (by kernel_rfl) (by kernel_rfl) (fun _ _ _ h => h) (Or.inl ⟨by rfl, ?ht71⟩) (by assumption) ?restt71
                      case ht71 => (intro w hSw; (try dsimp only at hSw); go_simp; try with_reducible rfl)
                      (try simp only [Act.put, List.setIfInBounds_toArray, List.set_cons_zero, List.set_cons_succ])
                      refine Till.ready (rs := [7]) (by kernel_rfl) (by simp) ?_
                      refine TillEach.cons rfl (fun K hK => ?_) ?_
                      · go_simp
                        go_wp2_with (go_at_call 32; refine (HCUa.out wB.drew).mono ?_; rintro e v30 ⟨rfl, hb⟩)
                        have GXv30 := Lib.hid (blk_call GXwB.out.drew hb)
                        have GOv30 := Lib.hid (blk_call GOwB.out.drew hb)
                        have GRv30 := Lib.hid (blk_call GRwB.out.drew hb)
                        have GCav30 := Lib.hid (GCawB.out.drew.below hb)
                        have GCbv30 := Lib.hid (GCbwB.out.drew.below hb)
                        have HBv30 := Lib.hid (bw_call (bw_drew HBwB.out) hb)
                        clear hb
                        refine hK.out _ _ ?_ (fun hHeld => ?_)
                        · exact ⟨(rar_facts GXv30.out).2.1, (rar_facts GXv30.out).2.2.1, GCav30.out.c, GCbv30.out.c⟩
                        clear hK K
                        (try simp only [Act.put, List.setIfInBounds_toArray, List.set_cons_zero, List.set_cons_succ])
                        refine Till.ready (rs := [15]) (by kernel_rfl) (by simp) ?_
                        refine TillEach.cons rfl (fun K hK => ?_) ?_
                        · go_simp
                          go_wp2_with (go_at_call 32; refine (HCUb.out v30).mono ?_; rintro e v31 ⟨rfl, hb⟩)
                          have GXv31 := Lib.hid (blk_call GXv30.out hb)
                          have GOv31 := Lib.hid (blk_call GOv30.out hb)
                          have GRv31 := Lib.hid (blk_call GRv30.out hb)
                          have GCav31 := Lib.hid (GCav30.out.below hb)
                          have GCbv31 := Lib.hid (GCbv30.out.below hb)
                          have HBv31 := Lib.hid (bw_call HBv30.out hb)
                          clear hb GXv30 GOv30 GRv30 GCav30 GCbv30 HBv30
                          refine hK.out _ _ ?_ (fun hHeld => ?_)
                          · exact ⟨(rar_facts GXv31.out).2.1, (rar_facts GXv31.out).2.2.1, GCav31.out.c, GCbv31.out.c⟩
                          clear hK K
                          (try simp only [Act.put, List.setIfInBounds_toArray, List.set_cons_zero, List.set_cons_succ])
                          refine Till.take (i := 16) (v := ?vt72) rfl (by kernel_rfl) (by kernel_rfl) (by kernel_rfl) (by kernel_rfl) (fun _ _ _ h => h) (Or.inl ⟨by rfl, ?ht72⟩) (by assumption) ?restt72
                          case ht72 => (intro w hSw; (try dsimp only at hSw); go_simp; try with_reducible rfl)
                          (try simp only [Act.put, List.setIfInBounds_toArray, List.set_cons_zero, List.set_cons_succ])
                          refine Till.take (i := 17) (v := ?vt73) rfl (by kernel_rfl) (by kernel_rfl) (by kernel_rfl) (by kernel_rfl) (fun _ _ _ h => h) (Or.inl ⟨by rfl, ?ht73⟩) (by assumption) ?restt73
                          case ht73 => (intro w hSw; (try dsimp only at hSw); go_simp; try with_reducible rfl)
                          (try simp only [Act.put, List.setIfInBounds_toArray, List.set_cons_zero, List.set_cons_succ])
                          refine Till.ready (rs := [18]) (by kernel_rfl) (by simp) ?_
                          refine TillEach.last rfl (fun K hK => ?_)
                          · go_simp
                            refine hK.out _ _ ?_
                            clear hK K
                            (try simp only [Act.put, List.setIfInBounds_toArray, List.set_cons_zero, List.set_cons_succ])
                            refine Till.done (by kernel_rfl) ?_ _
                            go_wp2_with fail
                            clear GCav31 GCbv31
                            have y0 := HQ.out ▸ (out_cell GOv31.out hk3)
                            have f0 := GOv31.out.frozen k
                            go_wp2_with fail
                            refine (refCutB_any (Int.tdiv (pa + pb) 2) v31).mono ?_
                            rintro e w40 ⟨rfl, hb⟩
                            have GX40 := Lib.hid (blk_call GXv31.out hb)
                            have GR40 := Lib.hid (blk_call GRv31.out hb)
                            have GO40 := Lib.hid (blk_call GOv31.out hb)
                            have HB40 := Lib.hid (bw_call HBv31.out hb)
                            clear hb y0 f0 GXv31 GRv31 GOv31 HBv31
                            have y0 := HQ.out ▸ (out_cell GO40.out hk3)
                            have f0 := GO40.out.frozen k
                            go_wp2_with fail
                            exact ⟨⟨k + 1, by omega, by go_num, Lib.hid (GX40.out.far HN.out.1 _), Lib.hid (GR40.out.far HN.out.2 _), HSET.out _ GO40.out, Lib.hid (bw_set HB40.out HG3.out _)⟩, by simp [intOf]; omega⟩
                        exact TillEach.nil
                      exact TillEach.nil
                    · obtain ⟨vl, rfl⟩ := Int.eq_ofNat_of_zero_le hl.1
                      have hvl : vl < np := by have := hl.2; omega
                      have hil : (vl : Int) < (np : Int) := by omega
                      obtain ⟨ad, eAd, ctl⟩ := pt_cell (HP.out.below HBwB.out) HBwB.out.size hvl hk3
                      subst eAd
                      have GClwB := Lib.hid ctl
                      obtain ⟨pl, HPl⟩ : ∃ pl, Hid (cutI (cornerT (tri P vl) k) = pl) := ⟨_, Lib.hid rfl⟩
                      have ll := cut_le (cornerT (tri P vl) k)
                      rw [HPl.out] at ll
                      have HCUl : Hid (∀ (W : World), Calls Try.prog 32 #[.int .i64 (cornerT (tri P vl) k)] W (IntPost W pl)) := Lib.hid fun W => HPl.out ▸ refCutB_any _ W
                      have HSET : Hid (∀ (W : World), Blk W g3 36 (outC kd X P k) → Hid (Blk (W.setCell ⟨g3, k, none⟩ (.int .i64 (cutI (pl)))) g3 36 (outC kd X P (k + 1)))) := Lib.hid fun W h => Lib.hid (by
                        have h1 := out_set hk3 (show ruleOf kd X P.length = .last by rw [HPL.out, HXX.out]; exact hru) h
                        rwa [show tell .last X P k = cutI (pl) by
                          rw [HXX.out]
                          show cutI (cornerT (tri P vl) k) = _
                          rw [← HPl.out, cut_cut]] at h1)
                      generalize cornerT (tri P vl) k = rl at *
                      clear hru HD4 hl HPl ctl
                      obtain ⟨x0, _, _, _, _⟩ := rar_facts GXwB.out
                      have c0 := GClwB.out.c
                      go_wp2_with fail
                      refine (HCUl.out wB).mono ?_
                      rintro e v41 ⟨rfl, hb⟩
                      have GXv41 := Lib.hid (blk_call GXwB.out hb)
                      have GRv41 := Lib.hid (blk_call GRwB.out hb)
                      have GOv41 := Lib.hid (blk_call GOwB.out hb)
                      have GClv41 := Lib.hid (GClwB.out.below hb)
                      have HBv41 := Lib.hid (bw_call HBwB.out hb)
                      clear hb x0 c0 GXwB GRwB GOwB GClwB HBwB
                      clear GClv41
                      have y0 := HQ.out ▸ (out_cell GOv41.out hk3)
                      have f0 := GOv41.out.frozen k
                      go_wp2_with fail
                      refine (refCutB_any (pl) v41).mono ?_
                      rintro e w40 ⟨rfl, hb⟩
                      have GX40 := Lib.hid (blk_call GXv41.out hb)
                      have GR40 := Lib.hid (blk_call GRv41.out hb)
                      have GO40 := Lib.hid (blk_call GOv41.out hb)
                      have HB40 := Lib.hid (bw_call HBv41.out hb)
                      clear hb y0 f0 GXv41 GRv41 GOv41 HBv41
                      have y0 := HQ.out ▸ (out_cell GO40.out hk3)
                      have f0 := GO40.out.frozen k
                      go_wp2_with fail
                      exact ⟨⟨k + 1, by omega, by go_num, Lib.hid (GX40.out.far HN.out.1 _), Lib.hid (GR40.out.far HN.out.2 _), HSET.out _ GO40.out, Lib.hid (bw_set HB40.out HG3.out _)⟩, by simp [intOf]; omega⟩
                  · obtain rfl : k = 3 := by omega
                    go_upto_region 26 with (fail)
                    obtain ⟨y0, y1, y2⟩ : wB.cell? ⟨g3, 0, none⟩ = some (.int .i64 (pointL kd X P 0)) ∧ wB.cell? ⟨g3, 1, none⟩ = some (.int .i64 (pointL kd X P 1)) ∧ wB.cell? ⟨g3, 2, none⟩ = some (.int .i64 (pointL kd X P 2)) := ⟨GOwB.out.cell 0, GOwB.out.cell 1, GOwB.out.cell 2⟩
                    have f0 := GRwB.out.frozen 0
                    have f1 := GRwB.out.frozen 1
                    have f2 := GRwB.out.frozen 2
                    have r0 := GRwB.out.cell 0
                    have r1 := GRwB.out.cell 1
                    have r2 := GRwB.out.cell 2
                    simp at r0 r1 r2
                    go_wp2_with fail
                    have GR2 := ((GRwB.out.set_ 0 (.int .i64 (pointL kd X P 0))).set_ 1 (.int .i64 (pointL kd X P 1))).set_ 2 (.int .i64 (pointL kd X P 2))
                    have z0 := GR2.cell 0
                    have z1 := GR2.cell 1
                    have z2 := GR2.cell 2
                    simp at z0 z1 z2
                    refine bodyPost_ret (v := .agg #[.int .i64 (pointL kd X P 0), .int .i64 (pointL kd X P 1), .int .i64 (pointL kd X P 2)]) ?_ rfl ⟨rfl, bw_set (bw_set (bw_set HBwB.out HG1.out _) HG1.out _) HG1.out _⟩
                    simp [results, Try.results14, go_sem, z0, z1, z2]
end Go.Proofs.Ytcpfolojfdnojaa
