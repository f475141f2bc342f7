/- predict.Point, walked. No condition but sizes. -/
import Derived.Test.YtcpfolojfdnojaaPtO
namespace Go.Proofs.Ytcpfolojfdnojaa
open Go.RowKit

set_option linter.unusedSimpArgs false
set_option linter.unusedVariables false
theorem ar_facts {w : World} {g : Nat} {a b c d e : Value} (h : Blk w g 32 #[a, b, c, d, e]) : w.cell? ⟨g, 0, none⟩ = some a ∧ w.cell? ⟨g, 1, none⟩ = some b ∧ w.cell? ⟨g, 2, none⟩ = some c ∧ w.cell? ⟨g, 3, none⟩ = some d ∧ w.cell? ⟨g, 4, none⟩ = some e := ⟨h.cell 0, h.cell 1, h.cell 2, h.cell 3, h.cell 4⟩
theorem cutB_any (x : Int) (w : World) : Calls Try.prog 30 #[.int .i64 x] w (IntPost w (cutI x)) := (cut_any x w).mono fun e w' h => ⟨h.1, h.2 ▸ Below.refl _ _⟩
attribute [local irreducible] Blk World.alloc World.setCell World.cell? World.frozen?
set_option maxRecDepth 100000 in
set_option maxHeartbeats 8000000 in
theorem point_any (kd xl xa xb xc xd : Int) (Ap : Option Addr) (np cp : Nat) (P : List Tri) (w : World) (hn : np ≤ 10000) (hp : TrisAt w w.heap.size Ap np P) :
    Calls Try.prog 13 #[.int .i64 kd, .agg #[.int .i64 xl, .int .i64 xa, .int .i64 xb, .int .i64 xc, .int .i64 xd], .slice Ap np cp] w (PtPost w kd ⟨xl, xa, xb, xc, xd⟩ P) := by
  have HPL : Hid (P.length = np) := Lib.hid hp.len
  have HP := Lib.hid hp
  clear hp
  obtain ⟨X, HXX⟩ : ∃ X : Ar, Hid (X = ⟨xl, xa, xb, xc, xd⟩) := ⟨_, Lib.hid rfl⟩
  rw [← HXX.out]
  obtain ⟨V, hV⟩ : ∃ V, V = (((w.alloc (.cells #[.int .i64 xl, .int .i64 xa, .int .i64 xb, .int .i64 xc, .int .i64 xd] 32)).alloc (.cells #[.slice Ap np cp] 34)).alloc (.cells #[.int .i64 0, .int .i64 0, .int .i64 0] 36)).alloc (.cells #[.int .i64 0, .int .i64 0, .int .i64 0] 36) := ⟨_, rfl⟩
  have GX0 : Hid (Blk V w.heap.size 32 #[.int .i64 xl, .int .i64 xa, .int .i64 xb, .int .i64 xc, .int .i64 xd]) := by subst hV; exact Lib.hid ((((Blk.new _ _ _).alloc _).alloc _).alloc _)
  have GP0 : Hid (Blk V (w.heap.size + 1) 34 #[.slice Ap np cp]) := by subst hV; exact Lib.hid (((blk_new1 _ _ _ _).alloc _).alloc _)
  have GR0 : Hid (Blk V (w.heap.size + 2) 36 #[.int .i64 0, .int .i64 0, .int .i64 0]) := by subst hV; exact Lib.hid ((Blk.new_ (by simp) _ _).alloc _)
  have GO0 : Hid (Blk V (w.heap.size + 3) 36 #[.int .i64 0, .int .i64 0, .int .i64 0]) := by subst hV; exact Lib.hid (Blk.new_ (by simp) _ _)
  have HB0 : Hid (Below w.heap.size w V) := by subst hV; exact Lib.hid (bw_alloc (bw_alloc (bw_alloc (bw_alloc (Below.refl _ _) _) _) _) _)
  go_enter Try.func13, Try.ntmps13
  go_upto_region 2 with (fail)
  rw [← hV]
  clear hV
  obtain ⟨g0, hg0⟩ : ∃ g, g = w.heap.size := ⟨_, rfl⟩
  obtain ⟨g1, hg1⟩ : ∃ g, g = w.heap.size + 1 := ⟨_, rfl⟩
  obtain ⟨g2, hg2⟩ : ∃ g, g = w.heap.size + 2 := ⟨_, rfl⟩
  obtain ⟨g3, hg3⟩ : ∃ g, g = w.heap.size + 3 := ⟨_, rfl⟩
  have HN : Hid (g0 ≠ g3 ∧ g1 ≠ g3 ∧ g2 ≠ g3) := Lib.hid ⟨by omega, by omega, by omega⟩
  have HG3 : Hid (w.heap.size ≤ g3) := Lib.hid (by omega)
  have HG2 : Hid (w.heap.size ≤ g2) := Lib.hid (by omega)
  rw [show w.heap.size + 3 = w.heap.size + 1 + 1 + 1 by omega] at hg3 GO0
  rw [show w.heap.size + 2 = w.heap.size + 1 + 1 by omega] at hg2 GR0
  rw [← hg3] at GO0 ⊢
  rw [← hg2] at GR0 ⊢
  rw [← hg1] at GP0 ⊢
  rw [← hg0] at GX0
  simp only [← hg0]
  clear hg0 hg1 hg2 hg3
  go_wp2_with fail
  go_loopw [13] (fun iv wr => ∃ k : Nat, k ≤ 3 ∧ iv = .int .i64 k ∧ Hid (Blk wr g0 32 #[.int .i64 xl, .int .i64 xa, .int .i64 xb, .int .i64 xc, .int .i64 xd]) ∧ Hid (Blk wr g1 34 #[.slice Ap np cp]) ∧ Hid (Blk wr g2 36 #[.int .i64 0, .int .i64 0, .int .i64 0]) ∧ Hid (Blk wr g3 36 (outC kd X P k)) ∧ Hid (Below w.heap.size w wr)) (fun iv _ => 3 - (intOf iv).toNat)
  case atStart => exact ⟨0, by omega, rfl, GX0, GP0, GR0, GO0, HB0⟩
  case round =>
    obtain ⟨k, hk, rfl, GXwB, GPwB, GRwB, GOwB, HBwB⟩ := hrel
    obtain ⟨wB, hwB⟩ : ∃ wB : World, wB = wr := ⟨_, rfl⟩
    rw [← hwB] at GXwB GPwB GRwB GOwB HBwB ⊢
    clear hwB GX0 GP0 GR0 GO0 HB0
    by_cases hk3 : k < 3
    · have hki : (k : Int) < 3 := by omega
      obtain ⟨q, HQ⟩ : ∃ q, Hid (outV kd X P k k = q) := ⟨_, Lib.hid rfl⟩
      have HAT : Hid (∀ v, hasP np v → ∀ (W : World), Blk W g1 34 #[.slice Ap np cp] → Below w.heap.size w W → Calls Try.prog 29 #[.int .i64 v, .int .i64 (k : Int), .pointer (some ⟨g1, 0, none⟩)] W (IntPost W (pc P v k))) := Lib.hid fun v hv W hg hb => (ptAt_any g1 Ap np cp P v k w.heap.size W hn hk3 hv hg (HP.out.below hb)).mono fun e w' h => ⟨h.1, h.2 ▸ Below.refl _ _⟩
      by_cases hkd3 : kd = 3
      · subst hkd3
        by_cases hD : hasP np xa ∧ hasP np xb ∧ hasP np xc ∧ hasP np xd
        · obtain ⟨x0, x1, x2, x3, x4⟩ := ar_facts GXwB.out
          obtain ⟨u1, hu1⟩ : ∃ u1, u1 = wB.alloc (.cells #[.int .i64 xa, .int .i64 xb, .int .i64 xc, .int .i64 xd] 3) := ⟨_, rfl⟩
          have GXu1 := Lib.hid (GXwB.out.alloc (.cells #[.int .i64 xa, .int .i64 xb, .int .i64 xc, .int .i64 xd] 3))
          have GOu1 := Lib.hid (GOwB.out.alloc (.cells #[.int .i64 xa, .int .i64 xb, .int .i64 xc, .int .i64 xd] 3))
          have GPu1 := Lib.hid (GPwB.out.alloc (.cells #[.int .i64 xa, .int .i64 xb, .int .i64 xc, .int .i64 xd] 3))
          have GRu1 := Lib.hid (GRwB.out.alloc (.cells #[.int .i64 xa, .int .i64 xb, .int .i64 xc, .int .i64 xd] 3))
          have HBu1 := Lib.hid (bw_alloc HBwB.out (.cells #[.int .i64 xa, .int .i64 xb, .int .i64 xc, .int .i64 xd] 3))
          have RL : Hid (Reads (wB.alloc (.cells #[.int .i64 xa, .int .i64 xb, .int .i64 xc, .int .i64 xd] 3)) (wB.alloc (.cells #[.int .i64 xa, .int .i64 xb, .int .i64 xc, .int .i64 xd] 3)).heap.size 1 (some ⟨wB.heap.size, 0, none⟩) 4 (ZL [xa, xb, xc, xd])) := Lib.hid ((reads_blk (size := 1) (n := 4) (Blk.new wB 3 #[.int .i64 xa, .int .i64 xb, .int .i64 xc, .int .i64 xd]) rfl).more (Nat.le_of_eq (by simp)))
          rw [← hu1] at GXu1 GOu1 GPu1 GRu1 HBu1 RL
          go_wp2_with fail
          rw [← hu1]
          refine (ptIs_any g1 Ap np cp _ 4 4 [xa, xb, xc, xd] u1 (by decide) GPu1.out RL.out).mono ?_
          rw [show decide (∀ v ∈ [xa, xb, xc, xd], hasP np v) = true from decide_eq_true (by simpa using hD)]
          rintro e w' ⟨rfl, hw'⟩
          replace hw' := hw'.symm
          subst hw'
          clear hu1 RL x0 x1 x2 x3 x4 GXwB GOwB GPwB GRwB HBwB
          have HCD := Lib.hid hD
          have HRU : Hid (ruleOf 3 X P.length = .double) := Lib.hid (by rw [HPL.out, HXX.out]; unfold ruleOf; rw [if_pos ⟨by decide, hD⟩])
          clear hD
          obtain ⟨pa, HPa⟩ : ∃ pa, Hid (pc P xa k = pa) := ⟨_, Lib.hid rfl⟩
          have HATa : Hid (∀ (W : World), Blk W g1 34 #[.slice Ap np cp] → Below w.heap.size w W → Calls Try.prog 29 #[.int .i64 xa, .int .i64 (k : Int), .pointer (some ⟨g1, 0, none⟩)] W (IntPost W pa)) := Lib.hid fun W h hb => HPa.out ▸ HAT.out xa (HCD.out.1) W h hb
          have la := pc_le P xa k
          rw [HPa.out] at la
          obtain ⟨pb, HPb⟩ : ∃ pb, Hid (pc P xb k = pb) := ⟨_, Lib.hid rfl⟩
          have HATb : Hid (∀ (W : World), Blk W g1 34 #[.slice Ap np cp] → Below w.heap.size w W → Calls Try.prog 29 #[.int .i64 xb, .int .i64 (k : Int), .pointer (some ⟨g1, 0, none⟩)] W (IntPost W pb)) := Lib.hid fun W h hb => HPb.out ▸ HAT.out xb (HCD.out.2.1) W h hb
          have lb := pc_le P xb k
          rw [HPb.out] at lb
          obtain ⟨pcc, HPc⟩ : ∃ pcc, Hid (pc P xc k = pcc) := ⟨_, Lib.hid rfl⟩
          have HATc : Hid (∀ (W : World), Blk W g1 34 #[.slice Ap np cp] → Below w.heap.size w W → Calls Try.prog 29 #[.int .i64 xc, .int .i64 (k : Int), .pointer (some ⟨g1, 0, none⟩)] W (IntPost W pcc)) := Lib.hid fun W h hb => HPc.out ▸ HAT.out xc (HCD.out.2.2.1) W h hb
          have lc := pc_le P xc k
          rw [HPc.out] at lc
          obtain ⟨pd, HPd⟩ : ∃ pd, Hid (pc P xd k = pd) := ⟨_, Lib.hid rfl⟩
          have HATd : Hid (∀ (W : World), Blk W g1 34 #[.slice Ap np cp] → Below w.heap.size w W → Calls Try.prog 29 #[.int .i64 xd, .int .i64 (k : Int), .pointer (some ⟨g1, 0, none⟩)] W (IntPost W pd)) := Lib.hid fun W h hb => HPd.out ▸ HAT.out xd (HCD.out.2.2.2) W h hb
          have ld := pc_le P xd k
          rw [HPd.out] at ld
          have HSET : Hid (∀ (W : World), Blk W g3 36 (outC 3 X P k) → Hid (Blk (W.setCell ⟨g3, k, none⟩ (.int .i64 (cutI (Int.tdiv (2 * pa + 2 * pb - pcc - pd) 2)))) g3 36 (outC 3 X P (k + 1)))) := Lib.hid fun W h => Lib.hid (by have h1 := out_set hk3 HRU.out h; rwa [show tell .double X P k = cutI (Int.tdiv (2 * pa + 2 * pb - pcc - pd) 2) by rw [HXX.out]; show cutI (Int.tdiv (2 * pc P xa k + 2 * pc P xb k - pc P xc k - pc P xd k) 2) = _; rw [HPa.out, HPb.out, HPc.out, HPd.out]] at h1)
          have q1 : IntKind.i64.wrap (2 * pa) = 2 * pa := IntWalk.i64_in _ (by omega)
          have q2 : IntKind.i64.wrap (2 * pb) = 2 * pb := IntWalk.i64_in _ (by omega)
          have q3 : IntKind.i64.wrap (2 * pa + 2 * pb) = 2 * pa + 2 * pb := IntWalk.i64_in _ (by omega)
          have q4 : IntKind.i64.wrap (2 * pa + 2 * pb - pcc) = 2 * pa + 2 * pb - pcc := IntWalk.i64_in _ (by omega)
          have q5 : IntKind.i64.wrap (2 * pa + 2 * pb - pcc - pd) = 2 * pa + 2 * pb - pcc - pd := IntWalk.i64_in _ (by omega)
          have hh := half_le (x := 2 * pa + 2 * pb - pcc - pd) (b := 3145728) (by omega) (by omega)
          have q9 : IntKind.i64.wrap (Int.tdiv (2 * pa + 2 * pb - pcc - pd) 2) = Int.tdiv (2 * pa + 2 * pb - pcc - pd) 2 := IntWalk.i64_in _ (by omega)
          go_upto_region 13 with (fail)
          refine wp_region_till (S := fun w' => w'.cell? ⟨g0, 0, none⟩ = some (.int .i64 xl) ∧ w'.cell? ⟨g0, 1, none⟩ = some (.int .i64 xa) ∧ w'.cell? ⟨g0, 2, none⟩ = some (.int .i64 xb) ∧ w'.cell? ⟨g0, 3, none⟩ = some (.int .i64 xc) ∧ w'.cell? ⟨g0, 4, none⟩ = some (.int .i64 xd) ∧ w'.cell? ⟨g3, k, none⟩ = some (.int .i64 q) ∧ w'.frozen? ⟨g3, k, none⟩ = false) 29 (by kernel_rfl) ⟨(ar_facts GXu1.out.drew).1, (ar_facts GXu1.out.drew).2.1, (ar_facts GXu1.out.drew).2.2.1, (ar_facts GXu1.out.drew).2.2.2.1, (ar_facts GXu1.out.drew).2.2.2.2, HQ.out ▸ (out_cell GOu1.out.drew hk3), (GOu1.out.drew.frozen k)⟩ (fun hHeld => ?_)
          refine Till.take (i := 0) (v := ?vt1) rfl (by kernel_rfl) (by kernel_rfl) (by kernel_rfl) (by kernel_rfl) (fun _ _ _ h => h) (Or.inl ⟨by rfl, ?ht1⟩) (by assumption) ?restt1
          case ht1 => (intro w hSw; (try dsimp only at hSw); go_simp; try with_reducible rfl)
          (try simp only [Act.put, List.setIfInBounds_toArray, List.set_cons_zero, List.set_cons_succ])
          refine Till.take (i := 1) (v := ?vt2) rfl (by kernel_rfl) (by kernel_rfl) (by kernel_rfl) (by kernel_rfl) (fun _ _ _ h => h) (Or.inl ⟨by rfl, ?ht2⟩) (by assumption) ?restt2
          case ht2 => (intro w hSw; (try dsimp only at hSw); go_simp; try with_reducible rfl)
          (try simp only [Act.put, List.setIfInBounds_toArray, List.set_cons_zero, List.set_cons_succ])
          refine Till.take (i := 2) (v := ?vt3) rfl (by kernel_rfl) (by kernel_rfl) (by kernel_rfl) (by kernel_rfl) (fun _ _ _ h => h) (Or.inl ⟨by rfl, ?ht3⟩) (by assumption) ?restt3
          case ht3 => (intro w hSw; (try dsimp only at hSw); go_simp; try with_reducible rfl)
          (try simp only [Act.put, List.setIfInBounds_toArray, List.set_cons_zero, List.set_cons_succ])
          refine Till.take (i := 3) (v := ?vt4) rfl (by kernel_rfl) (by kernel_rfl) (by kernel_rfl) (by kernel_rfl) (fun _ _ _ h => h) (Or.inl ⟨by rfl, ?ht4⟩) (by assumption) ?restt4
          case ht4 => (intro w hSw; (try dsimp only at hSw); go_simp; try with_reducible rfl)
          (try simp only [Act.put, List.setIfInBounds_toArray, List.set_cons_zero, List.set_cons_succ])
          refine Till.take (i := 4) (v := ?vt5) rfl (by kernel_rfl) (by kernel_rfl) (by kernel_rfl) (by kernel_rfl) (fun _ _ _ h => h) (Or.inl ⟨by rfl, ?ht5⟩) (by assumption) ?restt5
          case ht5 => (intro w hSw; (try dsimp only at hSw); go_simp; try with_reducible rfl)
          (try simp only [Act.put, List.setIfInBounds_toArray, List.set_cons_zero, List.set_cons_succ])
          refine Till.take (i := 7) (v := ?vt6) rfl (by kernel_rfl) (by kernel_rfl) (by kernel_rfl) (by kernel_rfl) (fun _ _ _ h => h) (Or.inl ⟨by rfl, ?ht6⟩) (by assumption) ?restt6
          case ht6 => (intro w hSw; (try dsimp only at hSw); go_simp; try with_reducible rfl)
          (try simp only [Act.put, List.setIfInBounds_toArray, List.set_cons_zero, List.set_cons_succ])
          refine Till.take (i := 8) (v := ?vt7) rfl (by kernel_rfl) (by kernel_rfl) (by kernel_rfl) (by kernel_rfl) (fun _ _ _ h => h) (Or.inl ⟨by rfl, ?ht7⟩) (by assumption) ?restt7
          case ht7 => (intro w hSw; (try dsimp only at hSw); go_simp; try with_reducible rfl)
          (try simp only [Act.put, List.setIfInBounds_toArray, List.set_cons_zero, List.set_cons_succ])
          refine Till.take (i := 9) (v := ?vt8) rfl (by kernel_rfl) (by kernel_rfl) (by kernel_rfl) (by kernel_rfl) (fun _ _ _ h => h) (Or.inl ⟨by rfl, ?ht8⟩) (by assumption) ?restt8
          case ht8 => (intro w hSw; (try dsimp only at hSw); go_simp; try with_reducible rfl)
          (try simp only [Act.put, List.setIfInBounds_toArray, List.set_cons_zero, List.set_cons_succ])
          refine Till.take (i := 10) (v := ?vt9) rfl (by kernel_rfl) (by kernel_rfl) (by kernel_rfl) (by kernel_rfl) (fun _ _ _ h => h) (Or.inl ⟨by rfl, ?ht9⟩) (by assumption) ?restt9
          case ht9 => (intro w hSw; (try dsimp only at hSw); go_simp; try with_reducible rfl)
          (try simp only [Act.put, List.setIfInBounds_toArray, List.set_cons_zero, List.set_cons_succ])
          refine Till.take (i := 14) (v := ?vt10) rfl (by kernel_rfl) (by kernel_rfl) (by kernel_rfl) (by kernel_rfl) (fun _ _ _ h => h) (Or.inl ⟨by rfl, ?ht10⟩) (by assumption) ?restt10
          case ht10 => (intro w hSw; (try dsimp only at hSw); go_simp; try with_reducible rfl)
          (try simp only [Act.put, List.setIfInBounds_toArray, List.set_cons_zero, List.set_cons_succ])
          refine Till.take (i := 15) (v := ?vt11) rfl (by kernel_rfl) (by kernel_rfl) (by kernel_rfl) (by kernel_rfl) (fun _ _ _ h => h) (Or.inl ⟨by rfl, ?ht11⟩) (by assumption) ?restt11
          case ht11 => (intro w hSw; (try dsimp only at hSw); go_simp; try with_reducible rfl)
          (try simp only [Act.put, List.setIfInBounds_toArray, List.set_cons_zero, List.set_cons_succ])
          refine Till.take (i := 16) (v := ?vt12) rfl (by kernel_rfl) (by kernel_rfl) (by kernel_rfl) (by kernel_rfl) (fun _ _ _ h => h) (Or.inl ⟨by rfl, ?ht12⟩) (by assumption) ?restt12
          case ht12 => (intro w hSw; (try dsimp only at hSw); go_simp; try with_reducible rfl)
          (try simp only [Act.put, List.setIfInBounds_toArray, List.set_cons_zero, List.set_cons_succ])
          refine Till.take (i := 17) (v := ?vt13) rfl (by kernel_rfl) (by kernel_rfl) (by kernel_rfl) (by kernel_rfl) (fun _ _ _ h => h) (Or.inl ⟨by rfl, ?ht13⟩) (by assumption) ?restt13
          case ht13 => (intro w hSw; (try dsimp only at hSw); go_simp; try with_reducible rfl)
          (try simp only [Act.put, List.setIfInBounds_toArray, List.set_cons_zero, List.set_cons_succ])
          refine Till.take (i := 20) (v := ?vt14) rfl (by kernel_rfl) (by kernel_rfl) (by kernel_rfl) (by kernel_rfl) (fun _ _ _ h => h) (Or.inl ⟨by rfl, ?ht14⟩) (by assumption) ?restt14
          case ht14 => (intro w hSw; (try dsimp only at hSw); go_simp; try with_reducible rfl)
          (try simp only [Act.put, List.setIfInBounds_toArray, List.set_cons_zero, List.set_cons_succ])
          refine Till.take (i := 21) (v := ?vt15) rfl (by kernel_rfl) (by kernel_rfl) (by kernel_rfl) (by kernel_rfl) (fun _ _ _ h => h) (Or.inl ⟨by rfl, ?ht15⟩) (by assumption) ?restt15
          case ht15 => (intro w hSw; (try dsimp only at hSw); go_simp; try with_reducible rfl)
          (try simp only [Act.put, List.setIfInBounds_toArray, List.set_cons_zero, List.set_cons_succ])
          refine Till.take (i := 22) (v := ?vt16) rfl (by kernel_rfl) (by kernel_rfl) (by kernel_rfl) (by kernel_rfl) (fun _ _ _ h => h) (Or.inl ⟨by rfl, ?ht16⟩) (by assumption) ?restt16
          case ht16 => (intro w hSw; (try dsimp only at hSw); go_simp; try with_reducible rfl)
          (try simp only [Act.put, List.setIfInBounds_toArray, List.set_cons_zero, List.set_cons_succ])
          refine Till.take (i := 23) (v := ?vt17) rfl (by kernel_rfl) (by kernel_rfl) (by kernel_rfl) (by kernel_rfl) (fun _ _ _ h => h) (Or.inl ⟨by rfl, ?ht17⟩) (by assumption) ?restt17
          case ht17 => (intro w hSw; (try dsimp only at hSw); go_simp; try with_reducible rfl)
          (try simp only [Act.put, List.setIfInBounds_toArray, List.set_cons_zero, List.set_cons_succ])
          refine Till.ready (rs := [5]) (by kernel_rfl) (by simp) ?_
          refine TillEach.cons rfl (fun K hK => ?_) ?_
          · go_simp
            go_wp2_with (go_at_call 29; refine (HATa.out u1.drew GPu1.out.drew (bw_drew HBu1.out)).mono ?_; rintro e v30 ⟨rfl, hb⟩)
            have GXv30 := Lib.hid (blk_call GXu1.out.drew hb)
            have GOv30 := Lib.hid (blk_call GOu1.out.drew hb)
            have GPv30 := Lib.hid (blk_call GPu1.out.drew hb)
            have GRv30 := Lib.hid (blk_call GRu1.out.drew hb)
            have HBv30 := Lib.hid (bw_call (bw_drew HBu1.out) hb)
            clear hb
            refine hK.out _ _ ?_ (fun hHeld => ?_)
            · exact ⟨(ar_facts GXv30.out).1, (ar_facts GXv30.out).2.1, (ar_facts GXv30.out).2.2.1, (ar_facts GXv30.out).2.2.2.1, (ar_facts GXv30.out).2.2.2.2, HQ.out ▸ (out_cell GOv30.out hk3), (GOv30.out.frozen k)⟩
            clear hK K
            (try simp only [Act.put, List.setIfInBounds_toArray, List.set_cons_zero, List.set_cons_succ])
            refine Till.take (i := 6) (v := ?vt18) rfl (by kernel_rfl) (by kernel_rfl) (by kernel_rfl) (by kernel_rfl) (fun _ _ _ h => h) (Or.inl ⟨by rfl, ?ht18⟩) (by assumption) ?restt18
            case ht18 => (intro w hSw; (try dsimp only at hSw); go_simp; try with_reducible rfl)
            (try simp only [Act.put, List.setIfInBounds_toArray, List.set_cons_zero, List.set_cons_succ])
            refine Till.ready (rs := [11]) (by kernel_rfl) (by simp) ?_
            refine TillEach.cons rfl (fun K hK => ?_) ?_
            · go_simp
              go_wp2_with (go_at_call 29; refine (HATb.out v30 GPv30.out HBv30.out).mono ?_; rintro e v31 ⟨rfl, hb⟩)
              have GXv31 := Lib.hid (blk_call GXv30.out hb)
              have GOv31 := Lib.hid (blk_call GOv30.out hb)
              have GPv31 := Lib.hid (blk_call GPv30.out hb)
              have GRv31 := Lib.hid (blk_call GRv30.out hb)
              have HBv31 := Lib.hid (bw_call HBv30.out hb)
              clear hb GXv30 GOv30 GPv30 GRv30 HBv30
              refine hK.out _ _ ?_ (fun hHeld => ?_)
              · exact ⟨(ar_facts GXv31.out).1, (ar_facts GXv31.out).2.1, (ar_facts GXv31.out).2.2.1, (ar_facts GXv31.out).2.2.2.1, (ar_facts GXv31.out).2.2.2.2, HQ.out ▸ (out_cell GOv31.out hk3), (GOv31.out.frozen k)⟩
              clear hK K
              (try simp only [Act.put, List.setIfInBounds_toArray, List.set_cons_zero, List.set_cons_succ])
              refine Till.take (i := 12) (v := ?vt19) rfl (by kernel_rfl) (by kernel_rfl) (by kernel_rfl) (by kernel_rfl) (fun _ _ _ h => h) (Or.inl ⟨by rfl, ?ht19⟩) (by assumption) ?restt19
              case ht19 => (intro w hSw; (try dsimp only at hSw); go_simp; try with_reducible rfl)
              (try simp only [Act.put, List.setIfInBounds_toArray, List.set_cons_zero, List.set_cons_succ])
              refine Till.take (i := 13) (v := ?vt20) rfl (by kernel_rfl) (by kernel_rfl) (by kernel_rfl) (by kernel_rfl) (fun _ _ _ h => h) (Or.inl ⟨by rfl, ?ht20⟩) (by assumption) ?restt20
              case ht20 => (intro w hSw; (try dsimp only at hSw); go_simp; try with_reducible rfl)
              (try simp only [Act.put, List.setIfInBounds_toArray, List.set_cons_zero, List.set_cons_succ])
              refine Till.ready (rs := [18]) (by kernel_rfl) (by simp) ?_
              refine TillEach.cons rfl (fun K hK => ?_) ?_
              · go_simp
                go_wp2_with (go_at_call 29; refine (HATc.out v31 GPv31.out HBv31.out).mono ?_; rintro e v32 ⟨rfl, hb⟩)
                have GXv32 := Lib.hid (blk_call GXv31.out hb)
                have GOv32 := Lib.hid (blk_call GOv31.out hb)
                have GPv32 := Lib.hid (blk_call GPv31.out hb)
                have GRv32 := Lib.hid (blk_call GRv31.out hb)
                have HBv32 := Lib.hid (bw_call HBv31.out hb)
                clear hb GXv31 GOv31 GPv31 GRv31 HBv31
                refine hK.out _ _ ?_ (fun hHeld => ?_)
                · exact ⟨(ar_facts GXv32.out).1, (ar_facts GXv32.out).2.1, (ar_facts GXv32.out).2.2.1, (ar_facts GXv32.out).2.2.2.1, (ar_facts GXv32.out).2.2.2.2, HQ.out ▸ (out_cell GOv32.out hk3), (GOv32.out.frozen k)⟩
                clear hK K
                (try simp only [Act.put, List.setIfInBounds_toArray, List.set_cons_zero, List.set_cons_succ])
                refine Till.take (i := 19) (v := ?vt21) rfl (by kernel_rfl) (by kernel_rfl) (by kernel_rfl) (by kernel_rfl) (fun _ _ _ h => h) (Or.inl ⟨by rfl, ?ht21⟩) (by assumption) ?restt21
                case ht21 => (intro w hSw; (try dsimp only at hSw); go_simp; try with_reducible rfl)
                (try simp only [Act.put, List.setIfInBounds_toArray, List.set_cons_zero, List.set_cons_succ])
                refine Till.ready (rs := [24]) (by kernel_rfl) (by simp) ?_
                refine TillEach.cons rfl (fun K hK => ?_) ?_
                · go_simp
                  go_wp2_with (go_at_call 29; refine (HATd.out v32 GPv32.out HBv32.out).mono ?_; rintro e v33 ⟨rfl, hb⟩)
                  have GXv33 := Lib.hid (blk_call GXv32.out hb)
                  have GOv33 := Lib.hid (blk_call GOv32.out hb)
                  have GPv33 := Lib.hid (blk_call GPv32.out hb)
                  have GRv33 := Lib.hid (blk_call GRv32.out hb)
                  have HBv33 := Lib.hid (bw_call HBv32.out hb)
                  clear hb GXv32 GOv32 GPv32 GRv32 HBv32
                  refine hK.out _ _ ?_ (fun hHeld => ?_)
                  · exact ⟨(ar_facts GXv33.out).1, (ar_facts GXv33.out).2.1, (ar_facts GXv33.out).2.2.1, (ar_facts GXv33.out).2.2.2.1, (ar_facts GXv33.out).2.2.2.2, HQ.out ▸ (out_cell GOv33.out hk3), (GOv33.out.frozen k)⟩
                  clear hK K
                  (try simp only [Act.put, List.setIfInBounds_toArray, List.set_cons_zero, List.set_cons_succ])
                  refine Till.take (i := 25) (v := ?vt22) rfl (by kernel_rfl) (by kernel_rfl) (by kernel_rfl) (by kernel_rfl) (fun _ _ _ h => h) (Or.inl ⟨by rfl, ?ht22⟩) (by assumption) ?restt22
                  case ht22 => (intro w hSw; (try dsimp only at hSw); go_simp; try with_reducible rfl)
                  (try simp only [Act.put, List.setIfInBounds_toArray, List.set_cons_zero, List.set_cons_succ])
                  refine Till.take (i := 26) (v := ?vt23) rfl (by kernel_rfl) (by kernel_rfl) (by kernel_rfl) (by kernel_rfl) (fun _ _ _ h => h) (Or.inl ⟨by rfl, ?ht23⟩) (by assumption) ?restt23
                  case ht23 => (intro w hSw; (try dsimp only at hSw); go_simp; try with_reducible rfl)
                  (try simp only [Act.put, List.setIfInBounds_toArray, List.set_cons_zero, List.set_cons_succ])
                  refine Till.ready (rs := [27]) (by kernel_rfl) (by simp) ?_
                  refine TillEach.cons rfl (fun K hK => ?_) ?_
                  · go_simp
                    go_wp2_with (go_at_call 30; refine (cutB_any _ v33).mono ?_; rintro e v34 ⟨rfl, hb⟩)
                    have GXv34 := Lib.hid (blk_call GXv33.out hb)
                    have GOv34 := Lib.hid (blk_call GOv33.out hb)
                    have GPv34 := Lib.hid (blk_call GPv33.out hb)
                    have GRv34 := Lib.hid (blk_call GRv33.out hb)
                    have HBv34 := Lib.hid (bw_call HBv33.out hb)
                    clear hb GXv33 GOv33 GPv33 GRv33 HBv33
                    refine hK.out _ _ ?_ (fun hHeld => ?_)
                    · exact ⟨(ar_facts GXv34.out).1, (ar_facts GXv34.out).2.1, (ar_facts GXv34.out).2.2.1, (ar_facts GXv34.out).2.2.2.1, (ar_facts GXv34.out).2.2.2.2, HQ.out ▸ (out_cell GOv34.out hk3), (GOv34.out.frozen k)⟩
                    clear hK K
                    (try simp only [Act.put, List.setIfInBounds_toArray, List.set_cons_zero, List.set_cons_succ])
                    refine Till.take (i := 28) (v := ?vt24) rfl (by kernel_rfl) (by kernel_rfl) (by kernel_rfl) (by kernel_rfl) (fun _ _ _ h => h) (Or.inl ⟨by rfl, ?ht24⟩) (by assumption) ?restt24
                    case ht24 => (intro w hSw; (try dsimp only at hSw); go_simp; try with_reducible rfl)
                    (try simp only [Act.put, List.setIfInBounds_toArray, List.set_cons_zero, List.set_cons_succ])
                    refine Till.ready (rs := [29]) (by kernel_rfl) (by simp) ?_
                    refine TillEach.last rfl (fun K hK => ?_)
                    · go_simp
                      refine hK.out _ _ ?_
                      clear hK K
                      (try simp only [Act.put, List.setIfInBounds_toArray, List.set_cons_zero, List.set_cons_succ])
                      refine Till.done (by kernel_rfl) ?_ _
                      go_wp2_with fail
                      exact ⟨⟨k + 1, by omega, by go_num, Lib.hid (GXv34.out.far HN.out.1 _), Lib.hid (GPv34.out.far HN.out.2.1 _), Lib.hid (GRv34.out.far HN.out.2.2 _), HSET.out _ GOv34.out, Lib.hid (bw_set HBv34.out HG3.out _)⟩, by simp [intOf]; omega⟩
                  exact TillEach.nil
                exact TillEach.nil
              exact TillEach.nil
            exact TillEach.nil
          exact TillEach.nil
        obtain ⟨x0, x1, x2, x3, x4⟩ := ar_facts GXwB.out
        obtain ⟨u1, hu1⟩ : ∃ u1, u1 = wB.alloc (.cells #[.int .i64 xa, .int .i64 xb, .int .i64 xc, .int .i64 xd] 3) := ⟨_, rfl⟩
        have GXu1 := Lib.hid (GXwB.out.alloc (.cells #[.int .i64 xa, .int .i64 xb, .int .i64 xc, .int .i64 xd] 3))
        have GOu1 := Lib.hid (GOwB.out.alloc (.cells #[.int .i64 xa, .int .i64 xb, .int .i64 xc, .int .i64 xd] 3))
        have GPu1 := Lib.hid (GPwB.out.alloc (.cells #[.int .i64 xa, .int .i64 xb, .int .i64 xc, .int .i64 xd] 3))
        have GRu1 := Lib.hid (GRwB.out.alloc (.cells #[.int .i64 xa, .int .i64 xb, .int .i64 xc, .int .i64 xd] 3))
        have HBu1 := Lib.hid (bw_alloc HBwB.out (.cells #[.int .i64 xa, .int .i64 xb, .int .i64 xc, .int .i64 xd] 3))
        have RL : Hid (Reads (wB.alloc (.cells #[.int .i64 xa, .int .i64 xb, .int .i64 xc, .int .i64 xd] 3)) (wB.alloc (.cells #[.int .i64 xa, .int .i64 xb, .int .i64 xc, .int .i64 xd] 3)).heap.size 1 (some ⟨wB.heap.size, 0, none⟩) 4 (ZL [xa, xb, xc, xd])) := Lib.hid ((reads_blk (size := 1) (n := 4) (Blk.new wB 3 #[.int .i64 xa, .int .i64 xb, .int .i64 xc, .int .i64 xd]) rfl).more (Nat.le_of_eq (by simp)))
        rw [← hu1] at GXu1 GOu1 GPu1 GRu1 HBu1 RL
        go_wp2_with fail
        rw [← hu1]
        refine (ptIs_any g1 Ap np cp _ 4 4 [xa, xb, xc, xd] u1 (by decide) GPu1.out RL.out).mono ?_
        rw [show decide (∀ v ∈ [xa, xb, xc, xd], hasP np v) = false from decide_eq_false (by simpa using hD)]
        rintro e w' ⟨rfl, hw'⟩
        replace hw' := hw'.symm
        subst hw'
        clear hu1 RL x0 x1 x2 x3 x4 GXwB GOwB GPwB GRwB HBwB
        by_cases hA : hasP np xa ∧ hasP np xb ∧ hasP np xc
        · obtain ⟨x0, x1, x2, x3, x4⟩ := ar_facts GXu1.out
          obtain ⟨u2, hu2⟩ : ∃ u2, u2 = u1.alloc (.cells #[.int .i64 xa, .int .i64 xb, .int .i64 xc] 3) := ⟨_, rfl⟩
          have GXu2 := Lib.hid (GXu1.out.alloc (.cells #[.int .i64 xa, .int .i64 xb, .int .i64 xc] 3))
          have GOu2 := Lib.hid (GOu1.out.alloc (.cells #[.int .i64 xa, .int .i64 xb, .int .i64 xc] 3))
          have GPu2 := Lib.hid (GPu1.out.alloc (.cells #[.int .i64 xa, .int .i64 xb, .int .i64 xc] 3))
          have GRu2 := Lib.hid (GRu1.out.alloc (.cells #[.int .i64 xa, .int .i64 xb, .int .i64 xc] 3))
          have HBu2 := Lib.hid (bw_alloc HBu1.out (.cells #[.int .i64 xa, .int .i64 xb, .int .i64 xc] 3))
          have RL : Hid (Reads (u1.alloc (.cells #[.int .i64 xa, .int .i64 xb, .int .i64 xc] 3)) (u1.alloc (.cells #[.int .i64 xa, .int .i64 xb, .int .i64 xc] 3)).heap.size 1 (some ⟨u1.heap.size, 0, none⟩) 3 (ZL [xa, xb, xc])) := Lib.hid ((reads_blk (size := 1) (n := 3) (Blk.new u1 3 #[.int .i64 xa, .int .i64 xb, .int .i64 xc]) rfl).more (Nat.le_of_eq (by simp)))
          rw [← hu2] at GXu2 GOu2 GPu2 GRu2 HBu2 RL
          go_wp2_with fail
          rw [← hu2]
          refine (ptIs_any g1 Ap np cp _ 3 3 [xa, xb, xc] u2 (by decide) GPu2.out RL.out).mono ?_
          rw [show decide (∀ v ∈ [xa, xb, xc], hasP np v) = true from decide_eq_true (by simpa using hA)]
          rintro e w' ⟨rfl, hw'⟩
          replace hw' := hw'.symm
          subst hw'
          clear hu2 RL x0 x1 x2 x3 x4 GXu1 GOu1 GPu1 GRu1 HBu1
          have HCA := Lib.hid hA
          have HRU : Hid (ruleOf 3 X P.length = .across) := Lib.hid (by rw [HPL.out, HXX.out]; unfold ruleOf; rw [if_neg (fun h => hD h.2), if_pos ⟨by decide, hA⟩])
          clear hA hD
          obtain ⟨pa, HPa⟩ : ∃ pa, Hid (pc P xa k = pa) := ⟨_, Lib.hid rfl⟩
          have HATa : Hid (∀ (W : World), Blk W g1 34 #[.slice Ap np cp] → Below w.heap.size w W → Calls Try.prog 29 #[.int .i64 xa, .int .i64 (k : Int), .pointer (some ⟨g1, 0, none⟩)] W (IntPost W pa)) := Lib.hid fun W h hb => HPa.out ▸ HAT.out xa (HCA.out.1) W h hb
          have la := pc_le P xa k
          rw [HPa.out] at la
          obtain ⟨pb, HPb⟩ : ∃ pb, Hid (pc P xb k = pb) := ⟨_, Lib.hid rfl⟩
          have HATb : Hid (∀ (W : World), Blk W g1 34 #[.slice Ap np cp] → Below w.heap.size w W → Calls Try.prog 29 #[.int .i64 xb, .int .i64 (k : Int), .pointer (some ⟨g1, 0, none⟩)] W (IntPost W pb)) := Lib.hid fun W h hb => HPb.out ▸ HAT.out xb (HCA.out.2.1) W h hb
          have lb := pc_le P xb k
          rw [HPb.out] at lb
          obtain ⟨pcc, HPc⟩ : ∃ pcc, Hid (pc P xc k = pcc) := ⟨_, Lib.hid rfl⟩
          have HATc : Hid (∀ (W : World), Blk W g1 34 #[.slice Ap np cp] → Below w.heap.size w W → Calls Try.prog 29 #[.int .i64 xc, .int .i64 (k : Int), .pointer (some ⟨g1, 0, none⟩)] W (IntPost W pcc)) := Lib.hid fun W h hb => HPc.out ▸ HAT.out xc (HCA.out.2.2) W h hb
          have lc := pc_le P xc k
          rw [HPc.out] at lc
          have HSET : Hid (∀ (W : World), Blk W g3 36 (outC 3 X P k) → Hid (Blk (W.setCell ⟨g3, k, none⟩ (.int .i64 (cutI (pa + pb - pcc)))) g3 36 (outC 3 X P (k + 1)))) := Lib.hid fun W h => Lib.hid (by have h1 := out_set hk3 HRU.out h; rwa [show tell .across X P k = cutI (pa + pb - pcc) by rw [HXX.out]; show cutI (pc P xa k + pc P xb k - pc P xc k) = _; rw [HPa.out, HPb.out, HPc.out]] at h1)
          have q1 : IntKind.i64.wrap (pa + pb) = pa + pb := IntWalk.i64_in _ (by omega)
          have q2 : IntKind.i64.wrap (pa + pb - pcc) = pa + pb - pcc := IntWalk.i64_in _ (by omega)
          go_upto_region 15 with (fail)
          refine wp_region_till (S := fun w' => w'.cell? ⟨g0, 0, none⟩ = some (.int .i64 xl) ∧ w'.cell? ⟨g0, 1, none⟩ = some (.int .i64 xa) ∧ w'.cell? ⟨g0, 2, none⟩ = some (.int .i64 xb) ∧ w'.cell? ⟨g0, 3, none⟩ = some (.int .i64 xc) ∧ w'.cell? ⟨g0, 4, none⟩ = some (.int .i64 xd) ∧ w'.cell? ⟨g3, k, none⟩ = some (.int .i64 q) ∧ w'.frozen? ⟨g3, k, none⟩ = false) 20 (by kernel_rfl) ⟨(ar_facts GXu2.out.drew).1, (ar_facts GXu2.out.drew).2.1, (ar_facts GXu2.out.drew).2.2.1, (ar_facts GXu2.out.drew).2.2.2.1, (ar_facts GXu2.out.drew).2.2.2.2, HQ.out ▸ (out_cell GOu2.out.drew hk3), (GOu2.out.drew.frozen k)⟩ (fun hHeld => ?_)
          refine Till.take (i := 0) (v := ?vt25) rfl (by kernel_rfl) (by kernel_rfl) (by kernel_rfl) (by kernel_rfl) (fun _ _ _ h => h) (Or.inl ⟨by rfl, ?ht25⟩) (by assumption) ?restt25
          case ht25 => (intro w hSw; (try dsimp only at hSw); go_simp; try with_reducible rfl)
          (try simp only [Act.put, List.setIfInBounds_toArray, List.set_cons_zero, List.set_cons_succ])
          refine Till.take (i := 1) (v := ?vt26) rfl (by kernel_rfl) (by kernel_rfl) (by kernel_rfl) (by kernel_rfl) (fun _ _ _ h => h) (Or.inl ⟨by rfl, ?ht26⟩) (by assumption) ?restt26
          case ht26 => (intro w hSw; (try dsimp only at hSw); go_simp; try with_reducible rfl)
          (try simp only [Act.put, List.setIfInBounds_toArray, List.set_cons_zero, List.set_cons_succ])
          refine Till.take (i := 2) (v := ?vt27) rfl (by kernel_rfl) (by kernel_rfl) (by kernel_rfl) (by kernel_rfl) (fun _ _ _ h => h) (Or.inl ⟨by rfl, ?ht27⟩) (by assumption) ?restt27
          case ht27 => (intro w hSw; (try dsimp only at hSw); go_simp; try with_reducible rfl)
          (try simp only [Act.put, List.setIfInBounds_toArray, List.set_cons_zero, List.set_cons_succ])
          refine Till.take (i := 3) (v := ?vt28) rfl (by kernel_rfl) (by kernel_rfl) (by kernel_rfl) (by kernel_rfl) (fun _ _ _ h => h) (Or.inl ⟨by rfl, ?ht28⟩) (by assumption) ?restt28
          case ht28 => (intro w hSw; (try dsimp only at hSw); go_simp; try with_reducible rfl)
          (try simp only [Act.put, List.setIfInBounds_toArray, List.set_cons_zero, List.set_cons_succ])
          refine Till.take (i := 4) (v := ?vt29) rfl (by kernel_rfl) (by kernel_rfl) (by kernel_rfl) (by kernel_rfl) (fun _ _ _ h => h) (Or.inl ⟨by rfl, ?ht29⟩) (by assumption) ?restt29
          case ht29 => (intro w hSw; (try dsimp only at hSw); go_simp; try with_reducible rfl)
          (try simp only [Act.put, List.setIfInBounds_toArray, List.set_cons_zero, List.set_cons_succ])
          refine Till.take (i := 6) (v := ?vt30) rfl (by kernel_rfl) (by kernel_rfl) (by kernel_rfl) (by kernel_rfl) (fun _ _ _ h => h) (Or.inl ⟨by rfl, ?ht30⟩) (by assumption) ?restt30
          case ht30 => (intro w hSw; (try dsimp only at hSw); go_simp; try with_reducible rfl)
          (try simp only [Act.put, List.setIfInBounds_toArray, List.set_cons_zero, List.set_cons_succ])
          refine Till.take (i := 7) (v := ?vt31) rfl (by kernel_rfl) (by kernel_rfl) (by kernel_rfl) (by kernel_rfl) (fun _ _ _ h => h) (Or.inl ⟨by rfl, ?ht31⟩) (by assumption) ?restt31
          case ht31 => (intro w hSw; (try dsimp only at hSw); go_simp; try with_reducible rfl)
          (try simp only [Act.put, List.setIfInBounds_toArray, List.set_cons_zero, List.set_cons_succ])
          refine Till.take (i := 8) (v := ?vt32) rfl (by kernel_rfl) (by kernel_rfl) (by kernel_rfl) (by kernel_rfl) (fun _ _ _ h => h) (Or.inl ⟨by rfl, ?ht32⟩) (by assumption) ?restt32
          case ht32 => (intro w hSw; (try dsimp only at hSw); go_simp; try with_reducible rfl)
          (try simp only [Act.put, List.setIfInBounds_toArray, List.set_cons_zero, List.set_cons_succ])
          refine Till.take (i := 9) (v := ?vt33) rfl (by kernel_rfl) (by kernel_rfl) (by kernel_rfl) (by kernel_rfl) (fun _ _ _ h => h) (Or.inl ⟨by rfl, ?ht33⟩) (by assumption) ?restt33
          case ht33 => (intro w hSw; (try dsimp only at hSw); go_simp; try with_reducible rfl)
          (try simp only [Act.put, List.setIfInBounds_toArray, List.set_cons_zero, List.set_cons_succ])
          refine Till.take (i := 12) (v := ?vt34) rfl (by kernel_rfl) (by kernel_rfl) (by kernel_rfl) (by kernel_rfl) (fun _ _ _ h => h) (Or.inl ⟨by rfl, ?ht34⟩) (by assumption) ?restt34
          case ht34 => (intro w hSw; (try dsimp only at hSw); go_simp; try with_reducible rfl)
          (try simp only [Act.put, List.setIfInBounds_toArray, List.set_cons_zero, List.set_cons_succ])
          refine Till.take (i := 13) (v := ?vt35) rfl (by kernel_rfl) (by kernel_rfl) (by kernel_rfl) (by kernel_rfl) (fun _ _ _ h => h) (Or.inl ⟨by rfl, ?ht35⟩) (by assumption) ?restt35
          case ht35 => (intro w hSw; (try dsimp only at hSw); go_simp; try with_reducible rfl)
          (try simp only [Act.put, List.setIfInBounds_toArray, List.set_cons_zero, List.set_cons_succ])
          refine Till.take (i := 14) (v := ?vt36) rfl (by kernel_rfl) (by kernel_rfl) (by kernel_rfl) (by kernel_rfl) (fun _ _ _ h => h) (Or.inl ⟨by rfl, ?ht36⟩) (by assumption) ?restt36
          case ht36 => (intro w hSw; (try dsimp only at hSw); go_simp; try with_reducible rfl)
          (try simp only [Act.put, List.setIfInBounds_toArray, List.set_cons_zero, List.set_cons_succ])
          refine Till.take (i := 15) (v := ?vt37) rfl (by kernel_rfl) (by kernel_rfl) (by kernel_rfl) (by kernel_rfl) (fun _ _ _ h => h) (Or.inl ⟨by rfl, ?ht37⟩) (by assumption) ?restt37
          case ht37 => (intro w hSw; (try dsimp only at hSw); go_simp; try with_reducible rfl)
          (try simp only [Act.put, List.setIfInBounds_toArray, List.set_cons_zero, List.set_cons_succ])
          refine Till.ready (rs := [5]) (by kernel_rfl) (by simp) ?_
          refine TillEach.cons rfl (fun K hK => ?_) ?_
          · go_simp
            go_wp2_with (go_at_call 29; refine (HATa.out u2.drew GPu2.out.drew (bw_drew HBu2.out)).mono ?_; rintro e v30 ⟨rfl, hb⟩)
            have GXv30 := Lib.hid (blk_call GXu2.out.drew hb)
            have GOv30 := Lib.hid (blk_call GOu2.out.drew hb)
            have GPv30 := Lib.hid (blk_call GPu2.out.drew hb)
            have GRv30 := Lib.hid (blk_call GRu2.out.drew hb)
            have HBv30 := Lib.hid (bw_call (bw_drew HBu2.out) hb)
            clear hb
            refine hK.out _ _ ?_ (fun hHeld => ?_)
            · exact ⟨(ar_facts GXv30.out).1, (ar_facts GXv30.out).2.1, (ar_facts GXv30.out).2.2.1, (ar_facts GXv30.out).2.2.2.1, (ar_facts GXv30.out).2.2.2.2, HQ.out ▸ (out_cell GOv30.out hk3), (GOv30.out.frozen k)⟩
            clear hK K
            (try simp only [Act.put, List.setIfInBounds_toArray, List.set_cons_zero, List.set_cons_succ])
            refine Till.ready (rs := [10]) (by kernel_rfl) (by simp) ?_
            refine TillEach.cons rfl (fun K hK => ?_) ?_
            · go_simp
              go_wp2_with (go_at_call 29; refine (HATb.out v30 GPv30.out HBv30.out).mono ?_; rintro e v31 ⟨rfl, hb⟩)
              have GXv31 := Lib.hid (blk_call GXv30.out hb)
              have GOv31 := Lib.hid (blk_call GOv30.out hb)
              have GPv31 := Lib.hid (blk_call GPv30.out hb)
              have GRv31 := Lib.hid (blk_call GRv30.out hb)
              have HBv31 := Lib.hid (bw_call HBv30.out hb)
              clear hb GXv30 GOv30 GPv30 GRv30 HBv30
              refine hK.out _ _ ?_ (fun hHeld => ?_)
              · exact ⟨(ar_facts GXv31.out).1, (ar_facts GXv31.out).2.1, (ar_facts GXv31.out).2.2.1, (ar_facts GXv31.out).2.2.2.1, (ar_facts GXv31.out).2.2.2.2, HQ.out ▸ (out_cell GOv31.out hk3), (GOv31.out.frozen k)⟩
              clear hK K
              (try simp only [Act.put, List.setIfInBounds_toArray, List.set_cons_zero, List.set_cons_succ])
              refine Till.take (i := 11) (v := ?vt38) rfl (by kernel_rfl) (by kernel_rfl) (by kernel_rfl) (by kernel_rfl) (fun _ _ _ h => h) (Or.inl ⟨by rfl, ?ht38⟩) (by assumption) ?restt38
              case ht38 => (intro w hSw; (try dsimp only at hSw); go_simp; try with_reducible rfl)
              (try simp only [Act.put, List.setIfInBounds_toArray, List.set_cons_zero, List.set_cons_succ])
              refine Till.ready (rs := [16]) (by kernel_rfl) (by simp) ?_
              refine TillEach.cons rfl (fun K hK => ?_) ?_
              · go_simp
                go_wp2_with (go_at_call 29; refine (HATc.out v31 GPv31.out HBv31.out).mono ?_; rintro e v32 ⟨rfl, hb⟩)
                have GXv32 := Lib.hid (blk_call GXv31.out hb)
                have GOv32 := Lib.hid (blk_call GOv31.out hb)
                have GPv32 := Lib.hid (blk_call GPv31.out hb)
                have GRv32 := Lib.hid (blk_call GRv31.out hb)
                have HBv32 := Lib.hid (bw_call HBv31.out hb)
                clear hb GXv31 GOv31 GPv31 GRv31 HBv31
                refine hK.out _ _ ?_ (fun hHeld => ?_)
                · exact ⟨(ar_facts GXv32.out).1, (ar_facts GXv32.out).2.1, (ar_facts GXv32.out).2.2.1, (ar_facts GXv32.out).2.2.2.1, (ar_facts GXv32.out).2.2.2.2, HQ.out ▸ (out_cell GOv32.out hk3), (GOv32.out.frozen k)⟩
                clear hK K
                (try simp only [Act.put, List.setIfInBounds_toArray, List.set_cons_zero, List.set_cons_succ])
                refine Till.take (i := 17) (v := ?vt39) rfl (by kernel_rfl) (by kernel_rfl) (by kernel_rfl) (by kernel_rfl) (fun _ _ _ h => h) (Or.inl ⟨by rfl, ?ht39⟩) (by assumption) ?restt39
                case ht39 => (intro w hSw; (try dsimp only at hSw); go_simp; try with_reducible rfl)
                (try simp only [Act.put, List.setIfInBounds_toArray, List.set_cons_zero, List.set_cons_succ])
                refine Till.ready (rs := [18]) (by kernel_rfl) (by simp) ?_
                refine TillEach.cons rfl (fun K hK => ?_) ?_
                · go_simp
                  go_wp2_with (go_at_call 30; refine (cutB_any _ v32).mono ?_; rintro e v33 ⟨rfl, hb⟩)
                  have GXv33 := Lib.hid (blk_call GXv32.out hb)
                  have GOv33 := Lib.hid (blk_call GOv32.out hb)
                  have GPv33 := Lib.hid (blk_call GPv32.out hb)
                  have GRv33 := Lib.hid (blk_call GRv32.out hb)
                  have HBv33 := Lib.hid (bw_call HBv32.out hb)
                  clear hb GXv32 GOv32 GPv32 GRv32 HBv32
                  refine hK.out _ _ ?_ (fun hHeld => ?_)
                  · exact ⟨(ar_facts GXv33.out).1, (ar_facts GXv33.out).2.1, (ar_facts GXv33.out).2.2.1, (ar_facts GXv33.out).2.2.2.1, (ar_facts GXv33.out).2.2.2.2, HQ.out ▸ (out_cell GOv33.out hk3), (GOv33.out.frozen k)⟩
                  clear hK K
                  (try simp only [Act.put, List.setIfInBounds_toArray, List.set_cons_zero, List.set_cons_succ])
                  refine Till.take (i := 19) (v := ?vt40) rfl (by kernel_rfl) (by kernel_rfl) (by kernel_rfl) (by kernel_rfl) (fun _ _ _ h => h) (Or.inl ⟨by rfl, ?ht40⟩) (by assumption) ?restt40
                  case ht40 => (intro w hSw; (try dsimp only at hSw); go_simp; try with_reducible rfl)
                  (try simp only [Act.put, List.setIfInBounds_toArray, List.set_cons_zero, List.set_cons_succ])
                  refine Till.ready (rs := [20]) (by kernel_rfl) (by simp) ?_
                  refine TillEach.last rfl (fun K hK => ?_)
                  · go_simp
                    refine hK.out _ _ ?_
                    clear hK K
                    (try simp only [Act.put, List.setIfInBounds_toArray, List.set_cons_zero, List.set_cons_succ])
                    refine Till.done (by kernel_rfl) ?_ _
                    go_wp2_with fail
                    exact ⟨⟨k + 1, by omega, by go_num, Lib.hid (GXv33.out.far HN.out.1 _), Lib.hid (GPv33.out.far HN.out.2.1 _), Lib.hid (GRv33.out.far HN.out.2.2 _), HSET.out _ GOv33.out, Lib.hid (bw_set HBv33.out HG3.out _)⟩, by simp [intOf]; omega⟩
                exact TillEach.nil
              exact TillEach.nil
            exact TillEach.nil
          exact TillEach.nil
        obtain ⟨x0, x1, x2, x3, x4⟩ := ar_facts GXu1.out
        obtain ⟨u2, hu2⟩ : ∃ u2, u2 = u1.alloc (.cells #[.int .i64 xa, .int .i64 xb, .int .i64 xc] 3) := ⟨_, rfl⟩
        have GXu2 := Lib.hid (GXu1.out.alloc (.cells #[.int .i64 xa, .int .i64 xb, .int .i64 xc] 3))
        have GOu2 := Lib.hid (GOu1.out.alloc (.cells #[.int .i64 xa, .int .i64 xb, .int .i64 xc] 3))
        have GPu2 := Lib.hid (GPu1.out.alloc (.cells #[.int .i64 xa, .int .i64 xb, .int .i64 xc] 3))
        have GRu2 := Lib.hid (GRu1.out.alloc (.cells #[.int .i64 xa, .int .i64 xb, .int .i64 xc] 3))
        have HBu2 := Lib.hid (bw_alloc HBu1.out (.cells #[.int .i64 xa, .int .i64 xb, .int .i64 xc] 3))
        have RL : Hid (Reads (u1.alloc (.cells #[.int .i64 xa, .int .i64 xb, .int .i64 xc] 3)) (u1.alloc (.cells #[.int .i64 xa, .int .i64 xb, .int .i64 xc] 3)).heap.size 1 (some ⟨u1.heap.size, 0, none⟩) 3 (ZL [xa, xb, xc])) := Lib.hid ((reads_blk (size := 1) (n := 3) (Blk.new u1 3 #[.int .i64 xa, .int .i64 xb, .int .i64 xc]) rfl).more (Nat.le_of_eq (by simp)))
        rw [← hu2] at GXu2 GOu2 GPu2 GRu2 HBu2 RL
        go_wp2_with fail
        rw [← hu2]
        refine (ptIs_any g1 Ap np cp _ 3 3 [xa, xb, xc] u2 (by decide) GPu2.out RL.out).mono ?_
        rw [show decide (∀ v ∈ [xa, xb, xc], hasP np v) = false from decide_eq_false (by simpa using hA)]
        rintro e w' ⟨rfl, hw'⟩
        replace hw' := hw'.symm
        subst hw'
        clear hu2 RL x0 x1 x2 x3 x4 GXu1 GOu1 GPu1 GRu1 HBu1
        by_cases hM : hasP np xa ∧ hasP np xb
        · obtain ⟨x0, x1, x2, x3, x4⟩ := ar_facts GXu2.out
          obtain ⟨u3, hu3⟩ : ∃ u3, u3 = u2.alloc (.cells #[.int .i64 xa, .int .i64 xb] 3) := ⟨_, rfl⟩
          have GXu3 := Lib.hid (GXu2.out.alloc (.cells #[.int .i64 xa, .int .i64 xb] 3))
          have GOu3 := Lib.hid (GOu2.out.alloc (.cells #[.int .i64 xa, .int .i64 xb] 3))
          have GPu3 := Lib.hid (GPu2.out.alloc (.cells #[.int .i64 xa, .int .i64 xb] 3))
          have GRu3 := Lib.hid (GRu2.out.alloc (.cells #[.int .i64 xa, .int .i64 xb] 3))
          have HBu3 := Lib.hid (bw_alloc HBu2.out (.cells #[.int .i64 xa, .int .i64 xb] 3))
          have RL : Hid (Reads (u2.alloc (.cells #[.int .i64 xa, .int .i64 xb] 3)) (u2.alloc (.cells #[.int .i64 xa, .int .i64 xb] 3)).heap.size 1 (some ⟨u2.heap.size, 0, none⟩) 2 (ZL [xa, xb])) := Lib.hid ((reads_blk (size := 1) (n := 2) (Blk.new u2 3 #[.int .i64 xa, .int .i64 xb]) rfl).more (Nat.le_of_eq (by simp)))
          rw [← hu3] at GXu3 GOu3 GPu3 GRu3 HBu3 RL
          go_wp2_with fail
          rw [← hu3]
          refine (ptIs_any g1 Ap np cp _ 2 2 [xa, xb] u3 (by decide) GPu3.out RL.out).mono ?_
          rw [show decide (∀ v ∈ [xa, xb], hasP np v) = true from decide_eq_true (by simpa using hM)]
          rintro e w' ⟨rfl, hw'⟩
          replace hw' := hw'.symm
          subst hw'
          clear hu3 RL x0 x1 x2 x3 x4 GXu2 GOu2 GPu2 GRu2 HBu2
          have HCM := Lib.hid hM
          have HRU : Hid (ruleOf 3 X P.length = .middle) := Lib.hid (by rw [HPL.out, HXX.out]; unfold ruleOf; rw [if_neg (fun h => hD h.2), if_neg (fun h => hA h.2), if_pos ⟨by decide, hM⟩])
          clear hM hD hA
          obtain ⟨pa, HPa⟩ : ∃ pa, Hid (pc P xa k = pa) := ⟨_, Lib.hid rfl⟩
          have HATa : Hid (∀ (W : World), Blk W g1 34 #[.slice Ap np cp] → Below w.heap.size w W → Calls Try.prog 29 #[.int .i64 xa, .int .i64 (k : Int), .pointer (some ⟨g1, 0, none⟩)] W (IntPost W pa)) := Lib.hid fun W h hb => HPa.out ▸ HAT.out xa (HCM.out.1) W h hb
          have la := pc_le P xa k
          rw [HPa.out] at la
          obtain ⟨pb, HPb⟩ : ∃ pb, Hid (pc P xb k = pb) := ⟨_, Lib.hid rfl⟩
          have HATb : Hid (∀ (W : World), Blk W g1 34 #[.slice Ap np cp] → Below w.heap.size w W → Calls Try.prog 29 #[.int .i64 xb, .int .i64 (k : Int), .pointer (some ⟨g1, 0, none⟩)] W (IntPost W pb)) := Lib.hid fun W h hb => HPb.out ▸ HAT.out xb (HCM.out.2) W h hb
          have lb := pc_le P xb k
          rw [HPb.out] at lb
          have HSET : Hid (∀ (W : World), Blk W g3 36 (outC 3 X P k) → Hid (Blk (W.setCell ⟨g3, k, none⟩ (.int .i64 (cutI (Int.tdiv (pa + pb) 2)))) g3 36 (outC 3 X P (k + 1)))) := Lib.hid fun W h => Lib.hid (by have h1 := out_set hk3 HRU.out h; rwa [show tell .middle X P k = cutI (Int.tdiv (pa + pb) 2) by rw [HXX.out]; show cutI (Int.tdiv (pc P xa k + pc P xb k) 2) = _; rw [HPa.out, HPb.out]] at h1)
          have q1 : IntKind.i64.wrap (pa + pb) = pa + pb := IntWalk.i64_in _ (by omega)
          have hh := half_le (x := pa + pb) (b := 1048576) (by omega) (by omega)
          have q9 : IntKind.i64.wrap (Int.tdiv (pa + pb) 2) = Int.tdiv (pa + pb) 2 := IntWalk.i64_in _ (by omega)
          go_upto_region 17 with (fail)
          refine wp_region_till (S := fun w' => w'.cell? ⟨g0, 0, none⟩ = some (.int .i64 xl) ∧ w'.cell? ⟨g0, 1, none⟩ = some (.int .i64 xa) ∧ w'.cell? ⟨g0, 2, none⟩ = some (.int .i64 xb) ∧ w'.cell? ⟨g0, 3, none⟩ = some (.int .i64 xc) ∧ w'.cell? ⟨g0, 4, none⟩ = some (.int .i64 xd) ∧ w'.cell? ⟨g3, k, none⟩ = some (.int .i64 q) ∧ w'.frozen? ⟨g3, k, none⟩ = false) 15 (by kernel_rfl) ⟨(ar_facts GXu3.out.drew).1, (ar_facts GXu3.out.drew).2.1, (ar_facts GXu3.out.drew).2.2.1, (ar_facts GXu3.out.drew).2.2.2.1, (ar_facts GXu3.out.drew).2.2.2.2, HQ.out ▸ (out_cell GOu3.out.drew hk3), (GOu3.out.drew.frozen k)⟩ (fun hHeld => ?_)
          refine Till.take (i := 0) (v := ?vt41) rfl (by kernel_rfl) (by kernel_rfl) (by kernel_rfl) (by kernel_rfl) (fun _ _ _ h => h) (Or.inl ⟨by rfl, ?ht41⟩) (by assumption) ?restt41
          case ht41 => (intro w hSw; (try dsimp only at hSw); go_simp; try with_reducible rfl)
          (try simp only [Act.put, List.setIfInBounds_toArray, List.set_cons_zero, List.set_cons_succ])
          refine Till.take (i := 1) (v := ?vt42) rfl (by kernel_rfl) (by kernel_rfl) (by kernel_rfl) (by kernel_rfl) (fun _ _ _ h => h) (Or.inl ⟨by rfl, ?ht42⟩) (by assumption) ?restt42
          case ht42 => (intro w hSw; (try dsimp only at hSw); go_simp; try with_reducible rfl)
          (try simp only [Act.put, List.setIfInBounds_toArray, List.set_cons_zero, List.set_cons_succ])
          refine Till.take (i := 2) (v := ?vt43) rfl (by kernel_rfl) (by kernel_rfl) (by kernel_rfl) (by kernel_rfl) (fun _ _ _ h => h) (Or.inl ⟨by rfl, ?ht43⟩) (by assumption) ?restt43
          case ht43 => (intro w hSw; (try dsimp only at hSw); go_simp; try with_reducible rfl)
          (try simp only [Act.put, List.setIfInBounds_toArray, List.set_cons_zero, List.set_cons_succ])
          refine Till.take (i := 3) (v := ?vt44) rfl (by kernel_rfl) (by kernel_rfl) (by kernel_rfl) (by kernel_rfl) (fun _ _ _ h => h) (Or.inl ⟨by rfl, ?ht44⟩) (by assumption) ?restt44
          case ht44 => (intro w hSw; (try dsimp only at hSw); go_simp; try with_reducible rfl)
          (try simp only [Act.put, List.setIfInBounds_toArray, List.set_cons_zero, List.set_cons_succ])
          refine Till.take (i := 4) (v := ?vt45) rfl (by kernel_rfl) (by kernel_rfl) (by kernel_rfl) (by kernel_rfl) (fun _ _ _ h => h) (Or.inl ⟨by rfl, ?ht45⟩) (by assumption) ?restt45
          case ht45 => (intro w hSw; (try dsimp only at hSw); go_simp; try with_reducible rfl)
          (try simp only [Act.put, List.setIfInBounds_toArray, List.set_cons_zero, List.set_cons_succ])
          refine Till.take (i := 6) (v := ?vt46) rfl (by kernel_rfl) (by kernel_rfl) (by kernel_rfl) (by kernel_rfl) (fun _ _ _ h => h) (Or.inl ⟨by rfl, ?ht46⟩) (by assumption) ?restt46
          case ht46 => (intro w hSw; (try dsimp only at hSw); go_simp; try with_reducible rfl)
          (try simp only [Act.put, List.setIfInBounds_toArray, List.set_cons_zero, List.set_cons_succ])
          refine Till.take (i := 7) (v := ?vt47) rfl (by kernel_rfl) (by kernel_rfl) (by kernel_rfl) (by kernel_rfl) (fun _ _ _ h => h) (Or.inl ⟨by rfl, ?ht47⟩) (by assumption) ?restt47
          case ht47 => (intro w hSw; (try dsimp only at hSw); go_simp; try with_reducible rfl)
          (try simp only [Act.put, List.setIfInBounds_toArray, List.set_cons_zero, List.set_cons_succ])
          refine Till.take (i := 8) (v := ?vt48) rfl (by kernel_rfl) (by kernel_rfl) (by kernel_rfl) (by kernel_rfl) (fun _ _ _ h => h) (Or.inl ⟨by rfl, ?ht48⟩) (by assumption) ?restt48
          case ht48 => (intro w hSw; (try dsimp only at hSw); go_simp; try with_reducible rfl)
          (try simp only [Act.put, List.setIfInBounds_toArray, List.set_cons_zero, List.set_cons_succ])
          refine Till.take (i := 9) (v := ?vt49) rfl (by kernel_rfl) (by kernel_rfl) (by kernel_rfl) (by kernel_rfl) (fun _ _ _ h => h) (Or.inl ⟨by rfl, ?ht49⟩) (by assumption) ?restt49
          case ht49 => (intro w hSw; (try dsimp only at hSw); go_simp; try with_reducible rfl)
          (try simp only [Act.put, List.setIfInBounds_toArray, List.set_cons_zero, List.set_cons_succ])
          refine Till.ready (rs := [5]) (by kernel_rfl) (by simp) ?_
          refine TillEach.cons rfl (fun K hK => ?_) ?_
          · go_simp
            go_wp2_with (go_at_call 29; refine (HATa.out u3.drew GPu3.out.drew (bw_drew HBu3.out)).mono ?_; rintro e v30 ⟨rfl, hb⟩)
            have GXv30 := Lib.hid (blk_call GXu3.out.drew hb)
            have GOv30 := Lib.hid (blk_call GOu3.out.drew hb)
            have GPv30 := Lib.hid (blk_call GPu3.out.drew hb)
            have GRv30 := Lib.hid (blk_call GRu3.out.drew hb)
            have HBv30 := Lib.hid (bw_call (bw_drew HBu3.out) hb)
            clear hb
            refine hK.out _ _ ?_ (fun hHeld => ?_)
            · exact ⟨(ar_facts GXv30.out).1, (ar_facts GXv30.out).2.1, (ar_facts GXv30.out).2.2.1, (ar_facts GXv30.out).2.2.2.1, (ar_facts GXv30.out).2.2.2.2, HQ.out ▸ (out_cell GOv30.out hk3), (GOv30.out.frozen k)⟩
            clear hK K
            (try simp only [Act.put, List.setIfInBounds_toArray, List.set_cons_zero, List.set_cons_succ])
            refine Till.ready (rs := [10]) (by kernel_rfl) (by simp) ?_
            refine TillEach.cons rfl (fun K hK => ?_) ?_
            · go_simp
              go_wp2_with (go_at_call 29; refine (HATb.out v30 GPv30.out HBv30.out).mono ?_; rintro e v31 ⟨rfl, hb⟩)
              have GXv31 := Lib.hid (blk_call GXv30.out hb)
              have GOv31 := Lib.hid (blk_call GOv30.out hb)
              have GPv31 := Lib.hid (blk_call GPv30.out hb)
              have GRv31 := Lib.hid (blk_call GRv30.out hb)
              have HBv31 := Lib.hid (bw_call HBv30.out hb)
              clear hb GXv30 GOv30 GPv30 GRv30 HBv30
              refine hK.out _ _ ?_ (fun hHeld => ?_)
              · exact ⟨(ar_facts GXv31.out).1, (ar_facts GXv31.out).2.1, (ar_facts GXv31.out).2.2.1, (ar_facts GXv31.out).2.2.2.1, (ar_facts GXv31.out).2.2.2.2, HQ.out ▸ (out_cell GOv31.out hk3), (GOv31.out.frozen k)⟩
              clear hK K
              (try simp only [Act.put, List.setIfInBounds_toArray, List.set_cons_zero, List.set_cons_succ])
              refine Till.take (i := 11) (v := ?vt50) rfl (by kernel_rfl) (by kernel_rfl) (by kernel_rfl) (by kernel_rfl) (fun _ _ _ h => h) (Or.inl ⟨by rfl, ?ht50⟩) (by assumption) ?restt50
              case ht50 => (intro w hSw; (try dsimp only at hSw); go_simp; try with_reducible rfl)
              (try simp only [Act.put, List.setIfInBounds_toArray, List.set_cons_zero, List.set_cons_succ])
              refine Till.take (i := 12) (v := ?vt51) rfl (by kernel_rfl) (by kernel_rfl) (by kernel_rfl) (by kernel_rfl) (fun _ _ _ h => h) (Or.inl ⟨by rfl, ?ht51⟩) (by assumption) ?restt51
              case ht51 => (intro w hSw; (try dsimp only at hSw); go_simp; try with_reducible rfl)
              (try simp only [Act.put, List.setIfInBounds_toArray, List.set_cons_zero, List.set_cons_succ])
              refine Till.ready (rs := [13]) (by kernel_rfl) (by simp) ?_
              refine TillEach.cons rfl (fun K hK => ?_) ?_
              · go_simp
                go_wp2_with (go_at_call 30; refine (cutB_any _ v31).mono ?_; rintro e v32 ⟨rfl, hb⟩)
                have GXv32 := Lib.hid (blk_call GXv31.out hb)
                have GOv32 := Lib.hid (blk_call GOv31.out hb)
                have GPv32 := Lib.hid (blk_call GPv31.out hb)
                have GRv32 := Lib.hid (blk_call GRv31.out hb)
                have HBv32 := Lib.hid (bw_call HBv31.out hb)
                clear hb GXv31 GOv31 GPv31 GRv31 HBv31
                refine hK.out _ _ ?_ (fun hHeld => ?_)
                · exact ⟨(ar_facts GXv32.out).1, (ar_facts GXv32.out).2.1, (ar_facts GXv32.out).2.2.1, (ar_facts GXv32.out).2.2.2.1, (ar_facts GXv32.out).2.2.2.2, HQ.out ▸ (out_cell GOv32.out hk3), (GOv32.out.frozen k)⟩
                clear hK K
                (try simp only [Act.put, List.setIfInBounds_toArray, List.set_cons_zero, List.set_cons_succ])
                refine Till.take (i := 14) (v := ?vt52) rfl (by kernel_rfl) (by kernel_rfl) (by kernel_rfl) (by kernel_rfl) (fun _ _ _ h => h) (Or.inl ⟨by rfl, ?ht52⟩) (by assumption) ?restt52
                case ht52 => (intro w hSw; (try dsimp only at hSw); go_simp; try with_reducible rfl)
                (try simp only [Act.put, List.setIfInBounds_toArray, List.set_cons_zero, List.set_cons_succ])
                refine Till.ready (rs := [15]) (by kernel_rfl) (by simp) ?_
                refine TillEach.last rfl (fun K hK => ?_)
                · go_simp
                  refine hK.out _ _ ?_
                  clear hK K
                  (try simp only [Act.put, List.setIfInBounds_toArray, List.set_cons_zero, List.set_cons_succ])
                  refine Till.done (by kernel_rfl) ?_ _
                  go_wp2_with fail
                  exact ⟨⟨k + 1, by omega, by go_num, Lib.hid (GXv32.out.far HN.out.1 _), Lib.hid (GPv32.out.far HN.out.2.1 _), Lib.hid (GRv32.out.far HN.out.2.2 _), HSET.out _ GOv32.out, Lib.hid (bw_set HBv32.out HG3.out _)⟩, by simp [intOf]; omega⟩
              exact TillEach.nil
            exact TillEach.nil
          exact TillEach.nil
        obtain ⟨x0, x1, x2, x3, x4⟩ := ar_facts GXu2.out
        obtain ⟨u3, hu3⟩ : ∃ u3, u3 = u2.alloc (.cells #[.int .i64 xa, .int .i64 xb] 3) := ⟨_, rfl⟩
        have GXu3 := Lib.hid (GXu2.out.alloc (.cells #[.int .i64 xa, .int .i64 xb] 3))
        have GOu3 := Lib.hid (GOu2.out.alloc (.cells #[.int .i64 xa, .int .i64 xb] 3))
        have GPu3 := Lib.hid (GPu2.out.alloc (.cells #[.int .i64 xa, .int .i64 xb] 3))
        have GRu3 := Lib.hid (GRu2.out.alloc (.cells #[.int .i64 xa, .int .i64 xb] 3))
        have HBu3 := Lib.hid (bw_alloc HBu2.out (.cells #[.int .i64 xa, .int .i64 xb] 3))
        have RL : Hid (Reads (u2.alloc (.cells #[.int .i64 xa, .int .i64 xb] 3)) (u2.alloc (.cells #[.int .i64 xa, .int .i64 xb] 3)).heap.size 1 (some ⟨u2.heap.size, 0, none⟩) 2 (ZL [xa, xb])) := Lib.hid ((reads_blk (size := 1) (n := 2) (Blk.new u2 3 #[.int .i64 xa, .int .i64 xb]) rfl).more (Nat.le_of_eq (by simp)))
        rw [← hu3] at GXu3 GOu3 GPu3 GRu3 HBu3 RL
        go_wp2_with fail
        rw [← hu3]
        refine (ptIs_any g1 Ap np cp _ 2 2 [xa, xb] u3 (by decide) GPu3.out RL.out).mono ?_
        rw [show decide (∀ v ∈ [xa, xb], hasP np v) = false from decide_eq_false (by simpa using hM)]
        rintro e w' ⟨rfl, hw'⟩
        replace hw' := hw'.symm
        subst hw'
        clear hu3 RL x0 x1 x2 x3 x4 GXu2 GOu2 GPu2 GRu2 HBu2
        by_cases hL : hasP np xl
        · obtain ⟨x0, x1, x2, x3, x4⟩ := ar_facts GXu3.out
          obtain ⟨u4, hu4⟩ : ∃ u4, u4 = u3.alloc (.cells #[.int .i64 xl] 3) := ⟨_, rfl⟩
          have GXu4 := Lib.hid (GXu3.out.alloc (.cells #[.int .i64 xl] 3))
          have GOu4 := Lib.hid (GOu3.out.alloc (.cells #[.int .i64 xl] 3))
          have GPu4 := Lib.hid (GPu3.out.alloc (.cells #[.int .i64 xl] 3))
          have GRu4 := Lib.hid (GRu3.out.alloc (.cells #[.int .i64 xl] 3))
          have HBu4 := Lib.hid (bw_alloc HBu3.out (.cells #[.int .i64 xl] 3))
          have RL : Hid (Reads (u3.alloc (.cells #[.int .i64 xl] 3)) (u3.alloc (.cells #[.int .i64 xl] 3)).heap.size 1 (some ⟨u3.heap.size, 0, none⟩) 1 (ZL [xl])) := Lib.hid ((reads_blk (size := 1) (n := 1) (Blk.new u3 3 #[.int .i64 xl]) rfl).more (Nat.le_of_eq (by simp)))
          rw [← hu4] at GXu4 GOu4 GPu4 GRu4 HBu4 RL
          go_wp2_with fail
          rw [← hu4]
          refine (ptIs_any g1 Ap np cp _ 1 1 [xl] u4 (by decide) GPu4.out RL.out).mono ?_
          rw [show decide (∀ v ∈ [xl], hasP np v) = true from decide_eq_true (by simpa using hL)]
          rintro e w' ⟨rfl, hw'⟩
          replace hw' := hw'.symm
          subst hw'
          clear hu4 RL x0 x1 x2 x3 x4 GXu3 GOu3 GPu3 GRu3 HBu3
          have HCL := Lib.hid hL
          have HRU : Hid (ruleOf 3 X P.length = .last) := Lib.hid (by rw [HPL.out, HXX.out]; unfold ruleOf; rw [if_neg (fun h => hD h.2), if_neg (fun h => hA h.2), if_neg (fun h => hM h.2), if_pos ⟨by decide, hL⟩])
          clear hL hD hA hM
          have HSET : Hid (∀ (W : World), Blk W g3 36 (outC 3 X P k) → Hid (Blk (W.setCell ⟨g3, k, none⟩ (.int .i64 (pc P xl k))) g3 36 (outC 3 X P (k + 1)))) := Lib.hid fun W h => Lib.hid (by have h1 := out_set hk3 HRU.out h; rwa [show tell .last X P k = pc P xl k by rw [HXX.out]; show pc P xl k = _; rfl] at h1)
          obtain ⟨x0, x1, x2, x3, x4⟩ := ar_facts GXu4.out
          have y0 := HQ.out ▸ (out_cell GOu4.out hk3)
          have f0 := GOu4.out.frozen k
          go_wp2_with fail
          refine (HAT.out xl HCL.out u4 GPu4.out HBu4.out).mono ?_
          rintro e v30 ⟨rfl, hb⟩
          have GXv30 := Lib.hid (blk_call GXu4.out hb)
          have GOv30 := Lib.hid (blk_call GOu4.out hb)
          have GPv30 := Lib.hid (blk_call GPu4.out hb)
          have GRv30 := Lib.hid (blk_call GRu4.out hb)
          have HBv30 := Lib.hid (bw_call HBu4.out hb)
          clear hb x0 x1 x2 x3 x4 y0 f0 GXu4 GOu4 GPu4 GRu4 HBu4
          have y0 := HQ.out ▸ (out_cell GOv30.out hk3)
          have f0 := GOv30.out.frozen k
          go_wp2_with fail
          exact ⟨⟨k + 1, by omega, by go_num, Lib.hid (GXv30.out.far HN.out.1 _), Lib.hid (GPv30.out.far HN.out.2.1 _), Lib.hid (GRv30.out.far HN.out.2.2 _), HSET.out _ GOv30.out, Lib.hid (bw_set HBv30.out HG3.out _)⟩, by simp [intOf]; omega⟩
        obtain ⟨x0, x1, x2, x3, x4⟩ := ar_facts GXu3.out
        obtain ⟨u4, hu4⟩ : ∃ u4, u4 = u3.alloc (.cells #[.int .i64 xl] 3) := ⟨_, rfl⟩
        have GXu4 := Lib.hid (GXu3.out.alloc (.cells #[.int .i64 xl] 3))
        have GOu4 := Lib.hid (GOu3.out.alloc (.cells #[.int .i64 xl] 3))
        have GPu4 := Lib.hid (GPu3.out.alloc (.cells #[.int .i64 xl] 3))
        have GRu4 := Lib.hid (GRu3.out.alloc (.cells #[.int .i64 xl] 3))
        have HBu4 := Lib.hid (bw_alloc HBu3.out (.cells #[.int .i64 xl] 3))
        have RL : Hid (Reads (u3.alloc (.cells #[.int .i64 xl] 3)) (u3.alloc (.cells #[.int .i64 xl] 3)).heap.size 1 (some ⟨u3.heap.size, 0, none⟩) 1 (ZL [xl])) := Lib.hid ((reads_blk (size := 1) (n := 1) (Blk.new u3 3 #[.int .i64 xl]) rfl).more (Nat.le_of_eq (by simp)))
        rw [← hu4] at GXu4 GOu4 GPu4 GRu4 HBu4 RL
        go_wp2_with fail
        rw [← hu4]
        refine (ptIs_any g1 Ap np cp _ 1 1 [xl] u4 (by decide) GPu4.out RL.out).mono ?_
        rw [show decide (∀ v ∈ [xl], hasP np v) = false from decide_eq_false (by simpa using hL)]
        rintro e w' ⟨rfl, hw'⟩
        replace hw' := hw'.symm
        subst hw'
        clear hu4 RL x0 x1 x2 x3 x4 GXu3 GOu3 GPu3 GRu3 HBu3
        have HRU : Hid (ruleOf 3 X np = .none) := Lib.hid (by rw [HXX.out]; unfold ruleOf; rw [if_neg (fun h => hD h.2), if_neg (fun h => hA h.2), if_neg (fun h => hM h.2), if_neg (fun h => hL h.2)])
        have HSN := Lib.hid (fun (W : World) (h : Blk W g3 36 (outC 3 X P k)) => out_none hk3 (by rw [HPL.out]; exact HRU.out) h)
        go_wp2_with fail
        exact ⟨⟨k + 1, by omega, by go_num, GXu4, GPu4, GRu4, Lib.hid (HSN.out _ GOu4.out), HBu4⟩, by simp [intOf]; omega⟩
      by_cases hkd2 : kd = 2
      · subst hkd2
        by_cases hA : hasP np xa ∧ hasP np xb ∧ hasP np xc
        · obtain ⟨x0, x1, x2, x3, x4⟩ := ar_facts GXwB.out
          obtain ⟨u5, hu5⟩ : ∃ u5, u5 = wB.alloc (.cells #[.int .i64 xa, .int .i64 xb, .int .i64 xc] 3) := ⟨_, rfl⟩
          have GXu5 := Lib.hid (GXwB.out.alloc (.cells #[.int .i64 xa, .int .i64 xb, .int .i64 xc] 3))
          have GOu5 := Lib.hid (GOwB.out.alloc (.cells #[.int .i64 xa, .int .i64 xb, .int .i64 xc] 3))
          have GPu5 := Lib.hid (GPwB.out.alloc (.cells #[.int .i64 xa, .int .i64 xb, .int .i64 xc] 3))
          have GRu5 := Lib.hid (GRwB.out.alloc (.cells #[.int .i64 xa, .int .i64 xb, .int .i64 xc] 3))
          have HBu5 := Lib.hid (bw_alloc HBwB.out (.cells #[.int .i64 xa, .int .i64 xb, .int .i64 xc] 3))
          have RL : Hid (Reads (wB.alloc (.cells #[.int .i64 xa, .int .i64 xb, .int .i64 xc] 3)) (wB.alloc (.cells #[.int .i64 xa, .int .i64 xb, .int .i64 xc] 3)).heap.size 1 (some ⟨wB.heap.size, 0, none⟩) 3 (ZL [xa, xb, xc])) := Lib.hid ((reads_blk (size := 1) (n := 3) (Blk.new wB 3 #[.int .i64 xa, .int .i64 xb, .int .i64 xc]) rfl).more (Nat.le_of_eq (by simp)))
          rw [← hu5] at GXu5 GOu5 GPu5 GRu5 HBu5 RL
          go_wp2_with fail
          rw [← hu5]
          refine (ptIs_any g1 Ap np cp _ 3 3 [xa, xb, xc] u5 (by decide) GPu5.out RL.out).mono ?_
          rw [show decide (∀ v ∈ [xa, xb, xc], hasP np v) = true from decide_eq_true (by simpa using hA)]
          rintro e w' ⟨rfl, hw'⟩
          replace hw' := hw'.symm
          subst hw'
          clear hu5 RL x0 x1 x2 x3 x4 GXwB GOwB GPwB GRwB HBwB
          have HCA := Lib.hid hA
          have HRU : Hid (ruleOf 2 X P.length = .across) := Lib.hid (by rw [HPL.out, HXX.out]; unfold ruleOf; rw [if_neg (fun h => absurd h.1 (by decide)), if_pos ⟨by decide, hA⟩])
          clear hA
          obtain ⟨pa, HPa⟩ : ∃ pa, Hid (pc P xa k = pa) := ⟨_, Lib.hid rfl⟩
          have HATa : Hid (∀ (W : World), Blk W g1 34 #[.slice Ap np cp] → Below w.heap.size w W → Calls Try.prog 29 #[.int .i64 xa, .int .i64 (k : Int), .pointer (some ⟨g1, 0, none⟩)] W (IntPost W pa)) := Lib.hid fun W h hb => HPa.out ▸ HAT.out xa (HCA.out.1) W h hb
          have la := pc_le P xa k
          rw [HPa.out] at la
          obtain ⟨pb, HPb⟩ : ∃ pb, Hid (pc P xb k = pb) := ⟨_, Lib.hid rfl⟩
          have HATb : Hid (∀ (W : World), Blk W g1 34 #[.slice Ap np cp] → Below w.heap.size w W → Calls Try.prog 29 #[.int .i64 xb, .int .i64 (k : Int), .pointer (some ⟨g1, 0, none⟩)] W (IntPost W pb)) := Lib.hid fun W h hb => HPb.out ▸ HAT.out xb (HCA.out.2.1) W h hb
          have lb := pc_le P xb k
          rw [HPb.out] at lb
          obtain ⟨pcc, HPc⟩ : ∃ pcc, Hid (pc P xc k = pcc) := ⟨_, Lib.hid rfl⟩
          have HATc : Hid (∀ (W : World), Blk W g1 34 #[.slice Ap np cp] → Below w.heap.size w W → Calls Try.prog 29 #[.int .i64 xc, .int .i64 (k : Int), .pointer (some ⟨g1, 0, none⟩)] W (IntPost W pcc)) := Lib.hid fun W h hb => HPc.out ▸ HAT.out xc (HCA.out.2.2) W h hb
          have lc := pc_le P xc k
          rw [HPc.out] at lc
          have HSET : Hid (∀ (W : World), Blk W g3 36 (outC 2 X P k) → Hid (Blk (W.setCell ⟨g3, k, none⟩ (.int .i64 (cutI (pa + pb - pcc)))) g3 36 (outC 2 X P (k + 1)))) := Lib.hid fun W h => Lib.hid (by have h1 := out_set hk3 HRU.out h; rwa [show tell .across X P k = cutI (pa + pb - pcc) by rw [HXX.out]; show cutI (pc P xa k + pc P xb k - pc P xc k) = _; rw [HPa.out, HPb.out, HPc.out]] at h1)
          have q1 : IntKind.i64.wrap (pa + pb) = pa + pb := IntWalk.i64_in _ (by omega)
          have q2 : IntKind.i64.wrap (pa + pb - pcc) = pa + pb - pcc := IntWalk.i64_in _ (by omega)
          go_upto_region 15 with (fail)
          refine wp_region_till (S := fun w' => w'.cell? ⟨g0, 0, none⟩ = some (.int .i64 xl) ∧ w'.cell? ⟨g0, 1, none⟩ = some (.int .i64 xa) ∧ w'.cell? ⟨g0, 2, none⟩ = some (.int .i64 xb) ∧ w'.cell? ⟨g0, 3, none⟩ = some (.int .i64 xc) ∧ w'.cell? ⟨g0, 4, none⟩ = some (.int .i64 xd) ∧ w'.cell? ⟨g3, k, none⟩ = some (.int .i64 q) ∧ w'.frozen? ⟨g3, k, none⟩ = false) 20 (by kernel_rfl) ⟨(ar_facts GXu5.out.drew).1, (ar_facts GXu5.out.drew).2.1, (ar_facts GXu5.out.drew).2.2.1, (ar_facts GXu5.out.drew).2.2.2.1, (ar_facts GXu5.out.drew).2.2.2.2, HQ.out ▸ (out_cell GOu5.out.drew hk3), (GOu5.out.drew.frozen k)⟩ (fun hHeld => ?_)
          refine Till.take (i := 0) (v := ?vt53) rfl (by kernel_rfl) (by kernel_rfl) (by kernel_rfl) (by kernel_rfl) (fun _ _ _ h => h) (Or.inl ⟨by rfl, ?ht53⟩) (by assumption) ?restt53
          case ht53 => (intro w hSw; (try dsimp only at hSw); go_simp; try with_reducible rfl)
          (try simp only [Act.put, List.setIfInBounds_toArray, List.set_cons_zero, List.set_cons_succ])
          refine Till.take (i := 1) (v := ?vt54) rfl (by kernel_rfl) (by kernel_rfl) (by kernel_rfl) (by kernel_rfl) (fun _ _ _ h => h) (Or.inl ⟨by rfl, ?ht54⟩) (by assumption) ?restt54
          case ht54 => (intro w hSw; (try dsimp only at hSw); go_simp; try with_reducible rfl)
          (try simp only [Act.put, List.setIfInBounds_toArray, List.set_cons_zero, List.set_cons_succ])
          refine Till.take (i := 2) (v := ?vt55) rfl (by kernel_rfl) (by kernel_rfl) (by kernel_rfl) (by kernel_rfl) (fun _ _ _ h => h) (Or.inl ⟨by rfl, ?ht55⟩) (by assumption) ?restt55
          case ht55 => (intro w hSw; (try dsimp only at hSw); go_simp; try with_reducible rfl)
          (try simp only [Act.put, List.setIfInBounds_toArray, List.set_cons_zero, List.set_cons_succ])
          refine Till.take (i := 3) (v := ?vt56) rfl (by kernel_rfl) (by kernel_rfl) (by kernel_rfl) (by kernel_rfl) (fun _ _ _ h => h) (Or.inl ⟨by rfl, ?ht56⟩) (by assumption) ?restt56
          case ht56 => (intro w hSw; (try dsimp only at hSw); go_simp; try with_reducible rfl)
          (try simp only [Act.put, List.setIfInBounds_toArray, List.set_cons_zero, List.set_cons_succ])
          refine Till.take (i := 4) (v := ?vt57) rfl (by kernel_rfl) (by kernel_rfl) (by kernel_rfl) (by kernel_rfl) (fun _ _ _ h => h) (Or.inl ⟨by rfl, ?ht57⟩) (by assumption) ?restt57
          case ht57 => (intro w hSw; (try dsimp only at hSw); go_simp; try with_reducible rfl)
          (try simp only [Act.put, List.setIfInBounds_toArray, List.set_cons_zero, List.set_cons_succ])
          refine Till.take (i := 6) (v := ?vt58) rfl (by kernel_rfl) (by kernel_rfl) (by kernel_rfl) (by kernel_rfl) (fun _ _ _ h => h) (Or.inl ⟨by rfl, ?ht58⟩) (by assumption) ?restt58
          case ht58 => (intro w hSw; (try dsimp only at hSw); go_simp; try with_reducible rfl)
          (try simp only [Act.put, List.setIfInBounds_toArray, List.set_cons_zero, List.set_cons_succ])
          refine Till.take (i := 7) (v := ?vt59) rfl (by kernel_rfl) (by kernel_rfl) (by kernel_rfl) (by kernel_rfl) (fun _ _ _ h => h) (Or.inl ⟨by rfl, ?ht59⟩) (by assumption) ?restt59
          case ht59 => (intro w hSw; (try dsimp only at hSw); go_simp; try with_reducible rfl)
          (try simp only [Act.put, List.setIfInBounds_toArray, List.set_cons_zero, List.set_cons_succ])
          refine Till.take (i := 8) (v := ?vt60) rfl (by kernel_rfl) (by kernel_rfl) (by kernel_rfl) (by kernel_rfl) (fun _ _ _ h => h) (Or.inl ⟨by rfl, ?ht60⟩) (by assumption) ?restt60
          case ht60 => (intro w hSw; (try dsimp only at hSw); go_simp; try with_reducible rfl)
          (try simp only [Act.put, List.setIfInBounds_toArray, List.set_cons_zero, List.set_cons_succ])
          refine Till.take (i := 9) (v := ?vt61) rfl (by kernel_rfl) (by kernel_rfl) (by kernel_rfl) (by kernel_rfl) (fun _ _ _ h => h) (Or.inl ⟨by rfl, ?ht61⟩) (by assumption) ?restt61
          case ht61 => (intro w hSw; (try dsimp only at hSw); go_simp; try with_reducible rfl)
          (try simp only [Act.put, List.setIfInBounds_toArray, List.set_cons_zero, List.set_cons_succ])
          refine Till.take (i := 12) (v := ?vt62) rfl (by kernel_rfl) (by kernel_rfl) (by kernel_rfl) (by kernel_rfl) (fun _ _ _ h => h) (Or.inl ⟨by rfl, ?ht62⟩) (by assumption) ?restt62
          case ht62 => (intro w hSw; (try dsimp only at hSw); go_simp; try with_reducible rfl)
          (try simp only [Act.put, List.setIfInBounds_toArray, List.set_cons_zero, List.set_cons_succ])
          refine Till.take (i := 13) (v := ?vt63) rfl (by kernel_rfl) (by kernel_rfl) (by kernel_rfl) (by kernel_rfl) (fun _ _ _ h => h) (Or.inl ⟨by rfl, ?ht63⟩) (by assumption) ?restt63
          case ht63 => (intro w hSw; (try dsimp only at hSw); go_simp; try with_reducible rfl)
          (try simp only [Act.put, List.setIfInBounds_toArray, List.set_cons_zero, List.set_cons_succ])
          refine Till.take (i := 14) (v := ?vt64) rfl (by kernel_rfl) (by kernel_rfl) (by kernel_rfl) (by kernel_rfl) (fun _ _ _ h => h) (Or.inl ⟨by rfl, ?ht64⟩) (by assumption) ?restt64
          case ht64 => (intro w hSw; (try dsimp only at hSw); go_simp; try with_reducible rfl)
          (try simp only [Act.put, List.setIfInBounds_toArray, List.set_cons_zero, List.set_cons_succ])
          refine Till.take (i := 15) (v := ?vt65) rfl (by kernel_rfl) (by kernel_rfl) (by kernel_rfl) (by kernel_rfl) (fun _ _ _ h => h) (Or.inl ⟨by rfl, ?ht65⟩) (by assumption) ?restt65
          case ht65 => (intro w hSw; (try dsimp only at hSw); go_simp; try with_reducible rfl)
          (try simp only [Act.put, List.setIfInBounds_toArray, List.set_cons_zero, List.set_cons_succ])
          refine Till.ready (rs := [5]) (by kernel_rfl) (by simp) ?_
          refine TillEach.cons rfl (fun K hK => ?_) ?_
          · go_simp
            go_wp2_with (go_at_call 29; refine (HATa.out u5.drew GPu5.out.drew (bw_drew HBu5.out)).mono ?_; rintro e v30 ⟨rfl, hb⟩)
            have GXv30 := Lib.hid (blk_call GXu5.out.drew hb)
            have GOv30 := Lib.hid (blk_call GOu5.out.drew hb)
            have GPv30 := Lib.hid (blk_call GPu5.out.drew hb)
            have GRv30 := Lib.hid (blk_call GRu5.out.drew hb)
            have HBv30 := Lib.hid (bw_call (bw_drew HBu5.out) hb)
            clear hb
            refine hK.out _ _ ?_ (fun hHeld => ?_)
            · exact ⟨(ar_facts GXv30.out).1, (ar_facts GXv30.out).2.1, (ar_facts GXv30.out).2.2.1, (ar_facts GXv30.out).2.2.2.1, (ar_facts GXv30.out).2.2.2.2, HQ.out ▸ (out_cell GOv30.out hk3), (GOv30.out.frozen k)⟩
            clear hK K
            (try simp only [Act.put, List.setIfInBounds_toArray, List.set_cons_zero, List.set_cons_succ])
            refine Till.ready (rs := [10]) (by kernel_rfl) (by simp) ?_
            refine TillEach.cons rfl (fun K hK => ?_) ?_
            · go_simp
              go_wp2_with (go_at_call 29; refine (HATb.out v30 GPv30.out HBv30.out).mono ?_; rintro e v31 ⟨rfl, hb⟩)
              have GXv31 := Lib.hid (blk_call GXv30.out hb)
              have GOv31 := Lib.hid (blk_call GOv30.out hb)
              have GPv31 := Lib.hid (blk_call GPv30.out hb)
              have GRv31 := Lib.hid (blk_call GRv30.out hb)
              have HBv31 := Lib.hid (bw_call HBv30.out hb)
              clear hb GXv30 GOv30 GPv30 GRv30 HBv30
              refine hK.out _ _ ?_ (fun hHeld => ?_)
              · exact ⟨(ar_facts GXv31.out).1, (ar_facts GXv31.out).2.1, (ar_facts GXv31.out).2.2.1, (ar_facts GXv31.out).2.2.2.1, (ar_facts GXv31.out).2.2.2.2, HQ.out ▸ (out_cell GOv31.out hk3), (GOv31.out.frozen k)⟩
              clear hK K
              (try simp only [Act.put, List.setIfInBounds_toArray, List.set_cons_zero, List.set_cons_succ])
              refine Till.take (i := 11) (v := ?vt66) rfl (by kernel_rfl) (by kernel_rfl) (by kernel_rfl) (by kernel_rfl) (fun _ _ _ h => h) (Or.inl ⟨by rfl, ?ht66⟩) (by assumption) ?restt66
              case ht66 => (intro w hSw; (try dsimp only at hSw); go_simp; try with_reducible rfl)
              (try simp only [Act.put, List.setIfInBounds_toArray, List.set_cons_zero, List.set_cons_succ])
              refine Till.ready (rs := [16]) (by kernel_rfl) (by simp) ?_
              refine TillEach.cons rfl (fun K hK => ?_) ?_
              · go_simp
                go_wp2_with (go_at_call 29; refine (HATc.out v31 GPv31.out HBv31.out).mono ?_; rintro e v32 ⟨rfl, hb⟩)
                have GXv32 := Lib.hid (blk_call GXv31.out hb)
                have GOv32 := Lib.hid (blk_call GOv31.out hb)
                have GPv32 := Lib.hid (blk_call GPv31.out hb)
                have GRv32 := Lib.hid (blk_call GRv31.out hb)
                have HBv32 := Lib.hid (bw_call HBv31.out hb)
                clear hb GXv31 GOv31 GPv31 GRv31 HBv31
                refine hK.out _ _ ?_ (fun hHeld => ?_)
                · exact ⟨(ar_facts GXv32.out).1, (ar_facts GXv32.out).2.1, (ar_facts GXv32.out).2.2.1, (ar_facts GXv32.out).2.2.2.1, (ar_facts GXv32.out).2.2.2.2, HQ.out ▸ (out_cell GOv32.out hk3), (GOv32.out.frozen k)⟩
                clear hK K
                (try simp only [Act.put, List.setIfInBounds_toArray, List.set_cons_zero, List.set_cons_succ])
                refine Till.take (i := 17) (v := ?vt67) rfl (by kernel_rfl) (by kernel_rfl) (by kernel_rfl) (by kernel_rfl) (fun _ _ _ h => h) (Or.inl ⟨by rfl, ?ht67⟩) (by assumption) ?restt67
                case ht67 => (intro w hSw; (try dsimp only at hSw); go_simp; try with_reducible rfl)
                (try simp only [Act.put, List.setIfInBounds_toArray, List.set_cons_zero, List.set_cons_succ])
                refine Till.ready (rs := [18]) (by kernel_rfl) (by simp) ?_
                refine TillEach.cons rfl (fun K hK => ?_) ?_
                · go_simp
                  go_wp2_with (go_at_call 30; refine (cutB_any _ v32).mono ?_; rintro e v33 ⟨rfl, hb⟩)
                  have GXv33 := Lib.hid (blk_call GXv32.out hb)
                  have GOv33 := Lib.hid (blk_call GOv32.out hb)
                  have GPv33 := Lib.hid (blk_call GPv32.out hb)
                  have GRv33 := Lib.hid (blk_call GRv32.out hb)
                  have HBv33 := Lib.hid (bw_call HBv32.out hb)
                  clear hb GXv32 GOv32 GPv32 GRv32 HBv32
                  refine hK.out _ _ ?_ (fun hHeld => ?_)
                  · exact ⟨(ar_facts GXv33.out).1, (ar_facts GXv33.out).2.1, (ar_facts GXv33.out).2.2.1, (ar_facts GXv33.out).2.2.2.1, (ar_facts GXv33.out).2.2.2.2, HQ.out ▸ (out_cell GOv33.out hk3), (GOv33.out.frozen k)⟩
                  clear hK K
                  (try simp only [Act.put, List.setIfInBounds_toArray, List.set_cons_zero, List.set_cons_succ])
                  refine Till.take (i := 19) (v := ?vt68) rfl (by kernel_rfl) (by kernel_rfl) (by kernel_rfl) (by kernel_rfl) (fun _ _ _ h => h) (Or.inl ⟨by rfl, ?ht68⟩) (by assumption) ?restt68
                  case ht68 => (intro w hSw; (try dsimp only at hSw); go_simp; try with_reducible rfl)
                  (try simp only [Act.put, List.setIfInBounds_toArray, List.set_cons_zero, List.set_cons_succ])
                  refine Till.ready (rs := [20]) (by kernel_rfl) (by simp) ?_
                  refine TillEach.last rfl (fun K hK => ?_)
                  · go_simp
                    refine hK.out _ _ ?_
                    clear hK K
                    (try simp only [Act.put, List.setIfInBounds_toArray, List.set_cons_zero, List.set_cons_succ])
                    refine Till.done (by kernel_rfl) ?_ _
                    go_wp2_with fail
                    exact ⟨⟨k + 1, by omega, by go_num, Lib.hid (GXv33.out.far HN.out.1 _), Lib.hid (GPv33.out.far HN.out.2.1 _), Lib.hid (GRv33.out.far HN.out.2.2 _), HSET.out _ GOv33.out, Lib.hid (bw_set HBv33.out HG3.out _)⟩, by simp [intOf]; omega⟩
                exact TillEach.nil
              exact TillEach.nil
            exact TillEach.nil
          exact TillEach.nil
        obtain ⟨x0, x1, x2, x3, x4⟩ := ar_facts GXwB.out
        obtain ⟨u5, hu5⟩ : ∃ u5, u5 = wB.alloc (.cells #[.int .i64 xa, .int .i64 xb, .int .i64 xc] 3) := ⟨_, rfl⟩
        have GXu5 := Lib.hid (GXwB.out.alloc (.cells #[.int .i64 xa, .int .i64 xb, .int .i64 xc] 3))
        have GOu5 := Lib.hid (GOwB.out.alloc (.cells #[.int .i64 xa, .int .i64 xb, .int .i64 xc] 3))
        have GPu5 := Lib.hid (GPwB.out.alloc (.cells #[.int .i64 xa, .int .i64 xb, .int .i64 xc] 3))
        have GRu5 := Lib.hid (GRwB.out.alloc (.cells #[.int .i64 xa, .int .i64 xb, .int .i64 xc] 3))
        have HBu5 := Lib.hid (bw_alloc HBwB.out (.cells #[.int .i64 xa, .int .i64 xb, .int .i64 xc] 3))
        have RL : Hid (Reads (wB.alloc (.cells #[.int .i64 xa, .int .i64 xb, .int .i64 xc] 3)) (wB.alloc (.cells #[.int .i64 xa, .int .i64 xb, .int .i64 xc] 3)).heap.size 1 (some ⟨wB.heap.size, 0, none⟩) 3 (ZL [xa, xb, xc])) := Lib.hid ((reads_blk (size := 1) (n := 3) (Blk.new wB 3 #[.int .i64 xa, .int .i64 xb, .int .i64 xc]) rfl).more (Nat.le_of_eq (by simp)))
        rw [← hu5] at GXu5 GOu5 GPu5 GRu5 HBu5 RL
        go_wp2_with fail
        rw [← hu5]
        refine (ptIs_any g1 Ap np cp _ 3 3 [xa, xb, xc] u5 (by decide) GPu5.out RL.out).mono ?_
        rw [show decide (∀ v ∈ [xa, xb, xc], hasP np v) = false from decide_eq_false (by simpa using hA)]
        rintro e w' ⟨rfl, hw'⟩
        replace hw' := hw'.symm
        subst hw'
        clear hu5 RL x0 x1 x2 x3 x4 GXwB GOwB GPwB GRwB HBwB
        by_cases hM : hasP np xa ∧ hasP np xb
        · obtain ⟨x0, x1, x2, x3, x4⟩ := ar_facts GXu5.out
          obtain ⟨u6, hu6⟩ : ∃ u6, u6 = u5.alloc (.cells #[.int .i64 xa, .int .i64 xb] 3) := ⟨_, rfl⟩
          have GXu6 := Lib.hid (GXu5.out.alloc (.cells #[.int .i64 xa, .int .i64 xb] 3))
          have GOu6 := Lib.hid (GOu5.out.alloc (.cells #[.int .i64 xa, .int .i64 xb] 3))
          have GPu6 := Lib.hid (GPu5.out.alloc (.cells #[.int .i64 xa, .int .i64 xb] 3))
          have GRu6 := Lib.hid (GRu5.out.alloc (.cells #[.int .i64 xa, .int .i64 xb] 3))
          have HBu6 := Lib.hid (bw_alloc HBu5.out (.cells #[.int .i64 xa, .int .i64 xb] 3))
          have RL : Hid (Reads (u5.alloc (.cells #[.int .i64 xa, .int .i64 xb] 3)) (u5.alloc (.cells #[.int .i64 xa, .int .i64 xb] 3)).heap.size 1 (some ⟨u5.heap.size, 0, none⟩) 2 (ZL [xa, xb])) := Lib.hid ((reads_blk (size := 1) (n := 2) (Blk.new u5 3 #[.int .i64 xa, .int .i64 xb]) rfl).more (Nat.le_of_eq (by simp)))
          rw [← hu6] at GXu6 GOu6 GPu6 GRu6 HBu6 RL
          go_wp2_with fail
          rw [← hu6]
          refine (ptIs_any g1 Ap np cp _ 2 2 [xa, xb] u6 (by decide) GPu6.out RL.out).mono ?_
          rw [show decide (∀ v ∈ [xa, xb], hasP np v) = true from decide_eq_true (by simpa using hM)]
          rintro e w' ⟨rfl, hw'⟩
          replace hw' := hw'.symm
          subst hw'
          clear hu6 RL x0 x1 x2 x3 x4 GXu5 GOu5 GPu5 GRu5 HBu5
          have HCM := Lib.hid hM
          have HRU : Hid (ruleOf 2 X P.length = .middle) := Lib.hid (by rw [HPL.out, HXX.out]; unfold ruleOf; rw [if_neg (fun h => absurd h.1 (by decide)), if_neg (fun h => hA h.2), if_pos ⟨by decide, hM⟩])
          clear hM hA
          obtain ⟨pa, HPa⟩ : ∃ pa, Hid (pc P xa k = pa) := ⟨_, Lib.hid rfl⟩
          have HATa : Hid (∀ (W : World), Blk W g1 34 #[.slice Ap np cp] → Below w.heap.size w W → Calls Try.prog 29 #[.int .i64 xa, .int .i64 (k : Int), .pointer (some ⟨g1, 0, none⟩)] W (IntPost W pa)) := Lib.hid fun W h hb => HPa.out ▸ HAT.out xa (HCM.out.1) W h hb
          have la := pc_le P xa k
          rw [HPa.out] at la
          obtain ⟨pb, HPb⟩ : ∃ pb, Hid (pc P xb k = pb) := ⟨_, Lib.hid rfl⟩
          have HATb : Hid (∀ (W : World), Blk W g1 34 #[.slice Ap np cp] → Below w.heap.size w W → Calls Try.prog 29 #[.int .i64 xb, .int .i64 (k : Int), .pointer (some ⟨g1, 0, none⟩)] W (IntPost W pb)) := Lib.hid fun W h hb => HPb.out ▸ HAT.out xb (HCM.out.2) W h hb
          have lb := pc_le P xb k
          rw [HPb.out] at lb
          have HSET : Hid (∀ (W : World), Blk W g3 36 (outC 2 X P k) → Hid (Blk (W.setCell ⟨g3, k, none⟩ (.int .i64 (cutI (Int.tdiv (pa + pb) 2)))) g3 36 (outC 2 X P (k + 1)))) := Lib.hid fun W h => Lib.hid (by have h1 := out_set hk3 HRU.out h; rwa [show tell .middle X P k = cutI (Int.tdiv (pa + pb) 2) by rw [HXX.out]; show cutI (Int.tdiv (pc P xa k + pc P xb k) 2) = _; rw [HPa.out, HPb.out]] at h1)
          have q1 : IntKind.i64.wrap (pa + pb) = pa + pb := IntWalk.i64_in _ (by omega)
          have hh := half_le (x := pa + pb) (b := 1048576) (by omega) (by omega)
          have q9 : IntKind.i64.wrap (Int.tdiv (pa + pb) 2) = Int.tdiv (pa + pb) 2 := IntWalk.i64_in _ (by omega)
          go_upto_region 17 with (fail)
          refine wp_region_till (S := fun w' => w'.cell? ⟨g0, 0, none⟩ = some (.int .i64 xl) ∧ w'.cell? ⟨g0, 1, none⟩ = some (.int .i64 xa) ∧ w'.cell? ⟨g0, 2, none⟩ = some (.int .i64 xb) ∧ w'.cell? ⟨g0, 3, none⟩ = some (.int .i64 xc) ∧ w'.cell? ⟨g0, 4, none⟩ = some (.int .i64 xd) ∧ w'.cell? ⟨g3, k, none⟩ = some (.int .i64 q) ∧ w'.frozen? ⟨g3, k, none⟩ = false) 15 (by kernel_rfl) ⟨(ar_facts GXu6.out.drew).1, (ar_facts GXu6.out.drew).2.1, (ar_facts GXu6.out.drew).2.2.1, (ar_facts GXu6.out.drew).2.2.2.1, (ar_facts GXu6.out.drew).2.2.2.2, HQ.out ▸ (out_cell GOu6.out.drew hk3), (GOu6.out.drew.frozen k)⟩ (fun hHeld => ?_)
          refine Till.take (i := 0) (v := ?vt69) rfl (by kernel_rfl) (by kernel_rfl) (by kernel_rfl) (by kernel_rfl) (fun _ _ _ h => h) (Or.inl ⟨by rfl, ?ht69⟩) (by assumption) ?restt69
          case ht69 => (intro w hSw; (try dsimp only at hSw); go_simp; try with_reducible rfl)
          (try simp only [Act.put, List.setIfInBounds_toArray, List.set_cons_zero, List.set_cons_succ])
          refine Till.take (i := 1) (v := ?vt70) rfl (by kernel_rfl) (by kernel_rfl) (by kernel_rfl) (by kernel_rfl) (fun _ _ _ h => h) (Or.inl ⟨by rfl, ?ht70⟩) (by assumption) ?restt70
          case ht70 => (intro w hSw; (try dsimp only at hSw); go_simp; try with_reducible rfl)
          (try simp only [Act.put, List.setIfInBounds_toArray, List.set_cons_zero, List.set_cons_succ])
          refine Till.take (i := 2) (v := ?vt71) rfl (by kernel_rfl) (by kernel_rfl) (by kernel_rfl) (by kernel_rfl) (fun _ _ _ h => h) (Or.inl ⟨by rfl, ?ht71⟩) (by assumption) ?restt71
          case ht71 => (intro w hSw; (try dsimp only at hSw); go_simp; try with_reducible rfl)
          (try simp only [Act.put, List.setIfInBounds_toArray, List.set_cons_zero, List.set_cons_succ])
          refine Till.take (i := 3) (v := ?vt72) rfl (by kernel_rfl) (by kernel_rfl) (by kernel_rfl) (by kernel_rfl) (fun _ _ _ h => h) (Or.inl ⟨by rfl, ?ht72⟩) (by assumption) ?restt72
          case ht72 => (intro w hSw; (try dsimp only at hSw); go_simp; try with_reducible rfl)
          (try simp only [Act.put, List.setIfInBounds_toArray, List.set_cons_zero, List.set_cons_succ])
          refine Till.take (i := 4) (v := ?vt73) rfl (by kernel_rfl) (by kernel_rfl) (by kernel_rfl) (by kernel_rfl) (fun _ _ _ h => h) (Or.inl ⟨by rfl, ?ht73⟩) (by assumption) ?restt73
          case ht73 => (intro w hSw; (try dsimp only at hSw); go_simp; try with_reducible rfl)
          (try simp only [Act.put, List.setIfInBounds_toArray, List.set_cons_zero, List.set_cons_succ])
          refine Till.take (i := 6) (v := ?vt74) rfl (by kernel_rfl) (by kernel_rfl) (by kernel_rfl) (by kernel_rfl) (fun _ _ _ h => h) (Or.inl ⟨by rfl, ?ht74⟩) (by assumption) ?restt74
          case ht74 => (intro w hSw; (try dsimp only at hSw); go_simp; try with_reducible rfl)
          (try simp only [Act.put, List.setIfInBounds_toArray, List.set_cons_zero, List.set_cons_succ])
          refine Till.take (i := 7) (v := ?vt75) rfl (by kernel_rfl) (by kernel_rfl) (by kernel_rfl) (by kernel_rfl) (fun _ _ _ h => h) (Or.inl ⟨by rfl, ?ht75⟩) (by assumption) ?restt75
          case ht75 => (intro w hSw; (try dsimp only at hSw); go_simp; try with_reducible rfl)
          (try simp only [Act.put, List.setIfInBounds_toArray, List.set_cons_zero, List.set_cons_succ])
          refine Till.take (i := 8) (v := ?vt76) rfl (by kernel_rfl) (by kernel_rfl) (by kernel_rfl) (by kernel_rfl) (fun _ _ _ h => h) (Or.inl ⟨by rfl, ?ht76⟩) (by assumption) ?restt76
          case ht76 => (intro w hSw; (try dsimp only at hSw); go_simp; try with_reducible rfl)
          (try simp only [Act.put, List.setIfInBounds_toArray, List.set_cons_zero, List.set_cons_succ])
          refine Till.take (i := 9) (v := ?vt77) rfl (by kernel_rfl) (by kernel_rfl) (by kernel_rfl) (by kernel_rfl) (fun _ _ _ h => h) (Or.inl ⟨by rfl, ?ht77⟩) (by assumption) ?restt77
          case ht77 => (intro w hSw; (try dsimp only at hSw); go_simp; try with_reducible rfl)
          (try simp only [Act.put, List.setIfInBounds_toArray, List.set_cons_zero, List.set_cons_succ])
          refine Till.ready (rs := [5]) (by kernel_rfl) (by simp) ?_
          refine TillEach.cons rfl (fun K hK => ?_) ?_
          · go_simp
            go_wp2_with (go_at_call 29; refine (HATa.out u6.drew GPu6.out.drew (bw_drew HBu6.out)).mono ?_; rintro e v30 ⟨rfl, hb⟩)
            have GXv30 := Lib.hid (blk_call GXu6.out.drew hb)
            have GOv30 := Lib.hid (blk_call GOu6.out.drew hb)
            have GPv30 := Lib.hid (blk_call GPu6.out.drew hb)
            have GRv30 := Lib.hid (blk_call GRu6.out.drew hb)
            have HBv30 := Lib.hid (bw_call (bw_drew HBu6.out) hb)
            clear hb
            refine hK.out _ _ ?_ (fun hHeld => ?_)
            · exact ⟨(ar_facts GXv30.out).1, (ar_facts GXv30.out).2.1, (ar_facts GXv30.out).2.2.1, (ar_facts GXv30.out).2.2.2.1, (ar_facts GXv30.out).2.2.2.2, HQ.out ▸ (out_cell GOv30.out hk3), (GOv30.out.frozen k)⟩
            clear hK K
            (try simp only [Act.put, List.setIfInBounds_toArray, List.set_cons_zero, List.set_cons_succ])
            refine Till.ready (rs := [10]) (by kernel_rfl) (by simp) ?_
            refine TillEach.cons rfl (fun K hK => ?_) ?_
            · go_simp
              go_wp2_with (go_at_call 29; refine (HATb.out v30 GPv30.out HBv30.out).mono ?_; rintro e v31 ⟨rfl, hb⟩)
              have GXv31 := Lib.hid (blk_call GXv30.out hb)
              have GOv31 := Lib.hid (blk_call GOv30.out hb)
              have GPv31 := Lib.hid (blk_call GPv30.out hb)
              have GRv31 := Lib.hid (blk_call GRv30.out hb)
              have HBv31 := Lib.hid (bw_call HBv30.out hb)
              clear hb GXv30 GOv30 GPv30 GRv30 HBv30
              refine hK.out _ _ ?_ (fun hHeld => ?_)
              · exact ⟨(ar_facts GXv31.out).1, (ar_facts GXv31.out).2.1, (ar_facts GXv31.out).2.2.1, (ar_facts GXv31.out).2.2.2.1, (ar_facts GXv31.out).2.2.2.2, HQ.out ▸ (out_cell GOv31.out hk3), (GOv31.out.frozen k)⟩
              clear hK K
              (try simp only [Act.put, List.setIfInBounds_toArray, List.set_cons_zero, List.set_cons_succ])
              refine Till.take (i := 11) (v := ?vt78) rfl (by kernel_rfl) (by kernel_rfl) (by kernel_rfl) (by kernel_rfl) (fun _ _ _ h => h) (Or.inl ⟨by rfl, ?ht78⟩) (by assumption) ?restt78
              case ht78 => (intro w hSw; (try dsimp only at hSw); go_simp; try with_reducible rfl)
              (try simp only [Act.put, List.setIfInBounds_toArray, List.set_cons_zero, List.set_cons_succ])
              refine Till.take (i := 12) (v := ?vt79) rfl (by kernel_rfl) (by kernel_rfl) (by kernel_rfl) (by kernel_rfl) (fun _ _ _ h => h) (Or.inl ⟨by rfl, ?ht79⟩) (by assumption) ?restt79
              case ht79 => (intro w hSw; (try dsimp only at hSw); go_simp; try with_reducible rfl)
              (try simp only [Act.put, List.setIfInBounds_toArray, List.set_cons_zero, List.set_cons_succ])
              refine Till.ready (rs := [13]) (by kernel_rfl) (by simp) ?_
              refine TillEach.cons rfl (fun K hK => ?_) ?_
              · go_simp
                go_wp2_with (go_at_call 30; refine (cutB_any _ v31).mono ?_; rintro e v32 ⟨rfl, hb⟩)
                have GXv32 := Lib.hid (blk_call GXv31.out hb)
                have GOv32 := Lib.hid (blk_call GOv31.out hb)
                have GPv32 := Lib.hid (blk_call GPv31.out hb)
                have GRv32 := Lib.hid (blk_call GRv31.out hb)
                have HBv32 := Lib.hid (bw_call HBv31.out hb)
                clear hb GXv31 GOv31 GPv31 GRv31 HBv31
                refine hK.out _ _ ?_ (fun hHeld => ?_)
                · exact ⟨(ar_facts GXv32.out).1, (ar_facts GXv32.out).2.1, (ar_facts GXv32.out).2.2.1, (ar_facts GXv32.out).2.2.2.1, (ar_facts GXv32.out).2.2.2.2, HQ.out ▸ (out_cell GOv32.out hk3), (GOv32.out.frozen k)⟩
                clear hK K
                (try simp only [Act.put, List.setIfInBounds_toArray, List.set_cons_zero, List.set_cons_succ])
                refine Till.take (i := 14) (v := ?vt80) rfl (by kernel_rfl) (by kernel_rfl) (by kernel_rfl) (by kernel_rfl) (fun _ _ _ h => h) (Or.inl ⟨by rfl, ?ht80⟩) (by assumption) ?restt80
                case ht80 => (intro w hSw; (try dsimp only at hSw); go_simp; try with_reducible rfl)
                (try simp only [Act.put, List.setIfInBounds_toArray, List.set_cons_zero, List.set_cons_succ])
                refine Till.ready (rs := [15]) (by kernel_rfl) (by simp) ?_
                refine TillEach.last rfl (fun K hK => ?_)
                · go_simp
                  refine hK.out _ _ ?_
                  clear hK K
                  (try simp only [Act.put, List.setIfInBounds_toArray, List.set_cons_zero, List.set_cons_succ])
                  refine Till.done (by kernel_rfl) ?_ _
                  go_wp2_with fail
                  exact ⟨⟨k + 1, by omega, by go_num, Lib.hid (GXv32.out.far HN.out.1 _), Lib.hid (GPv32.out.far HN.out.2.1 _), Lib.hid (GRv32.out.far HN.out.2.2 _), HSET.out _ GOv32.out, Lib.hid (bw_set HBv32.out HG3.out _)⟩, by simp [intOf]; omega⟩
              exact TillEach.nil
            exact TillEach.nil
          exact TillEach.nil
        obtain ⟨x0, x1, x2, x3, x4⟩ := ar_facts GXu5.out
        obtain ⟨u6, hu6⟩ : ∃ u6, u6 = u5.alloc (.cells #[.int .i64 xa, .int .i64 xb] 3) := ⟨_, rfl⟩
        have GXu6 := Lib.hid (GXu5.out.alloc (.cells #[.int .i64 xa, .int .i64 xb] 3))
        have GOu6 := Lib.hid (GOu5.out.alloc (.cells #[.int .i64 xa, .int .i64 xb] 3))
        have GPu6 := Lib.hid (GPu5.out.alloc (.cells #[.int .i64 xa, .int .i64 xb] 3))
        have GRu6 := Lib.hid (GRu5.out.alloc (.cells #[.int .i64 xa, .int .i64 xb] 3))
        have HBu6 := Lib.hid (bw_alloc HBu5.out (.cells #[.int .i64 xa, .int .i64 xb] 3))
        have RL : Hid (Reads (u5.alloc (.cells #[.int .i64 xa, .int .i64 xb] 3)) (u5.alloc (.cells #[.int .i64 xa, .int .i64 xb] 3)).heap.size 1 (some ⟨u5.heap.size, 0, none⟩) 2 (ZL [xa, xb])) := Lib.hid ((reads_blk (size := 1) (n := 2) (Blk.new u5 3 #[.int .i64 xa, .int .i64 xb]) rfl).more (Nat.le_of_eq (by simp)))
        rw [← hu6] at GXu6 GOu6 GPu6 GRu6 HBu6 RL
        go_wp2_with fail
        rw [← hu6]
        refine (ptIs_any g1 Ap np cp _ 2 2 [xa, xb] u6 (by decide) GPu6.out RL.out).mono ?_
        rw [show decide (∀ v ∈ [xa, xb], hasP np v) = false from decide_eq_false (by simpa using hM)]
        rintro e w' ⟨rfl, hw'⟩
        replace hw' := hw'.symm
        subst hw'
        clear hu6 RL x0 x1 x2 x3 x4 GXu5 GOu5 GPu5 GRu5 HBu5
        by_cases hL : hasP np xl
        · obtain ⟨x0, x1, x2, x3, x4⟩ := ar_facts GXu6.out
          obtain ⟨u7, hu7⟩ : ∃ u7, u7 = u6.alloc (.cells #[.int .i64 xl] 3) := ⟨_, rfl⟩
          have GXu7 := Lib.hid (GXu6.out.alloc (.cells #[.int .i64 xl] 3))
          have GOu7 := Lib.hid (GOu6.out.alloc (.cells #[.int .i64 xl] 3))
          have GPu7 := Lib.hid (GPu6.out.alloc (.cells #[.int .i64 xl] 3))
          have GRu7 := Lib.hid (GRu6.out.alloc (.cells #[.int .i64 xl] 3))
          have HBu7 := Lib.hid (bw_alloc HBu6.out (.cells #[.int .i64 xl] 3))
          have RL : Hid (Reads (u6.alloc (.cells #[.int .i64 xl] 3)) (u6.alloc (.cells #[.int .i64 xl] 3)).heap.size 1 (some ⟨u6.heap.size, 0, none⟩) 1 (ZL [xl])) := Lib.hid ((reads_blk (size := 1) (n := 1) (Blk.new u6 3 #[.int .i64 xl]) rfl).more (Nat.le_of_eq (by simp)))
          rw [← hu7] at GXu7 GOu7 GPu7 GRu7 HBu7 RL
          go_wp2_with fail
          rw [← hu7]
          refine (ptIs_any g1 Ap np cp _ 1 1 [xl] u7 (by decide) GPu7.out RL.out).mono ?_
          rw [show decide (∀ v ∈ [xl], hasP np v) = true from decide_eq_true (by simpa using hL)]
          rintro e w' ⟨rfl, hw'⟩
          replace hw' := hw'.symm
          subst hw'
          clear hu7 RL x0 x1 x2 x3 x4 GXu6 GOu6 GPu6 GRu6 HBu6
          have HCL := Lib.hid hL
          have HRU : Hid (ruleOf 2 X P.length = .last) := Lib.hid (by rw [HPL.out, HXX.out]; unfold ruleOf; rw [if_neg (fun h => absurd h.1 (by decide)), if_neg (fun h => hA h.2), if_neg (fun h => hM h.2), if_pos ⟨by decide, hL⟩])
          clear hL hA hM
          have HSET : Hid (∀ (W : World), Blk W g3 36 (outC 2 X P k) → Hid (Blk (W.setCell ⟨g3, k, none⟩ (.int .i64 (pc P xl k))) g3 36 (outC 2 X P (k + 1)))) := Lib.hid fun W h => Lib.hid (by have h1 := out_set hk3 HRU.out h; rwa [show tell .last X P k = pc P xl k by rw [HXX.out]; show pc P xl k = _; rfl] at h1)
          obtain ⟨x0, x1, x2, x3, x4⟩ := ar_facts GXu7.out
          have y0 := HQ.out ▸ (out_cell GOu7.out hk3)
          have f0 := GOu7.out.frozen k
          go_wp2_with fail
          refine (HAT.out xl HCL.out u7 GPu7.out HBu7.out).mono ?_
          rintro e v30 ⟨rfl, hb⟩
          have GXv30 := Lib.hid (blk_call GXu7.out hb)
          have GOv30 := Lib.hid (blk_call GOu7.out hb)
          have GPv30 := Lib.hid (blk_call GPu7.out hb)
          have GRv30 := Lib.hid (blk_call GRu7.out hb)
          have HBv30 := Lib.hid (bw_call HBu7.out hb)
          clear hb x0 x1 x2 x3 x4 y0 f0 GXu7 GOu7 GPu7 GRu7 HBu7
          have y0 := HQ.out ▸ (out_cell GOv30.out hk3)
          have f0 := GOv30.out.frozen k
          go_wp2_with fail
          exact ⟨⟨k + 1, by omega, by go_num, Lib.hid (GXv30.out.far HN.out.1 _), Lib.hid (GPv30.out.far HN.out.2.1 _), Lib.hid (GRv30.out.far HN.out.2.2 _), HSET.out _ GOv30.out, Lib.hid (bw_set HBv30.out HG3.out _)⟩, by simp [intOf]; omega⟩
        obtain ⟨x0, x1, x2, x3, x4⟩ := ar_facts GXu6.out
        obtain ⟨u7, hu7⟩ : ∃ u7, u7 = u6.alloc (.cells #[.int .i64 xl] 3) := ⟨_, rfl⟩
        have GXu7 := Lib.hid (GXu6.out.alloc (.cells #[.int .i64 xl] 3))
        have GOu7 := Lib.hid (GOu6.out.alloc (.cells #[.int .i64 xl] 3))
        have GPu7 := Lib.hid (GPu6.out.alloc (.cells #[.int .i64 xl] 3))
        have GRu7 := Lib.hid (GRu6.out.alloc (.cells #[.int .i64 xl] 3))
        have HBu7 := Lib.hid (bw_alloc HBu6.out (.cells #[.int .i64 xl] 3))
        have RL : Hid (Reads (u6.alloc (.cells #[.int .i64 xl] 3)) (u6.alloc (.cells #[.int .i64 xl] 3)).heap.size 1 (some ⟨u6.heap.size, 0, none⟩) 1 (ZL [xl])) := Lib.hid ((reads_blk (size := 1) (n := 1) (Blk.new u6 3 #[.int .i64 xl]) rfl).more (Nat.le_of_eq (by simp)))
        rw [← hu7] at GXu7 GOu7 GPu7 GRu7 HBu7 RL
        go_wp2_with fail
        rw [← hu7]
        refine (ptIs_any g1 Ap np cp _ 1 1 [xl] u7 (by decide) GPu7.out RL.out).mono ?_
        rw [show decide (∀ v ∈ [xl], hasP np v) = false from decide_eq_false (by simpa using hL)]
        rintro e w' ⟨rfl, hw'⟩
        replace hw' := hw'.symm
        subst hw'
        clear hu7 RL x0 x1 x2 x3 x4 GXu6 GOu6 GPu6 GRu6 HBu6
        have HRU : Hid (ruleOf 2 X np = .none) := Lib.hid (by rw [HXX.out]; unfold ruleOf; rw [if_neg (fun h => absurd h.1 (by decide)), if_neg (fun h => hA h.2), if_neg (fun h => hM h.2), if_neg (fun h => hL h.2)])
        have HSN := Lib.hid (fun (W : World) (h : Blk W g3 36 (outC 2 X P k)) => out_none hk3 (by rw [HPL.out]; exact HRU.out) h)
        go_wp2_with fail
        exact ⟨⟨k + 1, by omega, by go_num, GXu7, GPu7, GRu7, Lib.hid (HSN.out _ GOu7.out), HBu7⟩, by simp [intOf]; omega⟩
      by_cases hkd1 : kd = 1
      · subst hkd1
        by_cases hM : hasP np xa ∧ hasP np xb
        · obtain ⟨x0, x1, x2, x3, x4⟩ := ar_facts GXwB.out
          obtain ⟨u8, hu8⟩ : ∃ u8, u8 = wB.alloc (.cells #[.int .i64 xa, .int .i64 xb] 3) := ⟨_, rfl⟩
          have GXu8 := Lib.hid (GXwB.out.alloc (.cells #[.int .i64 xa, .int .i64 xb] 3))
          have GOu8 := Lib.hid (GOwB.out.alloc (.cells #[.int .i64 xa, .int .i64 xb] 3))
          have GPu8 := Lib.hid (GPwB.out.alloc (.cells #[.int .i64 xa, .int .i64 xb] 3))
          have GRu8 := Lib.hid (GRwB.out.alloc (.cells #[.int .i64 xa, .int .i64 xb] 3))
          have HBu8 := Lib.hid (bw_alloc HBwB.out (.cells #[.int .i64 xa, .int .i64 xb] 3))
          have RL : Hid (Reads (wB.alloc (.cells #[.int .i64 xa, .int .i64 xb] 3)) (wB.alloc (.cells #[.int .i64 xa, .int .i64 xb] 3)).heap.size 1 (some ⟨wB.heap.size, 0, none⟩) 2 (ZL [xa, xb])) := Lib.hid ((reads_blk (size := 1) (n := 2) (Blk.new wB 3 #[.int .i64 xa, .int .i64 xb]) rfl).more (Nat.le_of_eq (by simp)))
          rw [← hu8] at GXu8 GOu8 GPu8 GRu8 HBu8 RL
          go_wp2_with fail
          rw [← hu8]
          refine (ptIs_any g1 Ap np cp _ 2 2 [xa, xb] u8 (by decide) GPu8.out RL.out).mono ?_
          rw [show decide (∀ v ∈ [xa, xb], hasP np v) = true from decide_eq_true (by simpa using hM)]
          rintro e w' ⟨rfl, hw'⟩
          replace hw' := hw'.symm
          subst hw'
          clear hu8 RL x0 x1 x2 x3 x4 GXwB GOwB GPwB GRwB HBwB
          have HCM := Lib.hid hM
          have HRU : Hid (ruleOf 1 X P.length = .middle) := Lib.hid (by rw [HPL.out, HXX.out]; unfold ruleOf; rw [if_neg (fun h => absurd h.1 (by decide)), if_neg (fun h => absurd h.1 (by decide)), if_pos ⟨by decide, hM⟩])
          clear hM
          obtain ⟨pa, HPa⟩ : ∃ pa, Hid (pc P xa k = pa) := ⟨_, Lib.hid rfl⟩
          have HATa : Hid (∀ (W : World), Blk W g1 34 #[.slice Ap np cp] → Below w.heap.size w W → Calls Try.prog 29 #[.int .i64 xa, .int .i64 (k : Int), .pointer (some ⟨g1, 0, none⟩)] W (IntPost W pa)) := Lib.hid fun W h hb => HPa.out ▸ HAT.out xa (HCM.out.1) W h hb
          have la := pc_le P xa k
          rw [HPa.out] at la
          obtain ⟨pb, HPb⟩ : ∃ pb, Hid (pc P xb k = pb) := ⟨_, Lib.hid rfl⟩
          have HATb : Hid (∀ (W : World), Blk W g1 34 #[.slice Ap np cp] → Below w.heap.size w W → Calls Try.prog 29 #[.int .i64 xb, .int .i64 (k : Int), .pointer (some ⟨g1, 0, none⟩)] W (IntPost W pb)) := Lib.hid fun W h hb => HPb.out ▸ HAT.out xb (HCM.out.2) W h hb
          have lb := pc_le P xb k
          rw [HPb.out] at lb
          have HSET : Hid (∀ (W : World), Blk W g3 36 (outC 1 X P k) → Hid (Blk (W.setCell ⟨g3, k, none⟩ (.int .i64 (cutI (Int.tdiv (pa + pb) 2)))) g3 36 (outC 1 X P (k + 1)))) := Lib.hid fun W h => Lib.hid (by have h1 := out_set hk3 HRU.out h; rwa [show tell .middle X P k = cutI (Int.tdiv (pa + pb) 2) by rw [HXX.out]; show cutI (Int.tdiv (pc P xa k + pc P xb k) 2) = _; rw [HPa.out, HPb.out]] at h1)
          have q1 : IntKind.i64.wrap (pa + pb) = pa + pb := IntWalk.i64_in _ (by omega)
          have hh := half_le (x := pa + pb) (b := 1048576) (by omega) (by omega)
          have q9 : IntKind.i64.wrap (Int.tdiv (pa + pb) 2) = Int.tdiv (pa + pb) 2 := IntWalk.i64_in _ (by omega)
          go_upto_region 17 with (fail)
          refine wp_region_till (S := fun w' => w'.cell? ⟨g0, 0, none⟩ = some (.int .i64 xl) ∧ w'.cell? ⟨g0, 1, none⟩ = some (.int .i64 xa) ∧ w'.cell? ⟨g0, 2, none⟩ = some (.int .i64 xb) ∧ w'.cell? ⟨g0, 3, none⟩ = some (.int .i64 xc) ∧ w'.cell? ⟨g0, 4, none⟩ = some (.int .i64 xd) ∧ w'.cell? ⟨g3, k, none⟩ = some (.int .i64 q) ∧ w'.frozen? ⟨g3, k, none⟩ = false) 15 (by kernel_rfl) ⟨(ar_facts GXu8.out.drew).1, (ar_facts GXu8.out.drew).2.1, (ar_facts GXu8.out.drew).2.2.1, (ar_facts GXu8.out.drew).2.2.2.1, (ar_facts GXu8.out.drew).2.2.2.2, HQ.out ▸ (out_cell GOu8.out.drew hk3), (GOu8.out.drew.frozen k)⟩ (fun hHeld => ?_)
          refine Till.take (i := 0) (v := ?vt81) rfl (by kernel_rfl) (by kernel_rfl) (by kernel_rfl) (by kernel_rfl) (fun _ _ _ h => h) (Or.inl ⟨by rfl, ?ht81⟩) (by assumption) ?restt81
          case ht81 => (intro w hSw; (try dsimp only at hSw); go_simp; try with_reducible rfl)
          (try simp only [Act.put, List.setIfInBounds_toArray, List.set_cons_zero, List.set_cons_succ])
          refine Till.take (i := 1) (v := ?vt82) rfl (by kernel_rfl) (by kernel_rfl) (by kernel_rfl) (by kernel_rfl) (fun _ _ _ h => h) (Or.inl ⟨by rfl, ?ht82⟩) (by assumption) ?restt82
          case ht82 => (intro w hSw; (try dsimp only at hSw); go_simp; try with_reducible rfl)
          (try simp only [Act.put, List.setIfInBounds_toArray, List.set_cons_zero, List.set_cons_succ])
          refine Till.take (i := 2) (v := ?vt83) rfl (by kernel_rfl) (by kernel_rfl) (by kernel_rfl) (by kernel_rfl) (fun _ _ _ h => h) (Or.inl ⟨by rfl, ?ht83⟩) (by assumption) ?restt83
          case ht83 => (intro w hSw; (try dsimp only at hSw); go_simp; try with_reducible rfl)
          (try simp only [Act.put, List.setIfInBounds_toArray, List.set_cons_zero, List.set_cons_succ])
          refine Till.take (i := 3) (v := ?vt84) rfl (by kernel_rfl) (by kernel_rfl) (by kernel_rfl) (by kernel_rfl) (fun _ _ _ h => h) (Or.inl ⟨by rfl, ?ht84⟩) (by assumption) ?restt84
          case ht84 => (intro w hSw; (try dsimp only at hSw); go_simp; try with_reducible rfl)
          (try simp only [Act.put, List.setIfInBounds_toArray, List.set_cons_zero, List.set_cons_succ])
          refine Till.take (i := 4) (v := ?vt85) rfl (by kernel_rfl) (by kernel_rfl) (by kernel_rfl) (by kernel_rfl) (fun _ _ _ h => h) (Or.inl ⟨by rfl, ?ht85⟩) (by assumption) ?restt85
          case ht85 => (intro w hSw; (try dsimp only at hSw); go_simp; try with_reducible rfl)
          (try simp only [Act.put, List.setIfInBounds_toArray, List.set_cons_zero, List.set_cons_succ])
          refine Till.take (i := 6) (v := ?vt86) rfl (by kernel_rfl) (by kernel_rfl) (by kernel_rfl) (by kernel_rfl) (fun _ _ _ h => h) (Or.inl ⟨by rfl, ?ht86⟩) (by assumption) ?restt86
          case ht86 => (intro w hSw; (try dsimp only at hSw); go_simp; try with_reducible rfl)
          (try simp only [Act.put, List.setIfInBounds_toArray, List.set_cons_zero, List.set_cons_succ])
          refine Till.take (i := 7) (v := ?vt87) rfl (by kernel_rfl) (by kernel_rfl) (by kernel_rfl) (by kernel_rfl) (fun _ _ _ h => h) (Or.inl ⟨by rfl, ?ht87⟩) (by assumption) ?restt87
          case ht87 => (intro w hSw; (try dsimp only at hSw); go_simp; try with_reducible rfl)
          (try simp only [Act.put, List.setIfInBounds_toArray, List.set_cons_zero, List.set_cons_succ])
          refine Till.take (i := 8) (v := ?vt88) rfl (by kernel_rfl) (by kernel_rfl) (by kernel_rfl) (by kernel_rfl) (fun _ _ _ h => h) (Or.inl ⟨by rfl, ?ht88⟩) (by assumption) ?restt88
          case ht88 => (intro w hSw; (try dsimp only at hSw); go_simp; try with_reducible rfl)
          (try simp only [Act.put, List.setIfInBounds_toArray, List.set_cons_zero, List.set_cons_succ])
          refine Till.take (i := 9) (v := ?vt89) rfl (by kernel_rfl) (by kernel_rfl) (by kernel_rfl) (by kernel_rfl) (fun _ _ _ h => h) (Or.inl ⟨by rfl, ?ht89⟩) (by assumption) ?restt89
          case ht89 => (intro w hSw; (try dsimp only at hSw); go_simp; try with_reducible rfl)
          (try simp only [Act.put, List.setIfInBounds_toArray, List.set_cons_zero, List.set_cons_succ])
          refine Till.ready (rs := [5]) (by kernel_rfl) (by simp) ?_
          refine TillEach.cons rfl (fun K hK => ?_) ?_
          · go_simp
            go_wp2_with (go_at_call 29; refine (HATa.out u8.drew GPu8.out.drew (bw_drew HBu8.out)).mono ?_; rintro e v30 ⟨rfl, hb⟩)
            have GXv30 := Lib.hid (blk_call GXu8.out.drew hb)
            have GOv30 := Lib.hid (blk_call GOu8.out.drew hb)
            have GPv30 := Lib.hid (blk_call GPu8.out.drew hb)
            have GRv30 := Lib.hid (blk_call GRu8.out.drew hb)
            have HBv30 := Lib.hid (bw_call (bw_drew HBu8.out) hb)
            clear hb
            refine hK.out _ _ ?_ (fun hHeld => ?_)
            · exact ⟨(ar_facts GXv30.out).1, (ar_facts GXv30.out).2.1, (ar_facts GXv30.out).2.2.1, (ar_facts GXv30.out).2.2.2.1, (ar_facts GXv30.out).2.2.2.2, HQ.out ▸ (out_cell GOv30.out hk3), (GOv30.out.frozen k)⟩
            clear hK K
            (try simp only [Act.put, List.setIfInBounds_toArray, List.set_cons_zero, List.set_cons_succ])
            refine Till.ready (rs := [10]) (by kernel_rfl) (by simp) ?_
            refine TillEach.cons rfl (fun K hK => ?_) ?_
            · go_simp
              go_wp2_with (go_at_call 29; refine (HATb.out v30 GPv30.out HBv30.out).mono ?_; rintro e v31 ⟨rfl, hb⟩)
              have GXv31 := Lib.hid (blk_call GXv30.out hb)
              have GOv31 := Lib.hid (blk_call GOv30.out hb)
              have GPv31 := Lib.hid (blk_call GPv30.out hb)
              have GRv31 := Lib.hid (blk_call GRv30.out hb)
              have HBv31 := Lib.hid (bw_call HBv30.out hb)
              clear hb GXv30 GOv30 GPv30 GRv30 HBv30
              refine hK.out _ _ ?_ (fun hHeld => ?_)
              · exact ⟨(ar_facts GXv31.out).1, (ar_facts GXv31.out).2.1, (ar_facts GXv31.out).2.2.1, (ar_facts GXv31.out).2.2.2.1, (ar_facts GXv31.out).2.2.2.2, HQ.out ▸ (out_cell GOv31.out hk3), (GOv31.out.frozen k)⟩
              clear hK K
              (try simp only [Act.put, List.setIfInBounds_toArray, List.set_cons_zero, List.set_cons_succ])
              refine Till.take (i := 11) (v := ?vt90) rfl (by kernel_rfl) (by kernel_rfl) (by kernel_rfl) (by kernel_rfl) (fun _ _ _ h => h) (Or.inl ⟨by rfl, ?ht90⟩) (by assumption) ?restt90
              case ht90 => (intro w hSw; (try dsimp only at hSw); go_simp; try with_reducible rfl)
              (try simp only [Act.put, List.setIfInBounds_toArray, List.set_cons_zero, List.set_cons_succ])
              refine Till.take (i := 12) (v := ?vt91) rfl (by kernel_rfl) (by kernel_rfl) (by kernel_rfl) (by kernel_rfl) (fun _ _ _ h => h) (Or.inl ⟨by rfl, ?ht91⟩) (by assumption) ?restt91
              case ht91 => (intro w hSw; (try dsimp only at hSw); go_simp; try with_reducible rfl)
              (try simp only [Act.put, List.setIfInBounds_toArray, List.set_cons_zero, List.set_cons_succ])
              refine Till.ready (rs := [13]) (by kernel_rfl) (by simp) ?_
              refine TillEach.cons rfl (fun K hK => ?_) ?_
              · go_simp
                go_wp2_with (go_at_call 30; refine (cutB_any _ v31).mono ?_; rintro e v32 ⟨rfl, hb⟩)
                have GXv32 := Lib.hid (blk_call GXv31.out hb)
                have GOv32 := Lib.hid (blk_call GOv31.out hb)
                have GPv32 := Lib.hid (blk_call GPv31.out hb)
                have GRv32 := Lib.hid (blk_call GRv31.out hb)
                have HBv32 := Lib.hid (bw_call HBv31.out hb)
                clear hb GXv31 GOv31 GPv31 GRv31 HBv31
                refine hK.out _ _ ?_ (fun hHeld => ?_)
                · exact ⟨(ar_facts GXv32.out).1, (ar_facts GXv32.out).2.1, (ar_facts GXv32.out).2.2.1, (ar_facts GXv32.out).2.2.2.1, (ar_facts GXv32.out).2.2.2.2, HQ.out ▸ (out_cell GOv32.out hk3), (GOv32.out.frozen k)⟩
                clear hK K
                (try simp only [Act.put, List.setIfInBounds_toArray, List.set_cons_zero, List.set_cons_succ])
                refine Till.take (i := 14) (v := ?vt92) rfl (by kernel_rfl) (by kernel_rfl) (by kernel_rfl) (by kernel_rfl) (fun _ _ _ h => h) (Or.inl ⟨by rfl, ?ht92⟩) (by assumption) ?restt92
                case ht92 => (intro w hSw; (try dsimp only at hSw); go_simp; try with_reducible rfl)
                (try simp only [Act.put, List.setIfInBounds_toArray, List.set_cons_zero, List.set_cons_succ])
                refine Till.ready (rs := [15]) (by kernel_rfl) (by simp) ?_
                refine TillEach.last rfl (fun K hK => ?_)
                · go_simp
                  refine hK.out _ _ ?_
                  clear hK K
                  (try simp only [Act.put, List.setIfInBounds_toArray, List.set_cons_zero, List.set_cons_succ])
                  refine Till.done (by kernel_rfl) ?_ _
                  go_wp2_with fail
                  exact ⟨⟨k + 1, by omega, by go_num, Lib.hid (GXv32.out.far HN.out.1 _), Lib.hid (GPv32.out.far HN.out.2.1 _), Lib.hid (GRv32.out.far HN.out.2.2 _), HSET.out _ GOv32.out, Lib.hid (bw_set HBv32.out HG3.out _)⟩, by simp [intOf]; omega⟩
              exact TillEach.nil
            exact TillEach.nil
          exact TillEach.nil
        obtain ⟨x0, x1, x2, x3, x4⟩ := ar_facts GXwB.out
        obtain ⟨u8, hu8⟩ : ∃ u8, u8 = wB.alloc (.cells #[.int .i64 xa, .int .i64 xb] 3) := ⟨_, rfl⟩
        have GXu8 := Lib.hid (GXwB.out.alloc (.cells #[.int .i64 xa, .int .i64 xb] 3))
        have GOu8 := Lib.hid (GOwB.out.alloc (.cells #[.int .i64 xa, .int .i64 xb] 3))
        have GPu8 := Lib.hid (GPwB.out.alloc (.cells #[.int .i64 xa, .int .i64 xb] 3))
        have GRu8 := Lib.hid (GRwB.out.alloc (.cells #[.int .i64 xa, .int .i64 xb] 3))
        have HBu8 := Lib.hid (bw_alloc HBwB.out (.cells #[.int .i64 xa, .int .i64 xb] 3))
        have RL : Hid (Reads (wB.alloc (.cells #[.int .i64 xa, .int .i64 xb] 3)) (wB.alloc (.cells #[.int .i64 xa, .int .i64 xb] 3)).heap.size 1 (some ⟨wB.heap.size, 0, none⟩) 2 (ZL [xa, xb])) := Lib.hid ((reads_blk (size := 1) (n := 2) (Blk.new wB 3 #[.int .i64 xa, .int .i64 xb]) rfl).more (Nat.le_of_eq (by simp)))
        rw [← hu8] at GXu8 GOu8 GPu8 GRu8 HBu8 RL
        go_wp2_with fail
        rw [← hu8]
        refine (ptIs_any g1 Ap np cp _ 2 2 [xa, xb] u8 (by decide) GPu8.out RL.out).mono ?_
        rw [show decide (∀ v ∈ [xa, xb], hasP np v) = false from decide_eq_false (by simpa using hM)]
        rintro e w' ⟨rfl, hw'⟩
        replace hw' := hw'.symm
        subst hw'
        clear hu8 RL x0 x1 x2 x3 x4 GXwB GOwB GPwB GRwB HBwB
        by_cases hL : hasP np xl
        · obtain ⟨x0, x1, x2, x3, x4⟩ := ar_facts GXu8.out
          obtain ⟨u9, hu9⟩ : ∃ u9, u9 = u8.alloc (.cells #[.int .i64 xl] 3) := ⟨_, rfl⟩
          have GXu9 := Lib.hid (GXu8.out.alloc (.cells #[.int .i64 xl] 3))
          have GOu9 := Lib.hid (GOu8.out.alloc (.cells #[.int .i64 xl] 3))
          have GPu9 := Lib.hid (GPu8.out.alloc (.cells #[.int .i64 xl] 3))
          have GRu9 := Lib.hid (GRu8.out.alloc (.cells #[.int .i64 xl] 3))
          have HBu9 := Lib.hid (bw_alloc HBu8.out (.cells #[.int .i64 xl] 3))
          have RL : Hid (Reads (u8.alloc (.cells #[.int .i64 xl] 3)) (u8.alloc (.cells #[.int .i64 xl] 3)).heap.size 1 (some ⟨u8.heap.size, 0, none⟩) 1 (ZL [xl])) := Lib.hid ((reads_blk (size := 1) (n := 1) (Blk.new u8 3 #[.int .i64 xl]) rfl).more (Nat.le_of_eq (by simp)))
          rw [← hu9] at GXu9 GOu9 GPu9 GRu9 HBu9 RL
          go_wp2_with fail
          rw [← hu9]
          refine (ptIs_any g1 Ap np cp _ 1 1 [xl] u9 (by decide) GPu9.out RL.out).mono ?_
          rw [show decide (∀ v ∈ [xl], hasP np v) = true from decide_eq_true (by simpa using hL)]
          rintro e w' ⟨rfl, hw'⟩
          replace hw' := hw'.symm
          subst hw'
          clear hu9 RL x0 x1 x2 x3 x4 GXu8 GOu8 GPu8 GRu8 HBu8
          have HCL := Lib.hid hL
          have HRU : Hid (ruleOf 1 X P.length = .last) := Lib.hid (by rw [HPL.out, HXX.out]; unfold ruleOf; rw [if_neg (fun h => absurd h.1 (by decide)), if_neg (fun h => absurd h.1 (by decide)), if_neg (fun h => hM h.2), if_pos ⟨by decide, hL⟩])
          clear hL hM
          have HSET : Hid (∀ (W : World), Blk W g3 36 (outC 1 X P k) → Hid (Blk (W.setCell ⟨g3, k, none⟩ (.int .i64 (pc P xl k))) g3 36 (outC 1 X P (k + 1)))) := Lib.hid fun W h => Lib.hid (by have h1 := out_set hk3 HRU.out h; rwa [show tell .last X P k = pc P xl k by rw [HXX.out]; show pc P xl k = _; rfl] at h1)
          obtain ⟨x0, x1, x2, x3, x4⟩ := ar_facts GXu9.out
          have y0 := HQ.out ▸ (out_cell GOu9.out hk3)
          have f0 := GOu9.out.frozen k
          go_wp2_with fail
          refine (HAT.out xl HCL.out u9 GPu9.out HBu9.out).mono ?_
          rintro e v30 ⟨rfl, hb⟩
          have GXv30 := Lib.hid (blk_call GXu9.out hb)
          have GOv30 := Lib.hid (blk_call GOu9.out hb)
          have GPv30 := Lib.hid (blk_call GPu9.out hb)
          have GRv30 := Lib.hid (blk_call GRu9.out hb)
          have HBv30 := Lib.hid (bw_call HBu9.out hb)
          clear hb x0 x1 x2 x3 x4 y0 f0 GXu9 GOu9 GPu9 GRu9 HBu9
          have y0 := HQ.out ▸ (out_cell GOv30.out hk3)
          have f0 := GOv30.out.frozen k
          go_wp2_with fail
          exact ⟨⟨k + 1, by omega, by go_num, Lib.hid (GXv30.out.far HN.out.1 _), Lib.hid (GPv30.out.far HN.out.2.1 _), Lib.hid (GRv30.out.far HN.out.2.2 _), HSET.out _ GOv30.out, Lib.hid (bw_set HBv30.out HG3.out _)⟩, by simp [intOf]; omega⟩
        obtain ⟨x0, x1, x2, x3, x4⟩ := ar_facts GXu8.out
        obtain ⟨u9, hu9⟩ : ∃ u9, u9 = u8.alloc (.cells #[.int .i64 xl] 3) := ⟨_, rfl⟩
        have GXu9 := Lib.hid (GXu8.out.alloc (.cells #[.int .i64 xl] 3))
        have GOu9 := Lib.hid (GOu8.out.alloc (.cells #[.int .i64 xl] 3))
        have GPu9 := Lib.hid (GPu8.out.alloc (.cells #[.int .i64 xl] 3))
        have GRu9 := Lib.hid (GRu8.out.alloc (.cells #[.int .i64 xl] 3))
        have HBu9 := Lib.hid (bw_alloc HBu8.out (.cells #[.int .i64 xl] 3))
        have RL : Hid (Reads (u8.alloc (.cells #[.int .i64 xl] 3)) (u8.alloc (.cells #[.int .i64 xl] 3)).heap.size 1 (some ⟨u8.heap.size, 0, none⟩) 1 (ZL [xl])) := Lib.hid ((reads_blk (size := 1) (n := 1) (Blk.new u8 3 #[.int .i64 xl]) rfl).more (Nat.le_of_eq (by simp)))
        rw [← hu9] at GXu9 GOu9 GPu9 GRu9 HBu9 RL
        go_wp2_with fail
        rw [← hu9]
        refine (ptIs_any g1 Ap np cp _ 1 1 [xl] u9 (by decide) GPu9.out RL.out).mono ?_
        rw [show decide (∀ v ∈ [xl], hasP np v) = false from decide_eq_false (by simpa using hL)]
        rintro e w' ⟨rfl, hw'⟩
        replace hw' := hw'.symm
        subst hw'
        clear hu9 RL x0 x1 x2 x3 x4 GXu8 GOu8 GPu8 GRu8 HBu8
        have HRU : Hid (ruleOf 1 X np = .none) := Lib.hid (by rw [HXX.out]; unfold ruleOf; rw [if_neg (fun h => absurd h.1 (by decide)), if_neg (fun h => absurd h.1 (by decide)), if_neg (fun h => hM h.2), if_neg (fun h => hL h.2)])
        have HSN := Lib.hid (fun (W : World) (h : Blk W g3 36 (outC 1 X P k)) => out_none hk3 (by rw [HPL.out]; exact HRU.out) h)
        go_wp2_with fail
        exact ⟨⟨k + 1, by omega, by go_num, GXu9, GPu9, GRu9, Lib.hid (HSN.out _ GOu9.out), HBu9⟩, by simp [intOf]; omega⟩
      by_cases hkd0 : kd = 0
      · subst hkd0
        by_cases hL : hasP np xl
        · obtain ⟨x0, x1, x2, x3, x4⟩ := ar_facts GXwB.out
          obtain ⟨u10, hu10⟩ : ∃ u10, u10 = wB.alloc (.cells #[.int .i64 xl] 3) := ⟨_, rfl⟩
          have GXu10 := Lib.hid (GXwB.out.alloc (.cells #[.int .i64 xl] 3))
          have GOu10 := Lib.hid (GOwB.out.alloc (.cells #[.int .i64 xl] 3))
          have GPu10 := Lib.hid (GPwB.out.alloc (.cells #[.int .i64 xl] 3))
          have GRu10 := Lib.hid (GRwB.out.alloc (.cells #[.int .i64 xl] 3))
          have HBu10 := Lib.hid (bw_alloc HBwB.out (.cells #[.int .i64 xl] 3))
          have RL : Hid (Reads (wB.alloc (.cells #[.int .i64 xl] 3)) (wB.alloc (.cells #[.int .i64 xl] 3)).heap.size 1 (some ⟨wB.heap.size, 0, none⟩) 1 (ZL [xl])) := Lib.hid ((reads_blk (size := 1) (n := 1) (Blk.new wB 3 #[.int .i64 xl]) rfl).more (Nat.le_of_eq (by simp)))
          rw [← hu10] at GXu10 GOu10 GPu10 GRu10 HBu10 RL
          go_wp2_with fail
          rw [← hu10]
          refine (ptIs_any g1 Ap np cp _ 1 1 [xl] u10 (by decide) GPu10.out RL.out).mono ?_
          rw [show decide (∀ v ∈ [xl], hasP np v) = true from decide_eq_true (by simpa using hL)]
          rintro e w' ⟨rfl, hw'⟩
          replace hw' := hw'.symm
          subst hw'
          clear hu10 RL x0 x1 x2 x3 x4 GXwB GOwB GPwB GRwB HBwB
          have HCL := Lib.hid hL
          have HRU : Hid (ruleOf 0 X P.length = .last) := Lib.hid (by rw [HPL.out, HXX.out]; unfold ruleOf; rw [if_neg (fun h => absurd h.1 (by decide)), if_neg (fun h => absurd h.1 (by decide)), if_neg (fun h => absurd h.1 (by decide)), if_pos ⟨by decide, hL⟩])
          clear hL
          have HSET : Hid (∀ (W : World), Blk W g3 36 (outC 0 X P k) → Hid (Blk (W.setCell ⟨g3, k, none⟩ (.int .i64 (pc P xl k))) g3 36 (outC 0 X P (k + 1)))) := Lib.hid fun W h => Lib.hid (by have h1 := out_set hk3 HRU.out h; rwa [show tell .last X P k = pc P xl k by rw [HXX.out]; show pc P xl k = _; rfl] at h1)
          obtain ⟨x0, x1, x2, x3, x4⟩ := ar_facts GXu10.out
          have y0 := HQ.out ▸ (out_cell GOu10.out hk3)
          have f0 := GOu10.out.frozen k
          go_wp2_with fail
          refine (HAT.out xl HCL.out u10 GPu10.out HBu10.out).mono ?_
          rintro e v30 ⟨rfl, hb⟩
          have GXv30 := Lib.hid (blk_call GXu10.out hb)
          have GOv30 := Lib.hid (blk_call GOu10.out hb)
          have GPv30 := Lib.hid (blk_call GPu10.out hb)
          have GRv30 := Lib.hid (blk_call GRu10.out hb)
          have HBv30 := Lib.hid (bw_call HBu10.out hb)
          clear hb x0 x1 x2 x3 x4 y0 f0 GXu10 GOu10 GPu10 GRu10 HBu10
          have y0 := HQ.out ▸ (out_cell GOv30.out hk3)
          have f0 := GOv30.out.frozen k
          go_wp2_with fail
          exact ⟨⟨k + 1, by omega, by go_num, Lib.hid (GXv30.out.far HN.out.1 _), Lib.hid (GPv30.out.far HN.out.2.1 _), Lib.hid (GRv30.out.far HN.out.2.2 _), HSET.out _ GOv30.out, Lib.hid (bw_set HBv30.out HG3.out _)⟩, by simp [intOf]; omega⟩
        obtain ⟨x0, x1, x2, x3, x4⟩ := ar_facts GXwB.out
        obtain ⟨u10, hu10⟩ : ∃ u10, u10 = wB.alloc (.cells #[.int .i64 xl] 3) := ⟨_, rfl⟩
        have GXu10 := Lib.hid (GXwB.out.alloc (.cells #[.int .i64 xl] 3))
        have GOu10 := Lib.hid (GOwB.out.alloc (.cells #[.int .i64 xl] 3))
        have GPu10 := Lib.hid (GPwB.out.alloc (.cells #[.int .i64 xl] 3))
        have GRu10 := Lib.hid (GRwB.out.alloc (.cells #[.int .i64 xl] 3))
        have HBu10 := Lib.hid (bw_alloc HBwB.out (.cells #[.int .i64 xl] 3))
        have RL : Hid (Reads (wB.alloc (.cells #[.int .i64 xl] 3)) (wB.alloc (.cells #[.int .i64 xl] 3)).heap.size 1 (some ⟨wB.heap.size, 0, none⟩) 1 (ZL [xl])) := Lib.hid ((reads_blk (size := 1) (n := 1) (Blk.new wB 3 #[.int .i64 xl]) rfl).more (Nat.le_of_eq (by simp)))
        rw [← hu10] at GXu10 GOu10 GPu10 GRu10 HBu10 RL
        go_wp2_with fail
        rw [← hu10]
        refine (ptIs_any g1 Ap np cp _ 1 1 [xl] u10 (by decide) GPu10.out RL.out).mono ?_
        rw [show decide (∀ v ∈ [xl], hasP np v) = false from decide_eq_false (by simpa using hL)]
        rintro e w' ⟨rfl, hw'⟩
        replace hw' := hw'.symm
        subst hw'
        clear hu10 RL x0 x1 x2 x3 x4 GXwB GOwB GPwB GRwB HBwB
        have HRU : Hid (ruleOf 0 X np = .none) := Lib.hid (by rw [HXX.out]; unfold ruleOf; rw [if_neg (fun h => absurd h.1 (by decide)), if_neg (fun h => absurd h.1 (by decide)), if_neg (fun h => absurd h.1 (by decide)), if_neg (fun h => hL h.2)])
        have HSN := Lib.hid (fun (W : World) (h : Blk W g3 36 (outC 0 X P k)) => out_none hk3 (by rw [HPL.out]; exact HRU.out) h)
        go_wp2_with fail
        exact ⟨⟨k + 1, by omega, by go_num, GXu10, GPu10, GRu10, Lib.hid (HSN.out _ GOu10.out), HBu10⟩, by simp [intOf]; omega⟩
      have HRU : Hid (ruleOf kd X P.length = .none) := Lib.hid (by simp [ruleOf, hkd3, hkd2, hkd1, hkd0])
      have HSN := Lib.hid (fun (W : World) (h : Blk W g3 36 (outC kd X P k)) => out_none hk3 HRU.out h)
      have hb3 : (kd == 3) = false := by simp [hkd3]
      have hb2 : (kd == 2) = false := by simp [hkd2]
      have hb1 : (kd == 1) = false := by simp [hkd1]
      have hb0 : (kd == 0) = false := by simp [hkd0]
      go_wp2_with fail
      exact ⟨⟨k + 1, by omega, by go_num, GXwB, GPwB, GRwB, Lib.hid (HSN.out _ GOwB.out), HBwB⟩, by simp [intOf]; omega⟩
    · obtain rfl : k = 3 := by omega
      go_upto_region 21 with (fail)
      obtain ⟨y0, y1, y2⟩ : wB.cell? ⟨g3, 0, none⟩ = some (.int .i64 (pointL kd X P 0)) ∧ wB.cell? ⟨g3, 1, none⟩ = some (.int .i64 (pointL kd X P 1)) ∧ wB.cell? ⟨g3, 2, none⟩ = some (.int .i64 (pointL kd X P 2)) := ⟨GOwB.out.cell 0, GOwB.out.cell 1, GOwB.out.cell 2⟩
      have f0 := GRwB.out.frozen 0
      have f1 := GRwB.out.frozen 1
      have f2 := GRwB.out.frozen 2
      have r0 := GRwB.out.cell 0
      have r1 := GRwB.out.cell 1
      have r2 := GRwB.out.cell 2
      simp at r0 r1 r2
      go_wp2_with fail
      have GR2 := ((GRwB.out.set_ 0 (.int .i64 (pointL kd X P 0))).set_ 1 (.int .i64 (pointL kd X P 1))).set_ 2 (.int .i64 (pointL kd X P 2))
      have z0 := GR2.cell 0
      have z1 := GR2.cell 1
      have z2 := GR2.cell 2
      simp at z0 z1 z2
      refine bodyPost_ret (v := .agg #[.int .i64 (pointL kd X P 0), .int .i64 (pointL kd X P 1), .int .i64 (pointL kd X P 2)]) ?_ rfl ⟨rfl, bw_set (bw_set (bw_set HBwB.out HG2.out _) HG2.out _) HG2.out _⟩
      simp [results, Try.results13, go_sem, z0, z1, z2]
end Go.Proofs.Ytcpfolojfdnojaa
