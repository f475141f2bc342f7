/- gypsumref11.With, At, gypsumref31.Is, Bits and Edges, walked. No condition but sizes. -/
import Derived.Test.YtcahbcminonfbaaGreatSmS
namespace Go.Proofs.YtcahbcminonfbaaGreat
open Go.RowKit

set_option linter.unusedSimpArgs false
set_option linter.unusedVariables false
theorem ERow.ownk {w : World} {B c k : Nat} {A : Option Addr} {L : List (Int × Int)} (h : ERow w B A c L) (hk : L.length = k) : w.ownsRow B 42 2 (.slice A k c) k (L.flatMap cellE) := by subst hk; exact h
theorem erow_ofk {w : World} {B c k : Nat} {A : Option Addr} {L : List (Int × Int)} {xs : List Value} (h : w.ownsRow B 42 2 (.slice A k c) k xs) (hk : L.length = k) (hx : xs = L.flatMap cellE) : ERow w B A c L := by subst hk hx; exact h
theorem TriQ.cornerS {w : World} {q : Addr} {t : Tri} (h : TriQ w q t) {x : Nat} (hx : x < 3) : CellQ w (q.add x) (.int .i64 (cornerT t x)) := by
  refine ⟨?_, by rw [block_of_add]; exact h.lt⟩
  rcases (by omega : x = 0 ∨ x = 1 ∨ x = 2) with rfl | rfl | rfl
  · rw [show q.add 0 = q by simp [Addr.add]]
    exact h.c.c0
  · exact h.c.c1
  · exact h.c.c2
theorem edge_no {t : Tri} {a b : Int} (h : ∀ q, q < 3 → ¬ (cornerT t q = a ∧ cornerT t ((q + 1) % 3) = b)) : edgeB t a b = false := by
  cases he : edgeB t a b with
  | false => rfl
  | true =>
    unfold edgeB at he
    simp only [Bool.or_eq_true, Bool.and_eq_true, beq_iff_eq] at he
    rcases he with (h1 | h1) | h1
    · exact absurd h1 (h 0 (by omega))
    · exact absurd h1 (h 1 (by omega))
    · exact absurd h1 (h 2 (by omega))
theorem edge_yes {t : Tri} {a b : Int} {q : Nat} (hq : q < 3) (h1 : cornerT t q = a) (h2 : cornerT t ((q + 1) % 3) = b) : edgeB t a b = true := by
  unfold edgeB
  simp only [Bool.or_eq_true, Bool.and_eq_true, beq_iff_eq]
  rcases (by omega : q = 0 ∨ q = 1 ∨ q = 2) with rfl | rfl | rfl
  · exact .inl (.inl ⟨h1, h2⟩)
  · exact .inl (.inr ⟨h1, h2⟩)
  · exact .inr ⟨h1, h2⟩
theorem at_yes {T : List Tri} {i k : Nat} {v : Int} (hk : k < 3) (h : cornerT (tri T i) k = v) (hn : ∀ q, q < k → cornerT (tri T i) q ≠ v) : atI T i v = ((3 * i + k : Nat) : Int) := by
  unfold atI
  rcases (by omega : k = 0 ∨ k = 1 ∨ k = 2) with rfl | rfl | rfl
  · rw [if_pos h]
    rfl
  · rw [if_neg (hn 0 (by omega)), if_pos h]
  · rw [if_neg (hn 0 (by omega)), if_neg (hn 1 (by omega)), if_pos h]
theorem at_no {T : List Tri} {i : Nat} {v : Int} (hn : ∀ q, q < 3 → cornerT (tri T i) q ≠ v) : atI T i v = -1 := by
  unfold atI
  rw [if_neg (hn 0 (by omega)), if_neg (hn 1 (by omega)), if_neg (hn 2 (by omega))]
attribute [local irreducible] Blk LRow World.alloc World.setCell World.cell? World.frozen? MapV ERow BR
set_option maxRecDepth 100000 in
set_option maxHeartbeats 4000000 in
theorem with31_any (N : Int) (A : Option Addr) (c : Nat) (T : List Tri) (a b : Int) (w : World) (hT : T.length ≤ 1000) (ht : TrisAt w w.heap.size A T.length T) :
    Calls Tryz.prog 26 #[.agg #[.int .i64 N, .slice A T.length c], .int .i64 a, .int .i64 b] w (IntPost w (optI (withF T a b))) := by
  have HT := Lib.hid ht
  clear ht
  obtain ⟨r, HR⟩ : ∃ r, Hid (optI (withF T a b) = r) := ⟨_, Lib.hid rfl⟩
  rw [HR.out]
  obtain ⟨V, hV⟩ : ∃ V, V = w.alloc (.cells #[.int .i64 N, .slice A T.length c] 24) := ⟨_, rfl⟩
  have GA0 : Hid (Blk V w.heap.size 24 #[.int .i64 N, .slice A T.length c]) := by subst hV; exact Lib.hid (Blk.new _ _ _)
  have HB0 : Hid (Below w.heap.size w V) := by subst hV; exact Lib.hid (bw_alloc (Below.refl _ _) _)
  go_enter Tryz.func26, Tryz.ntmps26
  go_upto_region 1 with (fail)
  rw [← hV]
  clear hV
  obtain ⟨ga, hga⟩ : ∃ g, g = w.heap.size := ⟨_, rfl⟩
  rw [← hga] at GA0
  simp only [← hga]
  clear hga
  obtain ⟨s0, s1, _, _, _⟩ := soup_facts GA0.out
  go_wp2_with fail
  go_loopw [7] (fun iv wr => ∃ i : Nat, i ≤ T.length ∧ iv = .int .i64 i ∧ Hid (∀ j, j < i → edgeB (tri T j) a b = false) ∧ wr = V) (fun iv _ => T.length - (intOf iv).toNat)
  case atStart => exact ⟨0, by omega, rfl, Lib.hid (fun j hj => absurd hj (by omega)), rfl⟩
  case round =>
    obtain ⟨i, hi, rfl, HOi, hwr⟩ := hrel
    obtain ⟨wB, hwB⟩ : ∃ wB : World, wB = wr := ⟨_, rfl⟩
    rw [← hwB] at hwr ⊢
    clear hwB
    subst hwr
    by_cases hlt : i < T.length
    rotate_left
    · obtain rfl : i = T.length := by omega
      obtain rfl : -1 = r := by
        rw [← HR.out, show withF T a b = none from leastF_no fun j _ hj => HOi.out j (by omega)]
        rfl
      go_wp2_with fail
      go_ret
      exact ⟨rfl, HB0.out⟩
    have hii : (i : Int) < (T.length : Int) := by omega
    obtain ⟨ad, hAd, tq⟩ := (HT.out.below HB0.out).triQ HB0.out.size hlt
    subst hAd
    have TQ := Lib.hid tq
    have HWY : Hid (edgeB (tri T i) a b = true → (i : Int) = r) := Lib.hid fun h => by
      rw [← HR.out, show withF T a b = some i from leastF_is (Nat.zero_le _) (by omega) h fun j _ hj => HOi.out j hj]
      rfl
    have HO1 : Hid (edgeB (tri T i) a b = false → ∀ j, j < i + 1 → edgeB (tri T j) a b = false) := Lib.hid (fun h j hj => by
      by_cases e : j = i
      · subst e; exact h
      · exact HOi.out j (by omega))
    clear tq
    generalize tri T i = t at *
    go_wp2_with fail
    go_loopw [8] (fun iv wr => ∃ k : Nat, k ≤ 3 ∧ iv = .int .i64 k ∧ Hid (∀ q, q < k → ¬ (cornerT t q = a ∧ cornerT t ((q + 1) % 3) = b)) ∧ wr = wB) (fun iv _ => 3 - (intOf iv).toNat)
    case atStart => exact ⟨0, by omega, rfl, Lib.hid (fun j hj => absurd hj (by omega)), rfl⟩
    case round =>
      obtain ⟨k, hk, rfl, HQ, hwr⟩ := hrel
      obtain ⟨wC, hwC⟩ : ∃ wC : World, wC = wr := ⟨_, rfl⟩
      rw [← hwC] at hwr ⊢
      clear hwC
      subst hwr
      by_cases hk3 : k < 3
      rotate_left
      · obtain rfl : k = 3 := by omega
        have HON := Lib.hid (HO1.out (edge_no HQ.out))
        go_wp2_with fail
        exact ⟨⟨i + 1, by omega, by go_num, HON, by first | rfl | trivial⟩, by simp [intOf]; omega⟩
      have hki : (k : Int) < 3 := by omega
      obtain ⟨k2, hk2⟩ : ∃ k2, (k + 1) % 3 = k2 := ⟨_, rfl⟩
      have hk23 : k2 < 3 := by omega
      have hk2i : (k2 : Int) < 3 := by omega
      have e1 : Int.tmod ((k : Int) + 1) 3 = (k2 : Int) := by rw [← hk2]; exact Int.ofNat_tmod (k + 1) 3
      have hw1 : IntKind.i64.wrap ((k : Int) + 1) = (k : Int) + 1 := IntWalk.i64_in _ (by omega)
      have hw2 : IntKind.i64.wrap (k2 : Int) = (k2 : Int) := IntWalk.i64_in _ (by omega)
      have x0 := (TQ.out.cornerS hk3).c
      have y0 := (TQ.out.cornerS hk23).c
      have HYS : Hid (cornerT t k = a → cornerT t k2 = b → (i : Int) = r) := Lib.hid fun h1 h2 => HWY.out (edge_yes hk3 h1 (by rw [hk2]; exact h2))
      have HNS : Hid (¬ (cornerT t k = a ∧ cornerT t k2 = b) → ∀ q, q < k + 1 → ¬ (cornerT t q = a ∧ cornerT t ((q + 1) % 3) = b)) := Lib.hid fun h q hq => by
        by_cases e : q = k
        · subst e; rw [hk2]; exact h
        · exact HQ.out q (by omega)
      clear hk2
      generalize cornerT t k = x at *
      generalize cornerT t k2 = y at *
      by_cases hx : x = a
      rotate_left
      · have hxb : (x == a) = false := by simpa using hx
        have HN := Lib.hid (HNS.out fun h => hx h.1)
        clear hx HNS HYS
        go_wp2_with fail
        exact ⟨⟨k + 1, by omega, by go_num, HN, by first | rfl | trivial⟩, by simp [intOf]; omega⟩
      by_cases hy : y = b
      rotate_left
      · have hyb : (y == b) = false := by simpa using hy
        have HN := Lib.hid (HNS.out fun h => hy h.2)
        subst hx
        clear hy HNS HYS
        go_wp2_with fail
        exact ⟨⟨k + 1, by omega, by go_num, HN, by first | rfl | trivial⟩, by simp [intOf]; omega⟩
      obtain rfl := HYS.out hx hy
      subst hx hy
      clear HNS HYS
      go_wp2_with fail
      go_ret
      exact ⟨rfl, HB0.out⟩
set_option maxRecDepth 100000 in
set_option maxHeartbeats 4000000 in
theorem at31_any (N : Int) (A : Option Addr) (c : Nat) (T : List Tri) (i : Nat) (v : Int) (w : World) (hT : T.length ≤ 1000) (hi : i < T.length) (ht : TrisAt w w.heap.size A T.length T) :
    Calls Tryz.prog 42 #[.agg #[.int .i64 N, .slice A T.length c], .int .i64 (i : Int), .int .i64 v] w (IntPost w (atI T i v)) := by
  have HT := Lib.hid ht
  clear ht
  obtain ⟨r, HR⟩ : ∃ r, Hid (atI T i v = r) := ⟨_, Lib.hid rfl⟩
  rw [HR.out]
  obtain ⟨V, hV⟩ : ∃ V, V = w.alloc (.cells #[.int .i64 N, .slice A T.length c] 24) := ⟨_, rfl⟩
  have GA0 : Hid (Blk V w.heap.size 24 #[.int .i64 N, .slice A T.length c]) := by subst hV; exact Lib.hid (Blk.new _ _ _)
  have HB0 : Hid (Below w.heap.size w V) := by subst hV; exact Lib.hid (bw_alloc (Below.refl _ _) _)
  go_enter Tryz.func42, Tryz.ntmps42
  go_upto_region 1 with (fail)
  rw [← hV]
  clear hV
  obtain ⟨ga, hga⟩ : ∃ g, g = w.heap.size := ⟨_, rfl⟩
  rw [← hga] at GA0
  simp only [← hga]
  clear hga
  obtain ⟨s0, s1, _, _, _⟩ := soup_facts GA0.out
  have hii : (i : Int) < (T.length : Int) := by omega
  obtain ⟨ad, hAd, tq⟩ := (HT.out.below HB0.out).triQ HB0.out.size hi
  subst hAd
  have TQ := Lib.hid tq
  have HAY := Lib.hid (fun k (h1 : k < 3) h2 h3 => (at_yes (T := T) (i := i) (v := v) h1 h2 h3).symm.trans HR.out)
  have HAN := Lib.hid (fun h => (at_no (T := T) (i := i) (v := v) h).symm.trans HR.out)
  clear tq
  generalize tri T i = t at *
  go_wp2_with fail
  go_loopw [7] (fun iv wr => ∃ k : Nat, k ≤ 3 ∧ iv = .int .i64 k ∧ Hid (∀ q, q < k → cornerT t q ≠ v) ∧ wr = V) (fun iv _ => 3 - (intOf iv).toNat)
  case atStart => exact ⟨0, by omega, rfl, Lib.hid (fun j hj => absurd hj (by omega)), rfl⟩
  case round =>
    obtain ⟨k, hk, rfl, HQ, hwr⟩ := hrel
    obtain ⟨wC, hwC⟩ : ∃ wC : World, wC = wr := ⟨_, rfl⟩
    rw [← hwC] at hwr ⊢
    clear hwC
    subst hwr
    by_cases hk3 : k < 3
    rotate_left
    · obtain rfl : k = 3 := by omega
      obtain rfl := HAN.out HQ.out
      go_wp2_with fail
      go_ret
      exact ⟨rfl, HB0.out⟩
    have hki : (k : Int) < 3 := by omega
    have x0 := (TQ.out.cornerS hk3).c
    have HYS := Lib.hid (fun h => HAY.out k hk3 h HQ.out)
    have HNS : Hid (cornerT t k ≠ v → ∀ q, q < k + 1 → cornerT t q ≠ v) := Lib.hid fun h q hq => by
      by_cases e : q = k
      · subst e; exact h
      · exact HQ.out q (by omega)
    have hw1 : IntKind.i64.wrap (3 * (i : Int)) = 3 * (i : Int) := IntWalk.i64_in _ (by omega)
    have hw2 : IntKind.i64.wrap (3 * (i : Int) + (k : Int)) = 3 * (i : Int) + (k : Int) := IntWalk.i64_in _ (by omega)
    generalize cornerT t k = x at *
    by_cases hx : x = v
    rotate_left
    · have hxb : (x == v) = false := by simpa using hx
      have HN := Lib.hid (HNS.out hx)
      clear hx HNS HYS
      go_wp2_with fail
      exact ⟨⟨k + 1, by omega, by go_num, HN, by first | rfl | trivial⟩, by simp [intOf]; omega⟩
    have hr := HYS.out hx
    rw [show ((3 * i + k : Nat) : Int) = 3 * (i : Int) + (k : Int) by omega] at hr
    have HRR := Lib.hid hr
    subst hx
    clear HNS HYS hr
    go_wp2_with fail
    go_ret
    refine ⟨?_, HB0.out⟩
    first | rfl | (show Ending.returned (.int .i64 _) = Ending.returned (.int .i64 r); rw [HRR.out])
set_option maxRecDepth 100000 in
set_option maxHeartbeats 8000000 in
theorem is31_any (N : Int) (A : Option Addr) (c m : Nat) (T : List Tri) (Ak : Option Addr) (ck : Nat) (K : List Int) (a b : Int) (w : World) (hT : T.length ≤ 1000) (hs : SurfE m T) (hok : okK T.length K) (ht : TrisAt w w.heap.size A T.length T) (hk : KR w Ak K) :
    Calls Tryz.prog 27 #[.agg #[.int .i64 N, .slice A T.length c], .slice Ak K.length ck, .int .i64 a, .int .i64 b] w (BoolPost w (isR T K a b)) := by
  have HT := Lib.hid ht
  have HK0 := Lib.hid hk
  have HSE := Lib.hid hs
  have HOK := Lib.hid hok
  clear ht hk hs hok
  obtain ⟨r, HR⟩ : ∃ r, Hid (isR T K a b = r) := ⟨_, Lib.hid rfl⟩
  rw [HR.out]
  obtain ⟨V, hV⟩ : ∃ V, V = w.alloc (.cells #[.int .i64 N, .slice A T.length c] 24) := ⟨_, rfl⟩
  have GA0 : Hid (Blk V w.heap.size 24 #[.int .i64 N, .slice A T.length c]) := by subst hV; exact Lib.hid (Blk.new _ _ _)
  have HB0 : Hid (Below w.heap.size w V) := by subst hV; exact Lib.hid (bw_alloc (Below.refl _ _) _)
  go_enter Tryz.func27, Tryz.ntmps27
  go_upto_region 1 with (fail)
  rw [← hV]
  clear hV
  obtain ⟨ga, hga⟩ : ∃ g, g = w.heap.size := ⟨_, rfl⟩
  rw [← hga] at GA0
  simp only [← hga]
  clear hga
  have GAw0 := GA0
  have HBw0 := HB0
  obtain ⟨w0, hw0⟩ : ∃ W : World, W = V := ⟨_, rfl⟩
  rw [← hw0] at GAw0 HBw0 ⊢
  clear hw0 GA0 HB0
  have HW1 : Hid (∀ (W : World), Below w.heap.size w W → Calls Tryz.prog 26 #[.agg #[.int .i64 N, .slice A T.length c], .int .i64 a, .int .i64 b] W (IntPost W (optI (withF T a b)))) := Lib.hid fun W h => with31_any N A c T a b W hT ((HT.out.below h).more h.size)
  have HW2 : Hid (∀ (W : World), Below w.heap.size w W → Calls Tryz.prog 26 #[.agg #[.int .i64 N, .slice A T.length c], .int .i64 b, .int .i64 a] W (IntPost W (optI (withF T b a)))) := Lib.hid fun W h => with31_any N A c T b a W hT ((HT.out.below h).more h.size)
  rcases with_at (a := a) (b := b) HSE.out with ⟨hw, hf⟩ | ⟨cc, hcl, hf, hw, _, _⟩
  · rw [hw] at HW1
    rw [show optI none = -1 from rfl] at HW1
    obtain rfl : false = r := by rw [← HR.out]; unfold isR; rw [hf]
    clear hw hf
    generalize optI (withF T b a) = yy at *
    refine wp_region_till (S := fun w' => w'.cell? ⟨ga, 0, none⟩ = some (.int .i64 N) ∧ w'.cell? ⟨ga, 1, none⟩ = some (.slice A T.length c)) 9 (by kernel_rfl) ⟨(soup_facts GAw0.out.drew).1, (soup_facts GAw0.out.drew).2.1⟩ (fun hHeld => ?_)
    refine Till.take (i := 0) (v := ?vt44) rfl (by kernel_rfl) (by kernel_rfl) (by kernel_rfl) (by kernel_rfl) (fun _ _ _ h => h) (Or.inl ⟨by rfl, ?ht44⟩) (by assumption) ?restt44
    case ht44 => (intro w hSw; (try dsimp only at hSw); go_simp; try with_reducible rfl)
    (try simp only [Act.put, List.setIfInBounds_toArray, List.set_cons_zero, List.set_cons_succ])
    refine Till.take (i := 1) (v := ?vt45) rfl (by kernel_rfl) (by kernel_rfl) (by kernel_rfl) (by kernel_rfl) (fun _ _ _ h => h) (Or.inl ⟨by rfl, ?ht45⟩) (by assumption) ?restt45
    case ht45 => (intro w hSw; (try dsimp only at hSw); go_simp; try with_reducible rfl)
    (try simp only [Act.put, List.setIfInBounds_toArray, List.set_cons_zero, List.set_cons_succ])
    refine Till.take (i := 2) (v := ?vt46) rfl (by kernel_rfl) (by kernel_rfl) (by kernel_rfl) (by kernel_rfl) (fun _ _ _ h => h) (Or.inl ⟨by rfl, ?ht46⟩) (by assumption) ?restt46
    case ht46 => (intro w hSw; (try dsimp only at hSw); go_simp; try with_reducible rfl)
    (try simp only [Act.put, List.setIfInBounds_toArray, List.set_cons_zero, List.set_cons_succ])
    refine Till.take (i := 4) (v := ?vt47) rfl (by kernel_rfl) (by kernel_rfl) (by kernel_rfl) (by kernel_rfl) (fun _ _ _ h => h) (Or.inl ⟨by rfl, ?ht47⟩) (by assumption) ?restt47
    case ht47 => (intro w hSw; (try dsimp only at hSw); go_simp; try with_reducible rfl)
    (try simp only [Act.put, List.setIfInBounds_toArray, List.set_cons_zero, List.set_cons_succ])
    refine Till.take (i := 5) (v := ?vt48) rfl (by kernel_rfl) (by kernel_rfl) (by kernel_rfl) (by kernel_rfl) (fun _ _ _ h => h) (Or.inl ⟨by rfl, ?ht48⟩) (by assumption) ?restt48
    case ht48 => (intro w hSw; (try dsimp only at hSw); go_simp; try with_reducible rfl)
    (try simp only [Act.put, List.setIfInBounds_toArray, List.set_cons_zero, List.set_cons_succ])
    refine Till.take (i := 6) (v := ?vt49) rfl (by kernel_rfl) (by kernel_rfl) (by kernel_rfl) (by kernel_rfl) (fun _ _ _ h => h) (Or.inl ⟨by rfl, ?ht49⟩) (by assumption) ?restt49
    case ht49 => (intro w hSw; (try dsimp only at hSw); go_simp; try with_reducible rfl)
    (try simp only [Act.put, List.setIfInBounds_toArray, List.set_cons_zero, List.set_cons_succ])
    refine Till.ready (rs := [3]) (by kernel_rfl) (by simp) ?_
    refine TillEach.cons rfl (fun K hK => ?_) ?_
    · go_simp
      go_wp2_with (go_at_call 26; refine (HW1.out w0.drew (bw_drew HBw0.out)).mono ?_; rintro e v3 ⟨rfl, hb⟩)
      have GAv3 := Lib.hid (blk_call GAw0.out.drew hb)
      have HBv3 := Lib.hid (bw_call (bw_drew HBw0.out) hb)
      clear hb
      refine hK.out _ _ ?_ (fun hHeld => ?_)
      · exact ⟨(soup_facts GAv3.out).1, (soup_facts GAv3.out).2.1⟩
      clear hK K
      (try simp only [Act.put, List.setIfInBounds_toArray, List.set_cons_zero, List.set_cons_succ])
      refine Till.ready (rs := [7]) (by kernel_rfl) (by simp) ?_
      refine TillEach.cons rfl (fun K hK => ?_) ?_
      · go_simp
        go_wp2_with (go_at_call 26; refine (HW2.out v3 HBv3.out).mono ?_; rintro e v4 ⟨rfl, hb⟩)
        have GAv4 := Lib.hid (blk_call GAv3.out hb)
        have HBv4 := Lib.hid (bw_call HBv3.out hb)
        clear hb GAv3 HBv3
        refine hK.out _ _ ?_ (fun hHeld => ?_)
        · exact ⟨(soup_facts GAv4.out).1, (soup_facts GAv4.out).2.1⟩
        clear hK K
        (try simp only [Act.put, List.setIfInBounds_toArray, List.set_cons_zero, List.set_cons_succ])
        refine Till.take (i := 8) (v := ?vt50) rfl (by kernel_rfl) (by kernel_rfl) (by kernel_rfl) (by kernel_rfl) (fun _ _ _ h => h) (Or.inl ⟨by rfl, ?ht50⟩) (by assumption) ?restt50
        case ht50 => (intro w hSw; (try dsimp only at hSw); go_simp; try with_reducible rfl)
        (try simp only [Act.put, List.setIfInBounds_toArray, List.set_cons_zero, List.set_cons_succ])
        refine Till.ready (rs := [9]) (by kernel_rfl) (by simp) ?_
        refine TillEach.last rfl (fun K hK => ?_)
        · go_simp
          refine hK.out _ _ ?_
          clear hK K
          (try simp only [Act.put, List.setIfInBounds_toArray, List.set_cons_zero, List.set_cons_succ])
          refine Till.done (by kernel_rfl) ?_ _
          go_wp2_with fail
          go_ret
          exact ⟨rfl, HBv4.out⟩
      exact TillEach.nil
    exact TillEach.nil
  rw [hw] at HW1
  rw [show optI (some (cc / 3)) = ((cc / 3 : Nat) : Int) from rfl] at HW1
  have hc30 : ¬ ((cc / 3 : Nat) : Int) < 0 := by omega
  cases ho : oppF T cc with
  | none =>
    have hw2 := with_none (show facingF T (b, a) = none by rw [← is_opp hf]; exact ho)
    rw [hw2] at HW2
    rw [show optI none = -1 from rfl] at HW2
    obtain rfl : false = r := by rw [← HR.out]; simp [isR, partsB, hf, ho]
    clear hw hf ho hw2
    generalize cc / 3 = q1 at *
    refine wp_region_till (S := fun w' => w'.cell? ⟨ga, 0, none⟩ = some (.int .i64 N) ∧ w'.cell? ⟨ga, 1, none⟩ = some (.slice A T.length c)) 9 (by kernel_rfl) ⟨(soup_facts GAw0.out.drew).1, (soup_facts GAw0.out.drew).2.1⟩ (fun hHeld => ?_)
    refine Till.take (i := 0) (v := ?vt51) rfl (by kernel_rfl) (by kernel_rfl) (by kernel_rfl) (by kernel_rfl) (fun _ _ _ h => h) (Or.inl ⟨by rfl, ?ht51⟩) (by assumption) ?restt51
    case ht51 => (intro w hSw; (try dsimp only at hSw); go_simp; try with_reducible rfl)
    (try simp only [Act.put, List.setIfInBounds_toArray, List.set_cons_zero, List.set_cons_succ])
    refine Till.take (i := 1) (v := ?vt52) rfl (by kernel_rfl) (by kernel_rfl) (by kernel_rfl) (by kernel_rfl) (fun _ _ _ h => h) (Or.inl ⟨by rfl, ?ht52⟩) (by assumption) ?restt52
    case ht52 => (intro w hSw; (try dsimp only at hSw); go_simp; try with_reducible rfl)
    (try simp only [Act.put, List.setIfInBounds_toArray, List.set_cons_zero, List.set_cons_succ])
    refine Till.take (i := 2) (v := ?vt53) rfl (by kernel_rfl) (by kernel_rfl) (by kernel_rfl) (by kernel_rfl) (fun _ _ _ h => h) (Or.inl ⟨by rfl, ?ht53⟩) (by assumption) ?restt53
    case ht53 => (intro w hSw; (try dsimp only at hSw); go_simp; try with_reducible rfl)
    (try simp only [Act.put, List.setIfInBounds_toArray, List.set_cons_zero, List.set_cons_succ])
    refine Till.take (i := 4) (v := ?vt54) rfl (by kernel_rfl) (by kernel_rfl) (by kernel_rfl) (by kernel_rfl) (fun _ _ _ h => h) (Or.inl ⟨by rfl, ?ht54⟩) (by assumption) ?restt54
    case ht54 => (intro w hSw; (try dsimp only at hSw); go_simp; try with_reducible rfl)
    (try simp only [Act.put, List.setIfInBounds_toArray, List.set_cons_zero, List.set_cons_succ])
    refine Till.take (i := 5) (v := ?vt55) rfl (by kernel_rfl) (by kernel_rfl) (by kernel_rfl) (by kernel_rfl) (fun _ _ _ h => h) (Or.inl ⟨by rfl, ?ht55⟩) (by assumption) ?restt55
    case ht55 => (intro w hSw; (try dsimp only at hSw); go_simp; try with_reducible rfl)
    (try simp only [Act.put, List.setIfInBounds_toArray, List.set_cons_zero, List.set_cons_succ])
    refine Till.take (i := 6) (v := ?vt56) rfl (by kernel_rfl) (by kernel_rfl) (by kernel_rfl) (by kernel_rfl) (fun _ _ _ h => h) (Or.inl ⟨by rfl, ?ht56⟩) (by assumption) ?restt56
    case ht56 => (intro w hSw; (try dsimp only at hSw); go_simp; try with_reducible rfl)
    (try simp only [Act.put, List.setIfInBounds_toArray, List.set_cons_zero, List.set_cons_succ])
    refine Till.ready (rs := [3]) (by kernel_rfl) (by simp) ?_
    refine TillEach.cons rfl (fun K hK => ?_) ?_
    · go_simp
      go_wp2_with (go_at_call 26; refine (HW1.out w0.drew (bw_drew HBw0.out)).mono ?_; rintro e v3 ⟨rfl, hb⟩)
      have GAv3 := Lib.hid (blk_call GAw0.out.drew hb)
      have HBv3 := Lib.hid (bw_call (bw_drew HBw0.out) hb)
      clear hb
      refine hK.out _ _ ?_ (fun hHeld => ?_)
      · exact ⟨(soup_facts GAv3.out).1, (soup_facts GAv3.out).2.1⟩
      clear hK K
      (try simp only [Act.put, List.setIfInBounds_toArray, List.set_cons_zero, List.set_cons_succ])
      refine Till.ready (rs := [7]) (by kernel_rfl) (by simp) ?_
      refine TillEach.cons rfl (fun K hK => ?_) ?_
      · go_simp
        go_wp2_with (go_at_call 26; refine (HW2.out v3 HBv3.out).mono ?_; rintro e v4 ⟨rfl, hb⟩)
        have GAv4 := Lib.hid (blk_call GAv3.out hb)
        have HBv4 := Lib.hid (bw_call HBv3.out hb)
        clear hb GAv3 HBv3
        refine hK.out _ _ ?_ (fun hHeld => ?_)
        · exact ⟨(soup_facts GAv4.out).1, (soup_facts GAv4.out).2.1⟩
        clear hK K
        (try simp only [Act.put, List.setIfInBounds_toArray, List.set_cons_zero, List.set_cons_succ])
        refine Till.take (i := 8) (v := ?vt57) rfl (by kernel_rfl) (by kernel_rfl) (by kernel_rfl) (by kernel_rfl) (fun _ _ _ h => h) (Or.inl ⟨by rfl, ?ht57⟩) (by assumption) ?restt57
        case ht57 => (intro w hSw; (try dsimp only at hSw); go_simp; try with_reducible rfl)
        (try simp only [Act.put, List.setIfInBounds_toArray, List.set_cons_zero, List.set_cons_succ])
        refine Till.ready (rs := [9]) (by kernel_rfl) (by simp) ?_
        refine TillEach.last rfl (fun K hK => ?_)
        · go_simp
          refine hK.out _ _ ?_
          clear hK K
          (try simp only [Act.put, List.setIfInBounds_toArray, List.set_cons_zero, List.set_cons_succ])
          refine Till.done (by kernel_rfl) ?_ _
          go_wp2_with fail
          go_ret
          exact ⟨rfl, HBv4.out⟩
      exact TillEach.nil
    exact TillEach.nil
  | some o =>
    have hw2 := with_some HSE.out (show facingF T (b, a) = some o by rw [← is_opp hf]; exact ho)
    rw [hw2] at HW2
    rw [show optI (some (o / 3)) = ((o / 3 : Nat) : Int) from rfl] at HW2
    clear hw hw2
    obtain ⟨q1, hq1⟩ : ∃ q, cc / 3 = q := ⟨_, rfl⟩
    obtain ⟨q2, hq2⟩ : ∃ q, o / 3 = q := ⟨_, rfl⟩
    rw [hq1] at HW1 hc30
    rw [hq2] at HW2
    have HQ1 := Lib.hid hq1
    have HQ2 := Lib.hid hq2
    have ho30 : ¬ (q2 : Int) < 0 := by omega
    clear hq1 hq2
    refine wp_region_till (S := fun w' => w'.cell? ⟨ga, 0, none⟩ = some (.int .i64 N) ∧ w'.cell? ⟨ga, 1, none⟩ = some (.slice A T.length c)) 9 (by kernel_rfl) ⟨(soup_facts GAw0.out.drew).1, (soup_facts GAw0.out.drew).2.1⟩ (fun hHeld => ?_)
    refine Till.take (i := 0) (v := ?vt58) rfl (by kernel_rfl) (by kernel_rfl) (by kernel_rfl) (by kernel_rfl) (fun _ _ _ h => h) (Or.inl ⟨by rfl, ?ht58⟩) (by assumption) ?restt58
    case ht58 => (intro w hSw; (try dsimp only at hSw); go_simp; try with_reducible rfl)
    (try simp only [Act.put, List.setIfInBounds_toArray, List.set_cons_zero, List.set_cons_succ])
    refine Till.take (i := 1) (v := ?vt59) rfl (by kernel_rfl) (by kernel_rfl) (by kernel_rfl) (by kernel_rfl) (fun _ _ _ h => h) (Or.inl ⟨by rfl, ?ht59⟩) (by assumption) ?restt59
    case ht59 => (intro w hSw; (try dsimp only at hSw); go_simp; try with_reducible rfl)
    (try simp only [Act.put, List.setIfInBounds_toArray, List.set_cons_zero, List.set_cons_succ])
    refine Till.take (i := 2) (v := ?vt60) rfl (by kernel_rfl) (by kernel_rfl) (by kernel_rfl) (by kernel_rfl) (fun _ _ _ h => h) (Or.inl ⟨by rfl, ?ht60⟩) (by assumption) ?restt60
    case ht60 => (intro w hSw; (try dsimp only at hSw); go_simp; try with_reducible rfl)
    (try simp only [Act.put, List.setIfInBounds_toArray, List.set_cons_zero, List.set_cons_succ])
    refine Till.take (i := 4) (v := ?vt61) rfl (by kernel_rfl) (by kernel_rfl) (by kernel_rfl) (by kernel_rfl) (fun _ _ _ h => h) (Or.inl ⟨by rfl, ?ht61⟩) (by assumption) ?restt61
    case ht61 => (intro w hSw; (try dsimp only at hSw); go_simp; try with_reducible rfl)
    (try simp only [Act.put, List.setIfInBounds_toArray, List.set_cons_zero, List.set_cons_succ])
    refine Till.take (i := 5) (v := ?vt62) rfl (by kernel_rfl) (by kernel_rfl) (by kernel_rfl) (by kernel_rfl) (fun _ _ _ h => h) (Or.inl ⟨by rfl, ?ht62⟩) (by assumption) ?restt62
    case ht62 => (intro w hSw; (try dsimp only at hSw); go_simp; try with_reducible rfl)
    (try simp only [Act.put, List.setIfInBounds_toArray, List.set_cons_zero, List.set_cons_succ])
    refine Till.take (i := 6) (v := ?vt63) rfl (by kernel_rfl) (by kernel_rfl) (by kernel_rfl) (by kernel_rfl) (fun _ _ _ h => h) (Or.inl ⟨by rfl, ?ht63⟩) (by assumption) ?restt63
    case ht63 => (intro w hSw; (try dsimp only at hSw); go_simp; try with_reducible rfl)
    (try simp only [Act.put, List.setIfInBounds_toArray, List.set_cons_zero, List.set_cons_succ])
    refine Till.ready (rs := [3]) (by kernel_rfl) (by simp) ?_
    refine TillEach.cons rfl (fun K hK => ?_) ?_
    · go_simp
      go_wp2_with (go_at_call 26; refine (HW1.out w0.drew (bw_drew HBw0.out)).mono ?_; rintro e v3 ⟨rfl, hb⟩)
      have GAv3 := Lib.hid (blk_call GAw0.out.drew hb)
      have HBv3 := Lib.hid (bw_call (bw_drew HBw0.out) hb)
      clear hb
      refine hK.out _ _ ?_ (fun hHeld => ?_)
      · exact ⟨(soup_facts GAv3.out).1, (soup_facts GAv3.out).2.1⟩
      clear hK K
      (try simp only [Act.put, List.setIfInBounds_toArray, List.set_cons_zero, List.set_cons_succ])
      refine Till.ready (rs := [7]) (by kernel_rfl) (by simp) ?_
      refine TillEach.cons rfl (fun K hK => ?_) ?_
      · go_simp
        go_wp2_with (go_at_call 26; refine (HW2.out v3 HBv3.out).mono ?_; rintro e v4 ⟨rfl, hb⟩)
        have GAv4 := Lib.hid (blk_call GAv3.out hb)
        have HBv4 := Lib.hid (bw_call HBv3.out hb)
        clear hb GAv3 HBv3
        refine hK.out _ _ ?_ (fun hHeld => ?_)
        · exact ⟨(soup_facts GAv4.out).1, (soup_facts GAv4.out).2.1⟩
        clear hK K
        (try simp only [Act.put, List.setIfInBounds_toArray, List.set_cons_zero, List.set_cons_succ])
        refine Till.take (i := 8) (v := ?vt64) rfl (by kernel_rfl) (by kernel_rfl) (by kernel_rfl) (by kernel_rfl) (fun _ _ _ h => h) (Or.inl ⟨by rfl, ?ht64⟩) (by assumption) ?restt64
        case ht64 => (intro w hSw; (try dsimp only at hSw); go_simp; try with_reducible rfl)
        (try simp only [Act.put, List.setIfInBounds_toArray, List.set_cons_zero, List.set_cons_succ])
        refine Till.ready (rs := [9]) (by kernel_rfl) (by simp) ?_
        refine TillEach.last rfl (fun K hK => ?_)
        · go_simp
          refine hK.out _ _ ?_
          clear hK K
          (try simp only [Act.put, List.setIfInBounds_toArray, List.set_cons_zero, List.set_cons_succ])
          refine Till.done (by kernel_rfl) ?_ _
          obtain ⟨w5, hw5⟩ : ∃ W : World, W = v4 := ⟨_, rfl⟩
          rw [← hw5] at GAv4 HBv4 ⊢
          clear hw5
          have GAw5 := GAv4
          have HBw5 := HBv4
          obtain ⟨s0, s1, _, _, _⟩ := soup_facts GAw5.out
          by_cases hK : K = []
          · subst hK
            have hr : false = r := by
              rw [← HR.out]
              simp [isR, partsB, hf, ho]
            subst hr
            clear hf ho
            go_wp2_with fail
            go_ret
            exact ⟨rfl, HBw5.out⟩
          have hKl : K.length = 3 * T.length := by
            rcases HOK.out with e | e
            · exact absurd e hK
            · exact e.1
          have HR2 : Hid (((kval K (nxc cc) != kval K (pvc o)) || (kval K (pvc cc) != kval K (nxc o))) = r) := Lib.hid (by
            rw [← HR.out]
            unfold isR partsB
            simp only [hf, ho, decide_eq_true hK, Bool.true_and])
          have hob := facing_some (show facingF T (b, a) = some o by rw [← is_opp hf]; exact ho)
          have hat1 := at_a HSE.out hf
          have hat2 := at_a HSE.out (show facingF T (b, a) = some o by rw [← is_opp hf]; exact ho)
          rw [HQ1.out] at hat1
          rw [HQ2.out] at hat2
          have hql1 : q1 < T.length := by have := HQ1.out; omega
          have hql2 : q2 < T.length := by have h1 := HQ2.out; have h2 := hob.1; omega
          have l1 := nxc_lt hcl
          have l2 := pvc_lt hob.1
          have l3 := pvc_lt hcl
          have l4 := nxc_lt hob.1
          have hol := hob.1
          obtain ⟨ak, hA, cq1⟩ := (HK0.out.below HBw5.out).cell (show nxc cc < K.length by omega)
          obtain ⟨ak', hA', cq2⟩ := (HK0.out.below HBw5.out).cell (show pvc o < K.length by omega)
          obtain rfl : ak = ak' := by rw [hA] at hA'; injection hA'
          obtain ⟨ak', hA', cq3⟩ := (HK0.out.below HBw5.out).cell (show pvc cc < K.length by omega)
          obtain rfl : ak = ak' := by rw [hA] at hA'; injection hA'
          obtain ⟨ak', hA', cq4⟩ := (HK0.out.below HBw5.out).cell (show nxc o < K.length by omega)
          obtain rfl : ak = ak' := by rw [hA] at hA'; injection hA'
          subst hA
          have C1w5 := Lib.hid cq1
          have C2w5 := Lib.hid cq2
          have C3w5 := Lib.hid cq3
          have C4w5 := Lib.hid cq4
          have HA1 : Hid (∀ (W : World), Below w.heap.size w W → Calls Tryz.prog 42 #[.agg #[.int .i64 N, .slice A T.length c], .int .i64 (q1 : Int), .int .i64 a] W (IntPost W (nxc cc : Int))) := Lib.hid fun W h => hat1.1 ▸ at31_any N A c T q1 a W hT hql1 ((HT.out.below h).more h.size)
          have HA2 : Hid (∀ (W : World), Below w.heap.size w W → Calls Tryz.prog 42 #[.agg #[.int .i64 N, .slice A T.length c], .int .i64 (q2 : Int), .int .i64 a] W (IntPost W (pvc o : Int))) := Lib.hid fun W h => hat2.2 ▸ at31_any N A c T q2 a W hT hql2 ((HT.out.below h).more h.size)
          have HA3 : Hid (∀ (W : World), Below w.heap.size w W → Calls Tryz.prog 42 #[.agg #[.int .i64 N, .slice A T.length c], .int .i64 (q1 : Int), .int .i64 b] W (IntPost W (pvc cc : Int))) := Lib.hid fun W h => hat1.2 ▸ at31_any N A c T q1 b W hT hql1 ((HT.out.below h).more h.size)
          have HA4 : Hid (∀ (W : World), Below w.heap.size w W → Calls Tryz.prog 42 #[.agg #[.int .i64 N, .slice A T.length c], .int .i64 (q2 : Int), .int .i64 b] W (IntPost W (nxc o : Int))) := Lib.hid fun W h => hat2.1 ▸ at31_any N A c T q2 b W hT hql2 ((HT.out.below h).more h.size)
          clear cq1 cq2 cq3 cq4 hA' hat1 hat2 hob hf ho
          have hk0 : K.length ≠ 0 := by omega
          have hb0 : ((K.length : Int) == 0) = false := by simp; omega
          have i1 : ((nxc cc : Nat) : Int) < (K.length : Int) := by omega
          have i2 : ((pvc o : Nat) : Int) < (K.length : Int) := by omega
          have i3 : ((pvc cc : Nat) : Int) < (K.length : Int) := by omega
          have i4 : ((nxc o : Nat) : Int) < (K.length : Int) := by omega
          clear l1 l2 l3 l4 hKl hK hk0
          generalize kval K (nxc cc) = v1 at *
          generalize kval K (pvc o) = v2 at *
          generalize kval K (pvc cc) = v3 at *
          generalize kval K (nxc o) = v4' at *
          generalize nxc cc = n1 at *
          generalize pvc o = n2 at *
          generalize pvc cc = n3 at *
          generalize nxc o = n4 at *
          go_upto_region 4 with (fail)
          clear s0 s1
          by_cases h12 : v1 = v2
          rotate_left
          · have hb12 : (v1 != v2) = true := by simpa using h12
            obtain rfl : true = r := by rw [← HR2.out, hb12]; rfl
            clear HR2
            refine wp_region_till (S := fun w' => w'.cell? ⟨ga, 0, none⟩ = some (.int .i64 N) ∧ w'.cell? ⟨ga, 1, none⟩ = some (.slice A T.length c) ∧ w'.cell? (ak.add n1) = some (.int .i64 v1) ∧ w'.cell? (ak.add n2) = some (.int .i64 v2) ∧ w'.cell? (ak.add n3) = some (.int .i64 v3) ∧ w'.cell? (ak.add n4) = some (.int .i64 v4')) 32 (by kernel_rfl) ⟨(soup_facts GAw5.out.drew).1, (soup_facts GAw5.out.drew).2.1, C1w5.out.drew.c, C2w5.out.drew.c, C3w5.out.drew.c, C4w5.out.drew.c⟩ (fun hHeld => ?_)
            refine Till.take (i := 0) (v := ?vt1) rfl (by kernel_rfl) (by kernel_rfl) (by kernel_rfl) (by kernel_rfl) (fun _ _ _ h => h) (Or.inl ⟨by rfl, ?ht1⟩) (by assumption) ?restt1
            case ht1 => (intro w hSw; (try dsimp only at hSw); go_simp; try with_reducible rfl)
            (try simp only [Act.put, List.setIfInBounds_toArray, List.set_cons_zero, List.set_cons_succ])
            refine Till.take (i := 1) (v := ?vt2) rfl (by kernel_rfl) (by kernel_rfl) (by kernel_rfl) (by kernel_rfl) (fun _ _ _ h => h) (Or.inl ⟨by rfl, ?ht2⟩) (by assumption) ?restt2
            case ht2 => (intro w hSw; (try dsimp only at hSw); go_simp; try with_reducible rfl)
            (try simp only [Act.put, List.setIfInBounds_toArray, List.set_cons_zero, List.set_cons_succ])
            refine Till.take (i := 2) (v := ?vt3) rfl (by kernel_rfl) (by kernel_rfl) (by kernel_rfl) (by kernel_rfl) (fun _ _ _ h => h) (Or.inl ⟨by rfl, ?ht3⟩) (by assumption) ?restt3
            case ht3 => (intro w hSw; (try dsimp only at hSw); go_simp; try with_reducible rfl)
            (try simp only [Act.put, List.setIfInBounds_toArray, List.set_cons_zero, List.set_cons_succ])
            refine Till.take (i := 3) (v := ?vt4) rfl (by kernel_rfl) (by kernel_rfl) (by kernel_rfl) (by kernel_rfl) (fun _ _ _ h => h) (Or.inl ⟨by rfl, ?ht4⟩) (by assumption) ?restt4
            case ht4 => (intro w hSw; (try dsimp only at hSw); go_simp; try with_reducible rfl)
            (try simp only [Act.put, List.setIfInBounds_toArray, List.set_cons_zero, List.set_cons_succ])
            refine Till.take (i := 7) (v := ?vt5) rfl (by kernel_rfl) (by kernel_rfl) (by kernel_rfl) (by kernel_rfl) (fun _ _ _ h => h) (Or.inl ⟨by rfl, ?ht5⟩) (by assumption) ?restt5
            case ht5 => (intro w hSw; (try dsimp only at hSw); go_simp; try with_reducible rfl)
            (try simp only [Act.put, List.setIfInBounds_toArray, List.set_cons_zero, List.set_cons_succ])
            refine Till.take (i := 8) (v := ?vt6) rfl (by kernel_rfl) (by kernel_rfl) (by kernel_rfl) (by kernel_rfl) (fun _ _ _ h => h) (Or.inl ⟨by rfl, ?ht6⟩) (by assumption) ?restt6
            case ht6 => (intro w hSw; (try dsimp only at hSw); go_simp; try with_reducible rfl)
            (try simp only [Act.put, List.setIfInBounds_toArray, List.set_cons_zero, List.set_cons_succ])
            refine Till.take (i := 9) (v := ?vt7) rfl (by kernel_rfl) (by kernel_rfl) (by kernel_rfl) (by kernel_rfl) (fun _ _ _ h => h) (Or.inl ⟨by rfl, ?ht7⟩) (by assumption) ?restt7
            case ht7 => (intro w hSw; (try dsimp only at hSw); go_simp; try with_reducible rfl)
            (try simp only [Act.put, List.setIfInBounds_toArray, List.set_cons_zero, List.set_cons_succ])
            refine Till.take (i := 10) (v := ?vt8) rfl (by kernel_rfl) (by kernel_rfl) (by kernel_rfl) (by kernel_rfl) (fun _ _ _ h => h) (Or.inl ⟨by rfl, ?ht8⟩) (by assumption) ?restt8
            case ht8 => (intro w hSw; (try dsimp only at hSw); go_simp; try with_reducible rfl)
            (try simp only [Act.put, List.setIfInBounds_toArray, List.set_cons_zero, List.set_cons_succ])
            refine Till.ready (rs := [4]) (by kernel_rfl) (by simp) ?_
            refine TillEach.cons rfl (fun K hK => ?_) ?_
            · go_simp
              go_wp2_with (go_at_call 42; refine (HA1.out w5.drew (bw_drew HBw5.out)).mono ?_; rintro e v10 ⟨rfl, hb⟩)
              have GAv10 := Lib.hid (blk_call GAw5.out.drew hb)
              have C1v10 := Lib.hid (C1w5.out.drew.below hb)
              have C2v10 := Lib.hid (C2w5.out.drew.below hb)
              have C3v10 := Lib.hid (C3w5.out.drew.below hb)
              have C4v10 := Lib.hid (C4w5.out.drew.below hb)
              have HBv10 := Lib.hid (bw_call (bw_drew HBw5.out) hb)
              clear hb
              refine hK.out _ _ ?_ (fun hHeld => ?_)
              · exact ⟨(soup_facts GAv10.out).1, (soup_facts GAv10.out).2.1, C1v10.out.c, C2v10.out.c, C3v10.out.c, C4v10.out.c⟩
              clear hK K
              (try simp only [Act.put, List.setIfInBounds_toArray, List.set_cons_zero, List.set_cons_succ])
              refine Till.take (i := 5) (v := ?vt9) rfl (by kernel_rfl) (by kernel_rfl) (by kernel_rfl) (by kernel_rfl) (fun _ _ _ h => h) (Or.inl ⟨by rfl, ?ht9⟩) (by assumption) ?restt9
              case ht9 => (intro w hSw; (try dsimp only at hSw); go_simp; try with_reducible rfl)
              (try simp only [Act.put, List.setIfInBounds_toArray, List.set_cons_zero, List.set_cons_succ])
              refine Till.take (i := 6) (v := ?vt10) rfl (by kernel_rfl) (by kernel_rfl) (by kernel_rfl) (by kernel_rfl) (fun _ _ _ h => h) (Or.inl ⟨by rfl, ?ht10⟩) (by assumption) ?restt10
              case ht10 => (intro w hSw; (try dsimp only at hSw); go_simp; try with_reducible rfl)
              (try simp only [Act.put, List.setIfInBounds_toArray, List.set_cons_zero, List.set_cons_succ])
              refine Till.ready (rs := [11]) (by kernel_rfl) (by simp) ?_
              refine TillEach.cons rfl (fun K hK => ?_) ?_
              · go_simp
                go_wp2_with (go_at_call 42; refine (HA2.out v10 HBv10.out).mono ?_; rintro e v11 ⟨rfl, hb⟩)
                have GAv11 := Lib.hid (blk_call GAv10.out hb)
                have C1v11 := Lib.hid (C1v10.out.below hb)
                have C2v11 := Lib.hid (C2v10.out.below hb)
                have C3v11 := Lib.hid (C3v10.out.below hb)
                have C4v11 := Lib.hid (C4v10.out.below hb)
                have HBv11 := Lib.hid (bw_call HBv10.out hb)
                clear hb GAv10 C1v10 C2v10 C3v10 C4v10 HBv10
                refine hK.out _ _ ?_ (fun hHeld => ?_)
                · exact ⟨(soup_facts GAv11.out).1, (soup_facts GAv11.out).2.1, C1v11.out.c, C2v11.out.c, C3v11.out.c, C4v11.out.c⟩
                clear hK K
                (try simp only [Act.put, List.setIfInBounds_toArray, List.set_cons_zero, List.set_cons_succ])
                refine Till.take (i := 12) (v := ?vt11) rfl (by kernel_rfl) (by kernel_rfl) (by kernel_rfl) (by kernel_rfl) (fun _ _ _ h => h) (Or.inl ⟨by rfl, ?ht11⟩) (by assumption) ?restt11
                case ht11 => (intro w hSw; (try dsimp only at hSw); go_simp; try with_reducible rfl)
                (try simp only [Act.put, List.setIfInBounds_toArray, List.set_cons_zero, List.set_cons_succ])
                refine Till.take (i := 13) (v := ?vt12) rfl (by kernel_rfl) (by kernel_rfl) (by kernel_rfl) (by kernel_rfl) (fun _ _ _ h => h) (Or.inl ⟨by rfl, ?ht12⟩) (by assumption) ?restt12
                case ht12 => (intro w hSw; (try dsimp only at hSw); go_simp; try with_reducible rfl)
                (try simp only [Act.put, List.setIfInBounds_toArray, List.set_cons_zero, List.set_cons_succ])
                refine Till.take (i := 14) (v := ?vt13) rfl (by kernel_rfl) (by kernel_rfl) (by kernel_rfl) (by kernel_rfl) (fun _ _ _ h => h) (Or.inl ⟨by rfl, ?ht13⟩) (by assumption) ?restt13
                case ht13 => (intro w hSw; (try dsimp only at hSw); go_simp; try with_reducible rfl)
                (try simp only [Act.put, List.setIfInBounds_toArray, List.set_cons_zero, List.set_cons_succ])
                refine Till.take (i := 15) (v := ?vt14) rfl (by kernel_rfl) (by kernel_rfl) (by kernel_rfl) (by kernel_rfl) (fun _ _ _ h => h) (Or.inl ⟨by rfl, ?ht14⟩) (by assumption) ?restt14
                case ht14 => (intro w hSw; (try dsimp only at hSw); go_simp; try with_reducible rfl)
                (try simp only [Act.put, List.setIfInBounds_toArray, List.set_cons_zero, List.set_cons_succ])
                refine Till.take (i := 16) rfl (by kernel_rfl) (by kernel_rfl) (by kernel_rfl) (by kernel_rfl) (fun _ _ _ h => h) (Or.inr ⟨by rfl, rfl⟩) (by assumption) ?_
                (try simp only [Act.put, List.setIfInBounds_toArray, List.set_cons_zero, List.set_cons_succ])
                refine Till.take (i := 17) rfl (by kernel_rfl) (by kernel_rfl) (by kernel_rfl) (by kernel_rfl) (fun _ _ _ h => h) (Or.inr ⟨by rfl, rfl⟩) (by assumption) ?_
                (try simp only [Act.put, List.setIfInBounds_toArray, List.set_cons_zero, List.set_cons_succ])
                refine Till.take (i := 18) rfl (by kernel_rfl) (by kernel_rfl) (by kernel_rfl) (by kernel_rfl) (fun _ _ _ h => h) (Or.inr ⟨by rfl, rfl⟩) (by assumption) ?_
                (try simp only [Act.put, List.setIfInBounds_toArray, List.set_cons_zero, List.set_cons_succ])
                refine Till.take (i := 19) rfl (by kernel_rfl) (by kernel_rfl) (by kernel_rfl) (by kernel_rfl) (fun _ _ _ h => h) (Or.inr ⟨by rfl, rfl⟩) (by assumption) ?_
                (try simp only [Act.put, List.setIfInBounds_toArray, List.set_cons_zero, List.set_cons_succ])
                refine Till.take (i := 20) rfl (by kernel_rfl) (by kernel_rfl) (by kernel_rfl) (by kernel_rfl) (fun _ _ _ h => h) (Or.inr ⟨by rfl, rfl⟩) (by assumption) ?_
                (try simp only [Act.put, List.setIfInBounds_toArray, List.set_cons_zero, List.set_cons_succ])
                refine Till.take (i := 21) rfl (by kernel_rfl) (by kernel_rfl) (by kernel_rfl) (by kernel_rfl) (fun _ _ _ h => h) (Or.inr ⟨by rfl, rfl⟩) (by assumption) ?_
                (try simp only [Act.put, List.setIfInBounds_toArray, List.set_cons_zero, List.set_cons_succ])
                refine Till.take (i := 22) rfl (by kernel_rfl) (by kernel_rfl) (by kernel_rfl) (by kernel_rfl) (fun _ _ _ h => h) (Or.inr ⟨by rfl, rfl⟩) (by assumption) ?_
                (try simp only [Act.put, List.setIfInBounds_toArray, List.set_cons_zero, List.set_cons_succ])
                refine Till.take (i := 23) rfl (by kernel_rfl) (by kernel_rfl) (by kernel_rfl) (by kernel_rfl) (fun _ _ _ h => h) (Or.inr ⟨by rfl, rfl⟩) (by assumption) ?_
                (try simp only [Act.put, List.setIfInBounds_toArray, List.set_cons_zero, List.set_cons_succ])
                refine Till.take (i := 24) rfl (by kernel_rfl) (by kernel_rfl) (by kernel_rfl) (by kernel_rfl) (fun _ _ _ h => h) (Or.inr ⟨by rfl, rfl⟩) (by assumption) ?_
                (try simp only [Act.put, List.setIfInBounds_toArray, List.set_cons_zero, List.set_cons_succ])
                refine Till.take (i := 25) rfl (by kernel_rfl) (by kernel_rfl) (by kernel_rfl) (by kernel_rfl) (fun _ _ _ h => h) (Or.inr ⟨by rfl, rfl⟩) (by assumption) ?_
                (try simp only [Act.put, List.setIfInBounds_toArray, List.set_cons_zero, List.set_cons_succ])
                refine Till.take (i := 26) rfl (by kernel_rfl) (by kernel_rfl) (by kernel_rfl) (by kernel_rfl) (fun _ _ _ h => h) (Or.inr ⟨by rfl, rfl⟩) (by assumption) ?_
                (try simp only [Act.put, List.setIfInBounds_toArray, List.set_cons_zero, List.set_cons_succ])
                refine Till.take (i := 27) rfl (by kernel_rfl) (by kernel_rfl) (by kernel_rfl) (by kernel_rfl) (fun _ _ _ h => h) (Or.inr ⟨by rfl, rfl⟩) (by assumption) ?_
                (try simp only [Act.put, List.setIfInBounds_toArray, List.set_cons_zero, List.set_cons_succ])
                refine Till.take (i := 28) rfl (by kernel_rfl) (by kernel_rfl) (by kernel_rfl) (by kernel_rfl) (fun _ _ _ h => h) (Or.inr ⟨by rfl, rfl⟩) (by assumption) ?_
                (try simp only [Act.put, List.setIfInBounds_toArray, List.set_cons_zero, List.set_cons_succ])
                refine Till.take (i := 29) rfl (by kernel_rfl) (by kernel_rfl) (by kernel_rfl) (by kernel_rfl) (fun _ _ _ h => h) (Or.inr ⟨by rfl, rfl⟩) (by assumption) ?_
                (try simp only [Act.put, List.setIfInBounds_toArray, List.set_cons_zero, List.set_cons_succ])
                refine Till.take (i := 30) rfl (by kernel_rfl) (by kernel_rfl) (by kernel_rfl) (by kernel_rfl) (fun _ _ _ h => h) (Or.inr ⟨by rfl, rfl⟩) (by assumption) ?_
                (try simp only [Act.put, List.setIfInBounds_toArray, List.set_cons_zero, List.set_cons_succ])
                refine Till.take (i := 31) (v := ?vt15) rfl (by kernel_rfl) (by kernel_rfl) (by kernel_rfl) (by kernel_rfl) (fun _ _ _ h => h) (Or.inl ⟨by rfl, ?ht15⟩) (by assumption) ?restt15
                case ht15 => (intro w hSw; (try dsimp only at hSw); go_simp; try with_reducible rfl)
                (try simp only [Act.put, List.setIfInBounds_toArray, List.set_cons_zero, List.set_cons_succ])
                refine Till.ready (rs := [32]) (by kernel_rfl) (by simp) ?_
                refine TillEach.last rfl (fun K hK => ?_)
                · go_simp
                  refine hK.out _ _ ?_
                  clear hK K
                  (try simp only [Act.put, List.setIfInBounds_toArray, List.set_cons_zero, List.set_cons_succ])
                  refine Till.done (by kernel_rfl) ?_ _
                  go_wp2_with fail
                  go_ret
                  exact ⟨rfl, HBv11.out⟩
              exact TillEach.nil
            exact TillEach.nil
          have hb12 : (v1 != v2) = false := by simpa using h12
          obtain rfl : (v3 != v4') = r := by rw [← HR2.out, hb12]; rfl
          clear HR2
          refine wp_region_till (S := fun w' => w'.cell? ⟨ga, 0, none⟩ = some (.int .i64 N) ∧ w'.cell? ⟨ga, 1, none⟩ = some (.slice A T.length c) ∧ w'.cell? (ak.add n1) = some (.int .i64 v1) ∧ w'.cell? (ak.add n2) = some (.int .i64 v2) ∧ w'.cell? (ak.add n3) = some (.int .i64 v3) ∧ w'.cell? (ak.add n4) = some (.int .i64 v4')) 32 (by kernel_rfl) ⟨(soup_facts GAw5.out.drew).1, (soup_facts GAw5.out.drew).2.1, C1w5.out.drew.c, C2w5.out.drew.c, C3w5.out.drew.c, C4w5.out.drew.c⟩ (fun hHeld => ?_)
          refine Till.take (i := 0) (v := ?vt16) rfl (by kernel_rfl) (by kernel_rfl) (by kernel_rfl) (by kernel_rfl) (fun _ _ _ h => h) (Or.inl ⟨by rfl, ?ht16⟩) (by assumption) ?restt16
          case ht16 => (intro w hSw; (try dsimp only at hSw); go_simp; try with_reducible rfl)
          (try simp only [Act.put, List.setIfInBounds_toArray, List.set_cons_zero, List.set_cons_succ])
          refine Till.take (i := 1) (v := ?vt17) rfl (by kernel_rfl) (by kernel_rfl) (by kernel_rfl) (by kernel_rfl) (fun _ _ _ h => h) (Or.inl ⟨by rfl, ?ht17⟩) (by assumption) ?restt17
          case ht17 => (intro w hSw; (try dsimp only at hSw); go_simp; try with_reducible rfl)
          (try simp only [Act.put, List.setIfInBounds_toArray, List.set_cons_zero, List.set_cons_succ])
          refine Till.take (i := 2) (v := ?vt18) rfl (by kernel_rfl) (by kernel_rfl) (by kernel_rfl) (by kernel_rfl) (fun _ _ _ h => h) (Or.inl ⟨by rfl, ?ht18⟩) (by assumption) ?restt18
          case ht18 => (intro w hSw; (try dsimp only at hSw); go_simp; try with_reducible rfl)
          (try simp only [Act.put, List.setIfInBounds_toArray, List.set_cons_zero, List.set_cons_succ])
          refine Till.take (i := 3) (v := ?vt19) rfl (by kernel_rfl) (by kernel_rfl) (by kernel_rfl) (by kernel_rfl) (fun _ _ _ h => h) (Or.inl ⟨by rfl, ?ht19⟩) (by assumption) ?restt19
          case ht19 => (intro w hSw; (try dsimp only at hSw); go_simp; try with_reducible rfl)
          (try simp only [Act.put, List.setIfInBounds_toArray, List.set_cons_zero, List.set_cons_succ])
          refine Till.take (i := 7) (v := ?vt20) rfl (by kernel_rfl) (by kernel_rfl) (by kernel_rfl) (by kernel_rfl) (fun _ _ _ h => h) (Or.inl ⟨by rfl, ?ht20⟩) (by assumption) ?restt20
          case ht20 => (intro w hSw; (try dsimp only at hSw); go_simp; try with_reducible rfl)
          (try simp only [Act.put, List.setIfInBounds_toArray, List.set_cons_zero, List.set_cons_succ])
          refine Till.take (i := 8) (v := ?vt21) rfl (by kernel_rfl) (by kernel_rfl) (by kernel_rfl) (by kernel_rfl) (fun _ _ _ h => h) (Or.inl ⟨by rfl, ?ht21⟩) (by assumption) ?restt21
          case ht21 => (intro w hSw; (try dsimp only at hSw); go_simp; try with_reducible rfl)
          (try simp only [Act.put, List.setIfInBounds_toArray, List.set_cons_zero, List.set_cons_succ])
          refine Till.take (i := 9) (v := ?vt22) rfl (by kernel_rfl) (by kernel_rfl) (by kernel_rfl) (by kernel_rfl) (fun _ _ _ h => h) (Or.inl ⟨by rfl, ?ht22⟩) (by assumption) ?restt22
          case ht22 => (intro w hSw; (try dsimp only at hSw); go_simp; try with_reducible rfl)
          (try simp only [Act.put, List.setIfInBounds_toArray, List.set_cons_zero, List.set_cons_succ])
          refine Till.take (i := 10) (v := ?vt23) rfl (by kernel_rfl) (by kernel_rfl) (by kernel_rfl) (by kernel_rfl) (fun _ _ _ h => h) (Or.inl ⟨by rfl, ?ht23⟩) (by assumption) ?restt23
          case ht23 => (intro w hSw; (try dsimp only at hSw); go_simp; try with_reducible rfl)
          (try simp only [Act.put, List.setIfInBounds_toArray, List.set_cons_zero, List.set_cons_succ])
          refine Till.ready (rs := [4]) (by kernel_rfl) (by simp) ?_
          refine TillEach.cons rfl (fun K hK => ?_) ?_
          · go_simp
            go_wp2_with (go_at_call 42; refine (HA1.out w5.drew (bw_drew HBw5.out)).mono ?_; rintro e v10 ⟨rfl, hb⟩)
            have GAv10 := Lib.hid (blk_call GAw5.out.drew hb)
            have C1v10 := Lib.hid (C1w5.out.drew.below hb)
            have C2v10 := Lib.hid (C2w5.out.drew.below hb)
            have C3v10 := Lib.hid (C3w5.out.drew.below hb)
            have C4v10 := Lib.hid (C4w5.out.drew.below hb)
            have HBv10 := Lib.hid (bw_call (bw_drew HBw5.out) hb)
            clear hb
            refine hK.out _ _ ?_ (fun hHeld => ?_)
            · exact ⟨(soup_facts GAv10.out).1, (soup_facts GAv10.out).2.1, C1v10.out.c, C2v10.out.c, C3v10.out.c, C4v10.out.c⟩
            clear hK K
            (try simp only [Act.put, List.setIfInBounds_toArray, List.set_cons_zero, List.set_cons_succ])
            refine Till.take (i := 5) (v := ?vt24) rfl (by kernel_rfl) (by kernel_rfl) (by kernel_rfl) (by kernel_rfl) (fun _ _ _ h => h) (Or.inl ⟨by rfl, ?ht24⟩) (by assumption) ?restt24
            case ht24 => (intro w hSw; (try dsimp only at hSw); go_simp; try with_reducible rfl)
            (try simp only [Act.put, List.setIfInBounds_toArray, List.set_cons_zero, List.set_cons_succ])
            refine Till.take (i := 6) (v := ?vt25) rfl (by kernel_rfl) (by kernel_rfl) (by kernel_rfl) (by kernel_rfl) (fun _ _ _ h => h) (Or.inl ⟨by rfl, ?ht25⟩) (by assumption) ?restt25
            case ht25 => (intro w hSw; (try dsimp only at hSw); go_simp; try with_reducible rfl)
            (try simp only [Act.put, List.setIfInBounds_toArray, List.set_cons_zero, List.set_cons_succ])
            refine Till.ready (rs := [11]) (by kernel_rfl) (by simp) ?_
            refine TillEach.cons rfl (fun K hK => ?_) ?_
            · go_simp
              go_wp2_with (go_at_call 42; refine (HA2.out v10 HBv10.out).mono ?_; rintro e v11 ⟨rfl, hb⟩)
              have GAv11 := Lib.hid (blk_call GAv10.out hb)
              have C1v11 := Lib.hid (C1v10.out.below hb)
              have C2v11 := Lib.hid (C2v10.out.below hb)
              have C3v11 := Lib.hid (C3v10.out.below hb)
              have C4v11 := Lib.hid (C4v10.out.below hb)
              have HBv11 := Lib.hid (bw_call HBv10.out hb)
              clear hb GAv10 C1v10 C2v10 C3v10 C4v10 HBv10
              refine hK.out _ _ ?_ (fun hHeld => ?_)
              · exact ⟨(soup_facts GAv11.out).1, (soup_facts GAv11.out).2.1, C1v11.out.c, C2v11.out.c, C3v11.out.c, C4v11.out.c⟩
              clear hK K
              (try simp only [Act.put, List.setIfInBounds_toArray, List.set_cons_zero, List.set_cons_succ])
              refine Till.take (i := 12) (v := ?vt26) rfl (by kernel_rfl) (by kernel_rfl) (by kernel_rfl) (by kernel_rfl) (fun _ _ _ h => h) (Or.inl ⟨by rfl, ?ht26⟩) (by assumption) ?restt26
              case ht26 => (intro w hSw; (try dsimp only at hSw); go_simp; try with_reducible rfl)
              (try simp only [Act.put, List.setIfInBounds_toArray, List.set_cons_zero, List.set_cons_succ])
              refine Till.take (i := 13) (v := ?vt27) rfl (by kernel_rfl) (by kernel_rfl) (by kernel_rfl) (by kernel_rfl) (fun _ _ _ h => h) (Or.inl ⟨by rfl, ?ht27⟩) (by assumption) ?restt27
              case ht27 => (intro w hSw; (try dsimp only at hSw); go_simp; try with_reducible rfl)
              (try simp only [Act.put, List.setIfInBounds_toArray, List.set_cons_zero, List.set_cons_succ])
              refine Till.take (i := 14) (v := ?vt28) rfl (by kernel_rfl) (by kernel_rfl) (by kernel_rfl) (by kernel_rfl) (fun _ _ _ h => h) (Or.inl ⟨by rfl, ?ht28⟩) (by assumption) ?restt28
              case ht28 => (intro w hSw; (try dsimp only at hSw); go_simp; try with_reducible rfl)
              (try simp only [Act.put, List.setIfInBounds_toArray, List.set_cons_zero, List.set_cons_succ])
              refine Till.take (i := 15) (v := ?vt29) rfl (by kernel_rfl) (by kernel_rfl) (by kernel_rfl) (by kernel_rfl) (fun _ _ _ h => h) (Or.inl ⟨by rfl, ?ht29⟩) (by assumption) ?restt29
              case ht29 => (intro w hSw; (try dsimp only at hSw); go_simp; try with_reducible rfl)
              (try simp only [Act.put, List.setIfInBounds_toArray, List.set_cons_zero, List.set_cons_succ])
              refine Till.take (i := 16) (v := ?vt30) rfl (by kernel_rfl) (by kernel_rfl) (by kernel_rfl) (by kernel_rfl) (fun _ _ _ h => h) (Or.inl ⟨by rfl, ?ht30⟩) (by assumption) ?restt30
              case ht30 => (intro w hSw; (try dsimp only at hSw); go_simp; try with_reducible rfl)
              (try simp only [Act.put, List.setIfInBounds_toArray, List.set_cons_zero, List.set_cons_succ])
              refine Till.take (i := 17) (v := ?vt31) rfl (by kernel_rfl) (by kernel_rfl) (by kernel_rfl) (by kernel_rfl) (fun _ _ _ h => h) (Or.inl ⟨by rfl, ?ht31⟩) (by assumption) ?restt31
              case ht31 => (intro w hSw; (try dsimp only at hSw); go_simp; try with_reducible rfl)
              (try simp only [Act.put, List.setIfInBounds_toArray, List.set_cons_zero, List.set_cons_succ])
              refine Till.take (i := 18) (v := ?vt32) rfl (by kernel_rfl) (by kernel_rfl) (by kernel_rfl) (by kernel_rfl) (fun _ _ _ h => h) (Or.inl ⟨by rfl, ?ht32⟩) (by assumption) ?restt32
              case ht32 => (intro w hSw; (try dsimp only at hSw); go_simp; try with_reducible rfl)
              (try simp only [Act.put, List.setIfInBounds_toArray, List.set_cons_zero, List.set_cons_succ])
              refine Till.take (i := 19) (v := ?vt33) rfl (by kernel_rfl) (by kernel_rfl) (by kernel_rfl) (by kernel_rfl) (fun _ _ _ h => h) (Or.inl ⟨by rfl, ?ht33⟩) (by assumption) ?restt33
              case ht33 => (intro w hSw; (try dsimp only at hSw); go_simp; try with_reducible rfl)
              (try simp only [Act.put, List.setIfInBounds_toArray, List.set_cons_zero, List.set_cons_succ])
              refine Till.take (i := 23) (v := ?vt34) rfl (by kernel_rfl) (by kernel_rfl) (by kernel_rfl) (by kernel_rfl) (fun _ _ _ h => h) (Or.inl ⟨by rfl, ?ht34⟩) (by assumption) ?restt34
              case ht34 => (intro w hSw; (try dsimp only at hSw); go_simp; try with_reducible rfl)
              (try simp only [Act.put, List.setIfInBounds_toArray, List.set_cons_zero, List.set_cons_succ])
              refine Till.take (i := 24) (v := ?vt35) rfl (by kernel_rfl) (by kernel_rfl) (by kernel_rfl) (by kernel_rfl) (fun _ _ _ h => h) (Or.inl ⟨by rfl, ?ht35⟩) (by assumption) ?restt35
              case ht35 => (intro w hSw; (try dsimp only at hSw); go_simp; try with_reducible rfl)
              (try simp only [Act.put, List.setIfInBounds_toArray, List.set_cons_zero, List.set_cons_succ])
              refine Till.take (i := 25) (v := ?vt36) rfl (by kernel_rfl) (by kernel_rfl) (by kernel_rfl) (by kernel_rfl) (fun _ _ _ h => h) (Or.inl ⟨by rfl, ?ht36⟩) (by assumption) ?restt36
              case ht36 => (intro w hSw; (try dsimp only at hSw); go_simp; try with_reducible rfl)
              (try simp only [Act.put, List.setIfInBounds_toArray, List.set_cons_zero, List.set_cons_succ])
              refine Till.take (i := 26) (v := ?vt37) rfl (by kernel_rfl) (by kernel_rfl) (by kernel_rfl) (by kernel_rfl) (fun _ _ _ h => h) (Or.inl ⟨by rfl, ?ht37⟩) (by assumption) ?restt37
              case ht37 => (intro w hSw; (try dsimp only at hSw); go_simp; try with_reducible rfl)
              (try simp only [Act.put, List.setIfInBounds_toArray, List.set_cons_zero, List.set_cons_succ])
              refine Till.ready (rs := [20]) (by kernel_rfl) (by simp) ?_
              refine TillEach.cons rfl (fun K hK => ?_) ?_
              · go_simp
                go_wp2_with (go_at_call 42; refine (HA3.out v11 HBv11.out).mono ?_; rintro e v12 ⟨rfl, hb⟩)
                have GAv12 := Lib.hid (blk_call GAv11.out hb)
                have C1v12 := Lib.hid (C1v11.out.below hb)
                have C2v12 := Lib.hid (C2v11.out.below hb)
                have C3v12 := Lib.hid (C3v11.out.below hb)
                have C4v12 := Lib.hid (C4v11.out.below hb)
                have HBv12 := Lib.hid (bw_call HBv11.out hb)
                clear hb GAv11 C1v11 C2v11 C3v11 C4v11 HBv11
                refine hK.out _ _ ?_ (fun hHeld => ?_)
                · exact ⟨(soup_facts GAv12.out).1, (soup_facts GAv12.out).2.1, C1v12.out.c, C2v12.out.c, C3v12.out.c, C4v12.out.c⟩
                clear hK K
                (try simp only [Act.put, List.setIfInBounds_toArray, List.set_cons_zero, List.set_cons_succ])
                refine Till.take (i := 21) (v := ?vt38) rfl (by kernel_rfl) (by kernel_rfl) (by kernel_rfl) (by kernel_rfl) (fun _ _ _ h => h) (Or.inl ⟨by rfl, ?ht38⟩) (by assumption) ?restt38
                case ht38 => (intro w hSw; (try dsimp only at hSw); go_simp; try with_reducible rfl)
                (try simp only [Act.put, List.setIfInBounds_toArray, List.set_cons_zero, List.set_cons_succ])
                refine Till.take (i := 22) (v := ?vt39) rfl (by kernel_rfl) (by kernel_rfl) (by kernel_rfl) (by kernel_rfl) (fun _ _ _ h => h) (Or.inl ⟨by rfl, ?ht39⟩) (by assumption) ?restt39
                case ht39 => (intro w hSw; (try dsimp only at hSw); go_simp; try with_reducible rfl)
                (try simp only [Act.put, List.setIfInBounds_toArray, List.set_cons_zero, List.set_cons_succ])
                refine Till.ready (rs := [27]) (by kernel_rfl) (by simp) ?_
                refine TillEach.cons rfl (fun K hK => ?_) ?_
                · go_simp
                  go_wp2_with (go_at_call 42; refine (HA4.out v12 HBv12.out).mono ?_; rintro e v13 ⟨rfl, hb⟩)
                  have GAv13 := Lib.hid (blk_call GAv12.out hb)
                  have C1v13 := Lib.hid (C1v12.out.below hb)
                  have C2v13 := Lib.hid (C2v12.out.below hb)
                  have C3v13 := Lib.hid (C3v12.out.below hb)
                  have C4v13 := Lib.hid (C4v12.out.below hb)
                  have HBv13 := Lib.hid (bw_call HBv12.out hb)
                  clear hb GAv12 C1v12 C2v12 C3v12 C4v12 HBv12
                  refine hK.out _ _ ?_ (fun hHeld => ?_)
                  · exact ⟨(soup_facts GAv13.out).1, (soup_facts GAv13.out).2.1, C1v13.out.c, C2v13.out.c, C3v13.out.c, C4v13.out.c⟩
                  clear hK K
                  (try simp only [Act.put, List.setIfInBounds_toArray, List.set_cons_zero, List.set_cons_succ])
                  refine Till.take (i := 28) (v := ?vt40) rfl (by kernel_rfl) (by kernel_rfl) (by kernel_rfl) (by kernel_rfl) (fun _ _ _ h => h) (Or.inl ⟨by rfl, ?ht40⟩) (by assumption) ?restt40
                  case ht40 => (intro w hSw; (try dsimp only at hSw); go_simp; try with_reducible rfl)
                  (try simp only [Act.put, List.setIfInBounds_toArray, List.set_cons_zero, List.set_cons_succ])
                  refine Till.take (i := 29) (v := ?vt41) rfl (by kernel_rfl) (by kernel_rfl) (by kernel_rfl) (by kernel_rfl) (fun _ _ _ h => h) (Or.inl ⟨by rfl, ?ht41⟩) (by assumption) ?restt41
                  case ht41 => (intro w hSw; (try dsimp only at hSw); go_simp; try with_reducible rfl)
                  (try simp only [Act.put, List.setIfInBounds_toArray, List.set_cons_zero, List.set_cons_succ])
                  refine Till.take (i := 30) (v := ?vt42) rfl (by kernel_rfl) (by kernel_rfl) (by kernel_rfl) (by kernel_rfl) (fun _ _ _ h => h) (Or.inl ⟨by rfl, ?ht42⟩) (by assumption) ?restt42
                  case ht42 => (intro w hSw; (try dsimp only at hSw); go_simp; try with_reducible rfl)
                  (try simp only [Act.put, List.setIfInBounds_toArray, List.set_cons_zero, List.set_cons_succ])
                  refine Till.take (i := 31) (v := ?vt43) rfl (by kernel_rfl) (by kernel_rfl) (by kernel_rfl) (by kernel_rfl) (fun _ _ _ h => h) (Or.inl ⟨by rfl, ?ht43⟩) (by assumption) ?restt43
                  case ht43 => (intro w hSw; (try dsimp only at hSw); go_simp; try with_reducible rfl)
                  (try simp only [Act.put, List.setIfInBounds_toArray, List.set_cons_zero, List.set_cons_succ])
                  refine Till.ready (rs := [32]) (by kernel_rfl) (by simp) ?_
                  refine TillEach.last rfl (fun K hK => ?_)
                  · go_simp
                    refine hK.out _ _ ?_
                    clear hK K
                    (try simp only [Act.put, List.setIfInBounds_toArray, List.set_cons_zero, List.set_cons_succ])
                    refine Till.done (by kernel_rfl) ?_ _
                    go_wp2_with fail
                    go_ret
                    exact ⟨rfl, HBv13.out⟩
                exact TillEach.nil
              exact TillEach.nil
            exact TillEach.nil
          exact TillEach.nil
      exact TillEach.nil
    exact TillEach.nil
def rB (T : List Tri) (K : List Int) (P : List (Int × Int)) : List Bool := (P.filter fun e => innR T e.1 e.2).map fun e => isR T K e.1 e.2
def rE (T : List Tri) (K : List Int) (P : List (Int × Int)) : List (Int × Int) := P.filter fun e => isR T K e.1 e.2
theorem rB_one (T : List Tri) (K : List Int) (P : List (Int × Int)) (e : Int × Int) : rB T K (P ++ [e]) = rB T K P ++ (if innR T e.1 e.2 then [isR T K e.1 e.2] else []) := by
  unfold rB
  rw [List.filter_append, List.map_append]
  cases h : innR T e.1 e.2 <;> simp [h]
theorem rE_one (T : List Tri) (K : List Int) (P : List (Int × Int)) (e : Int × Int) : rE T K (P ++ [e]) = rE T K P ++ (if isR T K e.1 e.2 then [e] else []) := by
  unfold rE
  rw [List.filter_append]
  cases h : isR T K e.1 e.2 <;> simp [h]
theorem rB_len (T : List Tri) (K : List Int) (P : List (Int × Int)) : (rB T K P).length ≤ P.length := by
  unfold rB
  rw [List.length_map]
  exact List.length_filter_le _ _
theorem rE_len (T : List Tri) (K : List Int) (P : List (Int × Int)) : (rE T K P).length ≤ P.length := List.length_filter_le _ _
theorem rowP_len (a b : Nat) : (rowP a b).length ≤ b := by
  unfold rowP
  rw [List.length_map]
  exact Nat.le_trans (List.length_filter_le _ _) (by rw [List.length_range]; exact Nat.le_refl _)
theorem pairsP_len {m : Nat} (hm : m ≤ 60) (a : Nat) : (pairsP m a).length ≤ 60 * a := by
  induction a with
  | zero => exact Nat.le_refl _
  | succ a ih =>
    rw [pairsP_step, List.length_append]
    have := rowP_len a m
    omega
set_option maxRecDepth 100000 in
set_option maxHeartbeats 8000000 in
theorem refBits31_any (A : Option Addr) (c m : Nat) (T : List Tri) (Ak : Option Addr) (ck : Nat) (K : List Int) (w : World) (hm : m ≤ 60) (hT : T.length ≤ 1000) (hs : SurfE m T) (hok : okK T.length K) (ht : TrisAt w w.heap.size A T.length T) (hk : KR w Ak K) :
    Calls Tryz.prog 9 #[.agg #[.int .i64 (m : Int), .slice A T.length c], .slice Ak K.length ck] w (fun e w' => ∃ (A' : Option Addr) (c' : Nat), e = .returned (.slice A' (rB T K (pairsP m m)).length c') ∧ BR w' w.heap.size A' c' (rB T K (pairsP m m)) ∧ Below w.heap.size w w') := by
  have HT := Lib.hid ht
  have HK0 := Lib.hid hk
  have HSE := Lib.hid hs
  have HOK := Lib.hid hok
  clear ht hk hs hok
  obtain ⟨i0, hi0, hz0, hz1, hz2⟩ := info_parts bool_infoS
  obtain ⟨V, hV⟩ : ∃ V, V = w.alloc (.cells #[.int .i64 (m : Int), .slice A T.length c] 24) := ⟨_, rfl⟩
  have GA0 : Hid (Blk V w.heap.size 24 #[.int .i64 (m : Int), .slice A T.length c]) := by subst hV; exact Lib.hid (Blk.new _ _ _)
  have HB0 : Hid (Below w.heap.size w V) := by subst hV; exact Lib.hid (bw_alloc (Below.refl _ _) _)
  go_enter Tryz.func9, Tryz.ntmps9
  go_upto_region 1 with (fail)
  rw [← hV]
  clear hV
  obtain ⟨ga, hga⟩ : ∃ g, g = w.heap.size := ⟨_, rfl⟩
  rw [← hga] at GA0
  simp only [← hga]
  clear hga
  have HR0 : Hid (BR V w.heap.size none 0 (rB T K (pairsP m 0))) := Lib.hid (BR.nil _ _)
  go_wp2_with fail
  go_loopw [5, 6] (fun ov iv wr => ∃ (a nb : Nat) (A' : Option Addr) (c' : Nat), a ≤ m ∧ ov = .slice A' nb c' ∧ iv = .int .i64 a ∧ Hid ((rB T K (pairsP m a)).length = nb) ∧ Hid (BR wr w.heap.size A' c' (rB T K (pairsP m a))) ∧ Hid (Blk wr ga 24 #[.int .i64 (m : Int), .slice A T.length c]) ∧ Hid (Below w.heap.size w wr)) (fun _ iv _ => m - (intOf iv).toNat)
  case atStart => exact ⟨0, 0, none, 0, by omega, rfl, rfl, Lib.hid rfl, HR0, GA0, HB0⟩
  case round =>
    obtain ⟨a, nb, A', c', ha, rfl, rfl, HNB, HRa, GAa, HBa⟩ := hrel
    obtain ⟨wB, hwB⟩ : ∃ wB : World, wB = wr := ⟨_, rfl⟩
    rw [← hwB] at HRa GAa HBa ⊢
    clear hwB HR0 GA0 HB0
    obtain ⟨s0, s1, _, _, _⟩ := soup_facts GAa.out
    by_cases hlt : a < m
    rotate_left
    · obtain rfl : a = m := by omega
      go_wp2_with fail
      go_ret
      exact ⟨A', c', by rw [HNB.out]; rfl, HRa.out, HBa.out⟩
    have hai : (a : Int) < (m : Int) := by omega
    have HR1 : Hid (BR wB w.heap.size A' c' (rB T K (pairsP m a ++ rowP a (a + 1)))) := Lib.hid (by rw [rowP_start, List.append_nil]; exact HRa.out)
    have HNB1 : Hid ((rB T K (pairsP m a ++ rowP a (a + 1))).length = nb) := Lib.hid (by rw [rowP_start, List.append_nil]; exact HNB.out)
    clear HRa HNB
    go_wp2_with fail
    clear s0 s1
    go_loopw [5, 7] (fun ov iv wr => ∃ (b nb : Nat) (A' : Option Addr) (c' : Nat), a < b ∧ b ≤ m ∧ ov = .slice A' nb c' ∧ iv = .int .i64 b ∧ Hid ((rB T K (pairsP m a ++ rowP a b)).length = nb) ∧ Hid (BR wr w.heap.size A' c' (rB T K (pairsP m a ++ rowP a b))) ∧ Hid (Blk wr ga 24 #[.int .i64 (m : Int), .slice A T.length c]) ∧ Hid (Below w.heap.size w wr)) (fun _ iv _ => m - (intOf iv).toNat)
    case atStart => exact ⟨a + 1, nb, A', c', by omega, by omega, rfl, by go_num, HNB1, HR1, GAa, HBa⟩
    case round =>
      obtain ⟨b, nb, A', c', hab, hb, rfl, rfl, HNB, HRwC, GAwC, HBwC⟩ := hrel
      obtain ⟨wC, hwC⟩ : ∃ wC : World, wC = wr := ⟨_, rfl⟩
      rw [← hwC] at HRwC GAwC HBwC ⊢
      clear hwC HR1 HNB1 GAa HBa
      obtain ⟨s0, s1, _, _, _⟩ := soup_facts GAwC.out
      by_cases hltb : b < m
      rotate_left
      · obtain rfl : b = m := by omega
        rw [← pairsP_step] at HNB HRwC
        go_wp2_with fail
        exact ⟨⟨a + 1, nb, A', c', by omega, rfl, by go_num, HNB, HRwC, GAwC, HBwC⟩, by simp [intOf]; omega⟩
      have hbi : (b : Int) < (m : Int) := by omega
      have HST := Lib.hid (rB_one T K (pairsP m a ++ rowP a b) ((a : Int), (b : Int)))
      rw [List.append_assoc, show rowP a b ++ [((a : Int), (b : Int))] = rowP a (b + 1) by rw [rowP_step, if_pos hab]] at HST
      simp only at HST
      have hnl : nb ≤ 60 * a + b := by
        rw [← HNB.out]
        refine Nat.le_trans (rB_len T K _) ?_
        rw [List.length_append]
        have h1 := pairsP_len hm a
        have h2 := rowP_len a b
        omega
      rcases with_at (a := (a : Int)) (b := (b : Int)) HSE.out with ⟨hw, hf⟩ | ⟨cc, hcl, hf, hw, _, _⟩
      · have hi : innR T (a : Int) (b : Int) = false := by unfold innR; rw [hf]; rfl
        rw [hi] at HST
        have HW := Lib.hid (with31_any (m : Int) A c T (a : Int) (b : Int) wC hT ((HT.out.below HBwC.out).more HBwC.out.size))
        rw [hw, show optI none = -1 from rfl] at HW
        clear hw hf hi
        go_wp2_with fail
        refine (HW.out).mono ?_
        rintro e w4 ⟨rfl, hb⟩
        have GAw4 := Lib.hid (blk_call GAwC.out hb)
        have HRw4 := Lib.hid (HRwC.out.below hb)
        have HBw4 := Lib.hid (bw_call HBwC.out hb)
        clear hb GAwC HRwC HBwC s0 s1
        obtain ⟨s0, s1, _, _, _⟩ := soup_facts GAw4.out
        have HSN : Hid (rB T K (pairsP m a ++ rowP a (b + 1)) = rB T K (pairsP m a ++ rowP a b)) := Lib.hid (by rw [HST.out]; simp)
        clear HST
        rw [← HSN.out] at HNB HRw4
        go_wp2_with fail
        exact ⟨⟨b + 1, nb, A', c', by omega, by omega, rfl, by go_num, HNB, HRw4, GAw4, HBw4⟩, by simp [intOf]; omega⟩
      have HW := Lib.hid (with31_any (m : Int) A c T (a : Int) (b : Int) wC hT ((HT.out.below HBwC.out).more HBwC.out.size))
      rw [hw, show optI (some (cc / 3)) = ((cc / 3 : Nat) : Int) from rfl] at HW
      have hc30 : (0 : Int) ≤ ((cc / 3 : Nat) : Int) := by omega
      go_wp2_with fail
      refine (HW.out).mono ?_
      rintro e w4 ⟨rfl, hb⟩
      have GAw4 := Lib.hid (blk_call GAwC.out hb)
      have HRw4 := Lib.hid (HRwC.out.below hb)
      have HBw4 := Lib.hid (bw_call HBwC.out hb)
      clear hb GAwC HRwC HBwC s0 s1
      obtain ⟨s0, s1, _, _, _⟩ := soup_facts GAw4.out
      have HW2 := Lib.hid (with31_any (m : Int) A c T (b : Int) (a : Int) w4 hT ((HT.out.below HBw4.out).more HBw4.out.size))
      clear HW
      generalize cc / 3 = q1 at *
      cases hf2 : facingF T ((b : Int), (a : Int)) with
      | none =>
        have hi : innR T (a : Int) (b : Int) = false := by unfold innR; rw [hf, hf2]; rfl
        rw [hi] at HST
        rw [with_none hf2, show optI none = -1 from rfl] at HW2
        clear hf hf2 hi
        go_wp2_with fail
        refine (HW2.out).mono ?_
        rintro e w5 ⟨rfl, hb⟩
        have GAw5 := Lib.hid (blk_call GAw4.out hb)
        have HRw5 := Lib.hid (HRw4.out.below hb)
        have HBw5 := Lib.hid (bw_call HBw4.out hb)
        clear hb GAw4 HRw4 HBw4 s0 s1
        obtain ⟨s0, s1, _, _, _⟩ := soup_facts GAw5.out
        have HSN : Hid (rB T K (pairsP m a ++ rowP a (b + 1)) = rB T K (pairsP m a ++ rowP a b)) := Lib.hid (by rw [HST.out]; simp)
        clear HST
        rw [← HSN.out] at HNB HRw5
        go_wp2_with fail
        exact ⟨⟨b + 1, nb, A', c', by omega, by omega, rfl, by go_num, HNB, HRw5, GAw5, HBw5⟩, by simp [intOf]; omega⟩
      | some o =>
        have hi : innR T (a : Int) (b : Int) = true := by unfold innR; rw [hf, hf2]; rfl
        rw [hi] at HST
        rw [with_some HSE.out hf2, show optI (some (o / 3)) = ((o / 3 : Nat) : Int) from rfl] at HW2
        have ho30 : (0 : Int) ≤ ((o / 3 : Nat) : Int) := by omega
        clear hf hf2 hi
        generalize o / 3 = q2 at *
        go_wp2_with fail
        refine (HW2.out).mono ?_
        rintro e w5 ⟨rfl, hb⟩
        have GAw5 := Lib.hid (blk_call GAw4.out hb)
        have HRw5 := Lib.hid (HRw4.out.below hb)
        have HBw5 := Lib.hid (bw_call HBw4.out hb)
        clear hb GAw4 HRw4 HBw4 s0 s1
        obtain ⟨s0, s1, _, _, _⟩ := soup_facts GAw5.out
        go_wp2_with fail
        refine (is31_any (m : Int) A c m T Ak ck K (a : Int) (b : Int) w5 hT HSE.out HOK.out ((HT.out.below HBw5.out).more HBw5.out.size) (HK0.out.below HBw5.out)).mono ?_
        rintro e w6 ⟨rfl, hb⟩
        have GAw6 := Lib.hid (blk_call GAw5.out hb)
        have HRw6 := Lib.hid (HRw5.out.below hb)
        have HBw6 := Lib.hid (bw_call HBw5.out hb)
        clear hb GAw5 HRw5 HBw5 s0 s1
        obtain ⟨s0, s1, _, _, _⟩ := soup_facts GAw6.out
        clear HW2
        generalize isR T K (a : Int) (b : Int) = bb at *
        have HSN : Hid (rB T K (pairsP m a ++ rowP a (b + 1)) = rB T K (pairsP m a ++ rowP a b) ++ [bb]) := Lib.hid (by rw [HST.out]; simp)
        clear HST
        have HNB1 : Hid ((rB T K (pairsP m a ++ rowP a (b + 1))).length = nb + 1) := Lib.hid (by rw [HSN.out, List.length_append, HNB.out]; rfl)
        have HBE : Hid (Below w.heap.size w (w6.alloc (.cells #[.bool bb] 4))) := Lib.hid (bw_alloc HBw6.out _)
        have HRE : Hid (BR (w6.alloc (.cells #[.bool bb] 4)) w.heap.size A' c' (rB T K (pairsP m a ++ rowP a b))) := Lib.hid (HRw6.out.alloc _)
        go_upto_region 7 with (at_builtin; go_must (refine wpList_append_sl _ rfl (.tmp 34) (.tmp 40) _ rfl w.heap.size 4 i0 _ 1 1 Tryz.underlying33 hi0 hz0 hz1 hz2 rfl (by omega) (.slice A' nb c') nb ((rB T K (pairsP m a ++ rowP a b)).map Value.bool) rfl (HRE.out.own HNB.out) (w6.heap.size + 1) (some ⟨w6.heap.size, 0, none⟩) 1 1 [.bool bb] rfl (reads_new w6 #[.bool bb] 4 1 1 rfl) (by intro u hu; simp at hu; subst hu; rfl) (by simp only [maxLen]; omega) (by omega) (bw_size HBE.out) ?_); intro A8 c8 w8 hown5 hg5 hat5)
        have hrow : ∀ q, (Value.slice A' nb c').ownBlock = some q → w.heap.size ≤ q := fun q hq => ((HRE.out.own HNB.out).lt q hq).1
        have GA8 : Hid (Blk w8 ga 24 #[.int .i64 (m : Int), .slice A T.length c]) := Lib.hid ((GAw6.out.alloc _).grown hg5 (fun e => own_blk_ne (HRE.out.own HNB.out) (GAw6.out.alloc _) (by decide) e.symm))
        have HB8 : Hid (Below w.heap.size w w8) := Lib.hid (bw_grow HBE.out hg5 hrow)
        have HR8 : Hid (BR w8 w.heap.size A8 c8 (rB T K (pairsP m a ++ rowP a (b + 1)))) := Lib.hid (br_of hown5 HNB1.out.symm (by rw [HSN.out]; simp))
        clear hown5 hg5 hat5 HBE HRE HRw6 GAw6 HBw6 hrow
        go_wp2_with fail
        exact ⟨⟨b + 1, nb + 1, A8, c8, by omega, by omega, rfl, by go_num, HNB1, HR8, GA8, HB8⟩, by simp [intOf]; omega⟩
set_option maxRecDepth 100000 in
set_option maxHeartbeats 8000000 in
theorem refEdges31_any (A : Option Addr) (c m : Nat) (T : List Tri) (Ak : Option Addr) (ck : Nat) (K : List Int) (w : World) (hm : m ≤ 60) (hT : T.length ≤ 1000) (hs : SurfE m T) (hok : okK T.length K) (ht : TrisAt w w.heap.size A T.length T) (hk : KR w Ak K) :
    Calls Tryz.prog 11 #[.agg #[.int .i64 (m : Int), .slice A T.length c], .slice Ak K.length ck] w (fun e w' => ∃ (A' : Option Addr) (c' : Nat), e = .returned (.slice A' (rE T K (pairsP m m)).length c') ∧ ERow w' w.heap.size A' c' (rE T K (pairsP m m)) ∧ Below w.heap.size w w') := by
  have HT := Lib.hid ht
  have HK0 := Lib.hid hk
  have HSE := Lib.hid hs
  have HOK := Lib.hid hok
  clear ht hk hs hok
  obtain ⟨i0, hi0, hz0, hz1, hz2⟩ := info_parts edge_infoS
  obtain ⟨V, hV⟩ : ∃ V, V = w.alloc (.cells #[.int .i64 (m : Int), .slice A T.length c] 24) := ⟨_, rfl⟩
  have GA0 : Hid (Blk V w.heap.size 24 #[.int .i64 (m : Int), .slice A T.length c]) := by subst hV; exact Lib.hid (Blk.new _ _ _)
  have HB0 : Hid (Below w.heap.size w V) := by subst hV; exact Lib.hid (bw_alloc (Below.refl _ _) _)
  go_enter Tryz.func11, Tryz.ntmps11
  go_upto_region 1 with (fail)
  rw [← hV]
  clear hV
  obtain ⟨ga, hga⟩ : ∃ g, g = w.heap.size := ⟨_, rfl⟩
  rw [← hga] at GA0
  simp only [← hga]
  clear hga
  have HR0 : Hid (ERow V w.heap.size none 0 (rE T K (pairsP m 0))) := Lib.hid (ERow.nil _ _)
  go_wp2_with fail
  go_loopw [5, 6] (fun ov iv wr => ∃ (a nb : Nat) (A' : Option Addr) (c' : Nat), a ≤ m ∧ ov = .slice A' nb c' ∧ iv = .int .i64 a ∧ Hid ((rE T K (pairsP m a)).length = nb) ∧ Hid (ERow wr w.heap.size A' c' (rE T K (pairsP m a))) ∧ Hid (Blk wr ga 24 #[.int .i64 (m : Int), .slice A T.length c]) ∧ Hid (Below w.heap.size w wr)) (fun _ iv _ => m - (intOf iv).toNat)
  case atStart => exact ⟨0, 0, none, 0, by omega, rfl, rfl, Lib.hid rfl, HR0, GA0, HB0⟩
  case round =>
    obtain ⟨a, nb, A', c', ha, rfl, rfl, HNB, HRa, GAa, HBa⟩ := hrel
    obtain ⟨wB, hwB⟩ : ∃ wB : World, wB = wr := ⟨_, rfl⟩
    rw [← hwB] at HRa GAa HBa ⊢
    clear hwB HR0 GA0 HB0
    obtain ⟨s0, s1, _, _, _⟩ := soup_facts GAa.out
    by_cases hlt : a < m
    rotate_left
    · obtain rfl : a = m := by omega
      go_wp2_with fail
      go_ret
      exact ⟨A', c', by rw [HNB.out]; rfl, HRa.out, HBa.out⟩
    have hai : (a : Int) < (m : Int) := by omega
    have HR1 : Hid (ERow wB w.heap.size A' c' (rE T K (pairsP m a ++ rowP a (a + 1)))) := Lib.hid (by rw [rowP_start, List.append_nil]; exact HRa.out)
    have HNB1 : Hid ((rE T K (pairsP m a ++ rowP a (a + 1))).length = nb) := Lib.hid (by rw [rowP_start, List.append_nil]; exact HNB.out)
    clear HRa HNB
    go_wp2_with fail
    clear s0 s1
    go_loopw [5, 7] (fun ov iv wr => ∃ (b nb : Nat) (A' : Option Addr) (c' : Nat), a < b ∧ b ≤ m ∧ ov = .slice A' nb c' ∧ iv = .int .i64 b ∧ Hid ((rE T K (pairsP m a ++ rowP a b)).length = nb) ∧ Hid (ERow wr w.heap.size A' c' (rE T K (pairsP m a ++ rowP a b))) ∧ Hid (Blk wr ga 24 #[.int .i64 (m : Int), .slice A T.length c]) ∧ Hid (Below w.heap.size w wr)) (fun _ iv _ => m - (intOf iv).toNat)
    case atStart => exact ⟨a + 1, nb, A', c', by omega, by omega, rfl, by go_num, HNB1, HR1, GAa, HBa⟩
    case round =>
      obtain ⟨b, nb, A', c', hab, hb, rfl, rfl, HNB, HRwC, GAwC, HBwC⟩ := hrel
      obtain ⟨wC, hwC⟩ : ∃ wC : World, wC = wr := ⟨_, rfl⟩
      rw [← hwC] at HRwC GAwC HBwC ⊢
      clear hwC HR1 HNB1 GAa HBa
      obtain ⟨s0, s1, _, _, _⟩ := soup_facts GAwC.out
      by_cases hltb : b < m
      rotate_left
      · obtain rfl : b = m := by omega
        rw [← pairsP_step] at HNB HRwC
        go_wp2_with fail
        exact ⟨⟨a + 1, nb, A', c', by omega, rfl, by go_num, HNB, HRwC, GAwC, HBwC⟩, by simp [intOf]; omega⟩
      have hbi : (b : Int) < (m : Int) := by omega
      have HST := Lib.hid (rE_one T K (pairsP m a ++ rowP a b) ((a : Int), (b : Int)))
      rw [List.append_assoc, show rowP a b ++ [((a : Int), (b : Int))] = rowP a (b + 1) by rw [rowP_step, if_pos hab]] at HST
      simp only at HST
      have hnl : nb ≤ 60 * a + b := by
        rw [← HNB.out]
        refine Nat.le_trans (rE_len T K _) ?_
        rw [List.length_append]
        have h1 := pairsP_len hm a
        have h2 := rowP_len a b
        omega
      go_wp2_with fail
      refine (is31_any (m : Int) A c m T Ak ck K (a : Int) (b : Int) wC hT HSE.out HOK.out ((HT.out.below HBwC.out).more HBwC.out.size) (HK0.out.below HBwC.out)).mono ?_
      rintro e w4 ⟨rfl, hb⟩
      have GAw4 := Lib.hid (blk_call GAwC.out hb)
      have HRw4 := Lib.hid (HRwC.out.below hb)
      have HBw4 := Lib.hid (bw_call HBwC.out hb)
      clear hb GAwC HRwC HBwC s0 s1
      obtain ⟨s0, s1, _, _, _⟩ := soup_facts GAw4.out
      cases hi : isR T K (a : Int) (b : Int) with
      | false =>
        rw [hi] at HST
        clear hi
        have HSN : Hid (rE T K (pairsP m a ++ rowP a (b + 1)) = rE T K (pairsP m a ++ rowP a b)) := Lib.hid (by rw [HST.out]; simp)
        clear HST
        rw [← HSN.out] at HNB HRw4
        go_wp2_with fail
        exact ⟨⟨b + 1, nb, A', c', by omega, by omega, rfl, by go_num, HNB, HRw4, GAw4, HBw4⟩, by simp [intOf]; omega⟩
      | true =>
        rw [hi] at HST
        clear hi
        have HSN : Hid (rE T K (pairsP m a ++ rowP a (b + 1)) = rE T K (pairsP m a ++ rowP a b) ++ [((a : Int), (b : Int))]) := Lib.hid (by rw [HST.out]; simp)
        clear HST
        have HNB1 : Hid ((rE T K (pairsP m a ++ rowP a (b + 1))).length = nb + 1) := Lib.hid (by rw [HSN.out, List.length_append, HNB.out]; rfl)
        have HBE : Hid (Below w.heap.size w (w4.alloc (.cells #[.int .i64 (a : Int), .int .i64 (b : Int)] 42))) := Lib.hid (bw_alloc HBw4.out _)
        have HRE : Hid (ERow (w4.alloc (.cells #[.int .i64 (a : Int), .int .i64 (b : Int)] 42)) w.heap.size A' c' (rE T K (pairsP m a ++ rowP a b))) := Lib.hid (HRw4.out.alloc _)
        go_upto_region 7 with (at_builtin; go_must (refine wpList_append_sl _ rfl (.tmp 27) (.tmp 31) _ rfl w.heap.size 42 i0 _ 2 16 Tryz.underlying29 hi0 hz0 hz1 hz2 rfl (by omega) (.slice A' nb c') nb ((rE T K (pairsP m a ++ rowP a b)).flatMap cellE) rfl (HRE.out.ownk HNB.out) (w4.heap.size + 1) (some ⟨w4.heap.size, 0, none⟩) 1 1 [.int .i64 (a : Int), .int .i64 (b : Int)] rfl (reads_new w4 #[.int .i64 (a : Int), .int .i64 (b : Int)] 42 1 2 rfl) (by intro u hu; simp at hu; rcases hu with rfl | rfl <;> rfl) (by simp only [maxLen]; omega) (by omega) (bw_size HBE.out) ?_); intro A8 c8 w8 hown5 hg5 hat5)
        have hrow : ∀ q, (Value.slice A' nb c').ownBlock = some q → w.heap.size ≤ q := fun q hq => ((HRE.out.ownk HNB.out).lt q hq).1
        have GA8 : Hid (Blk w8 ga 24 #[.int .i64 (m : Int), .slice A T.length c]) := Lib.hid ((GAw4.out.alloc _).grown hg5 (fun e => own_blk_ne (HRE.out.ownk HNB.out) (GAw4.out.alloc _) (by decide) e.symm))
        have HB8 : Hid (Below w.heap.size w w8) := Lib.hid (bw_grow HBE.out hg5 hrow)
        have HR8 : Hid (ERow w8 w.heap.size A8 c8 (rE T K (pairsP m a ++ rowP a (b + 1)))) := Lib.hid (erow_ofk hown5 HNB1.out (by rw [HSN.out]; simp [cellE]))
        clear hown5 hg5 hat5 HBE HRE HRw4 GAw4 HBw4 hrow
        go_wp2_with fail
        exact ⟨⟨b + 1, nb + 1, A8, c8, by omega, by omega, rfl, by go_num, HNB1, HR8, GA8, HB8⟩, by simp [intOf]; omega⟩
end Go.Proofs.YtcahbcminonfbaaGreat
