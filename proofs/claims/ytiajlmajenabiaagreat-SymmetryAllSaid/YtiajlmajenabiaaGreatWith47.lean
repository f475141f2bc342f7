/- gypsumref11.With, walked. No condition but sizes. -/
import Derived.Test.YtiajlmajenabiaaGreatWz47
import Derived.Test.YtiajlmajenabiaaGreatSymA
set_option maxRecDepth 100000
set_option maxHeartbeats 16000000
set_option linter.all false
namespace Go.Proofs.YtiajlmajenabiaaGreat
open Go.RowKit
theorem TriQ.cornerS {w : World} {q : Addr} {t : Tri} (h : TriQ w q t) {x : Nat} (hx : x < 3) : CellQ w (q.add x) (.int .i64 (cornerT t x)) := by
 refine ⟨?_, by rw [block_of_add]; exact h.lt⟩
 rcases (by omega : x = 0 ∨ x = 1 ∨ x = 2) with rfl | rfl | rfl
 · rw [show q.add 0 = q by simp [Addr.add]]
   exact h.c.c0
 · exact h.c.c1
 · exact h.c.c2
theorem edge_no {t : Tri} {a b : Int} (h : ∀ q, q < 3 → ¬ (cornerT t q = a ∧ cornerT t ((q + 1) % 3) = b)) : edgeB t a b = false := by
 cases he : edgeB t a b with
 | false => rfl
 | true =>
  unfold edgeB at he
  simp only [Bool.or_eq_true, Bool.and_eq_true, beq_iff_eq] at he
  rcases he with (h1 | h1) | h1
  · exact absurd h1 (h 0 (by omega))
  · exact absurd h1 (h 1 (by omega))
  · exact absurd h1 (h 2 (by omega))
theorem edge_yes {t : Tri} {a b : Int} {q : Nat} (hq : q < 3) (h1 : cornerT t q = a) (h2 : cornerT t ((q + 1) % 3) = b) : edgeB t a b = true := by
 unfold edgeB
 simp only [Bool.or_eq_true, Bool.and_eq_true, beq_iff_eq]
 rcases (by omega : q = 0 ∨ q = 1 ∨ q = 2) with rfl | rfl | rfl
 · exact .inl (.inl ⟨h1, h2⟩)
 · exact .inl (.inr ⟨h1, h2⟩)
 · exact .inr ⟨h1, h2⟩
attribute [local irreducible] Blk LRow World.alloc World.setCell World.cell? World.frozen? MapV MapI
theorem with47_any (N : Int) (A : Option Addr) (c : Nat) (T : List Tri) (a b : Int) (w : World) (hT : T.length ≤ 1000) (ht : TrisAt w w.heap.size A T.length T) :
  Calls Tryz.prog 30 #[.agg #[.int .i64 N, .slice A T.length c], .int .i64 a, .int .i64 b] w (IntPost w (optI (withF T a b))) := by
 have HT := Lib.hid ht
 clear ht
 obtain ⟨r, HR⟩ : ∃ r, Hid (optI (withF T a b) = r) := ⟨_, Lib.hid rfl⟩
 rw [HR.out]
 obtain ⟨V, hV⟩ : ∃ V, V = w.alloc (.cells #[.int .i64 N, .slice A T.length c] 24) := ⟨_, rfl⟩
 have GA0 : Hid (Blk V w.heap.size 24 #[.int .i64 N, .slice A T.length c]) := by subst hV; exact Lib.hid (Blk.new _ _ _)
 have HB0 : Hid (Below w.heap.size w V) := by subst hV; exact Lib.hid (bw_alloc (Below.refl _ _) _)
 go_enter Tryz.func30, Tryz.ntmps30
 go_upto_region 1 with (fail)
 rw [← hV]
 clear hV
 obtain ⟨ga, hga⟩ : ∃ g, g = w.heap.size := ⟨_, rfl⟩
 rw [← hga] at GA0
 simp only [← hga]
 clear hga
 obtain ⟨s0, s1, _, _, _⟩ := soup_facts GA0.out
 go_wp2_with fail
 go_loopw [7] (fun iv wr => ∃ i : Nat, i ≤ T.length ∧ iv = .int .i64 i ∧ Hid (∀ j, j < i → edgeB (tri T j) a b = false) ∧ wr = V) (fun iv _ => T.length - (intOf iv).toNat)
 case atStart => exact ⟨0, by omega, rfl, Lib.hid (fun j hj => absurd hj (by omega)), rfl⟩
 case round =>
  obtain ⟨i, hi, rfl, HOi, hwr⟩ := hrel
  obtain ⟨wB, hwB⟩ : ∃ wB : World, wB = wr := ⟨_, rfl⟩
  rw [← hwB] at hwr ⊢
  clear hwB
  subst hwr
  by_cases hlt : i < T.length
  rotate_left
  · obtain rfl : i = T.length := by omega
    obtain rfl : -1 = r := by
     rw [← HR.out, show withF T a b = none from leastF_no fun j _ hj => HOi.out j (by omega)]
     rfl
    go_wp2_with fail
    go_ret
    exact ⟨rfl, HB0.out⟩
  have hii : (i : Int) < (T.length : Int) := by omega
  obtain ⟨ad, hAd, tq⟩ := (HT.out.below HB0.out).triQ HB0.out.size hlt
  subst hAd
  have TQ := Lib.hid tq
  have HWY : Hid (edgeB (tri T i) a b = true → (i : Int) = r) := Lib.hid fun h => by
   rw [← HR.out, show withF T a b = some i from leastF_is (Nat.zero_le _) (by omega) h fun j _ hj => HOi.out j hj]
   rfl
  have HO1 : Hid (edgeB (tri T i) a b = false → ∀ j, j < i + 1 → edgeB (tri T j) a b = false) := Lib.hid (fun h j hj => by
   by_cases e : j = i
   · subst e; exact h
   · exact HOi.out j (by omega))
  clear tq
  generalize tri T i = t at *
  go_wp2_with fail
  go_loopw [8] (fun iv wr => ∃ k : Nat, k ≤ 3 ∧ iv = .int .i64 k ∧ Hid (∀ q, q < k → ¬ (cornerT t q = a ∧ cornerT t ((q + 1) % 3) = b)) ∧ wr = wB) (fun iv _ => 3 - (intOf iv).toNat)
  case atStart => exact ⟨0, by omega, rfl, Lib.hid (fun j hj => absurd hj (by omega)), rfl⟩
  case round =>
   obtain ⟨k, hk, rfl, HQ, hwr⟩ := hrel
   obtain ⟨wC, hwC⟩ : ∃ wC : World, wC = wr := ⟨_, rfl⟩
   rw [← hwC] at hwr ⊢
   clear hwC
   subst hwr
   by_cases hk3 : k < 3
   rotate_left
   · obtain rfl : k = 3 := by omega
     have HON := Lib.hid (HO1.out (edge_no HQ.out))
     go_wp2_with fail
     exact ⟨⟨i + 1, by omega, by go_num, HON, by first | rfl | trivial⟩, by simp [intOf]; omega⟩
   have hki : (k : Int) < 3 := by omega
   obtain ⟨k2, hk2⟩ : ∃ k2, (k + 1) % 3 = k2 := ⟨_, rfl⟩
   have hk23 : k2 < 3 := by omega
   have hk2i : (k2 : Int) < 3 := by omega
   have e1 : Int.tmod ((k : Int) + 1) 3 = (k2 : Int) := by rw [← hk2]; exact Int.ofNat_tmod (k + 1) 3
   have hw1 : IntKind.i64.wrap ((k : Int) + 1) = (k : Int) + 1 := IntWalk.i64_in _ (by omega)
   have hw2 : IntKind.i64.wrap (k2 : Int) = (k2 : Int) := IntWalk.i64_in _ (by omega)
   have x0 := (TQ.out.cornerS hk3).c
   have y0 := (TQ.out.cornerS hk23).c
   have HYS : Hid (cornerT t k = a → cornerT t k2 = b → (i : Int) = r) := Lib.hid fun h1 h2 => HWY.out (edge_yes hk3 h1 (by rw [hk2]; exact h2))
   have HNS : Hid (¬ (cornerT t k = a ∧ cornerT t k2 = b) → ∀ q, q < k + 1 → ¬ (cornerT t q = a ∧ cornerT t ((q + 1) % 3) = b)) := Lib.hid fun h q hq => by
    by_cases e : q = k
    · subst e; rw [hk2]; exact h
    · exact HQ.out q (by omega)
   clear hk2
   generalize cornerT t k = x at *
   generalize cornerT t k2 = y at *
   by_cases hx : x = a
   rotate_left
   · have hxb : (x == a) = false := by simpa using hx
     have HN := Lib.hid (HNS.out fun h => hx h.1)
     clear hx HNS HYS
     go_wp2_with fail
     exact ⟨⟨k + 1, by omega, by go_num, HN, by first | rfl | trivial⟩, by simp [intOf]; omega⟩
   by_cases hy : y = b
   rotate_left
   · have hyb : (y == b) = false := by simpa using hy
     have HN := Lib.hid (HNS.out fun h => hy h.2)
     subst hx
     clear hy HNS HYS
     go_wp2_with fail
     exact ⟨⟨k + 1, by omega, by go_num, HN, by first | rfl | trivial⟩, by simp [intOf]; omega⟩
   obtain rfl := HYS.out hx hy
   subst hx hy
   clear HNS HYS
   go_wp2_with fail
   go_ret
   exact ⟨rfl, HB0.out⟩
end Go.Proofs.YtiajlmajenabiaaGreat
