/- gypsumref15.Is, walked. No condition but sizes. -/
import Derived.Test.YtiajlmajenabiaaGreatFanW
import Derived.Test.YtiajlmajenabiaaGreatP15
import Derived.IntWalk
import Derived.Deep.CutRange
import Derived.Deep.DeepCutAuto
set_option maxRecDepth 100000
set_option maxHeartbeats 16000000
set_option linter.all false
namespace Go.Proofs.YtiajlmajenabiaaGreat
open Go.RowKit
theorem TriQ.corner {w : World} {q : Addr} {t : Tri} (h : TriQ w q t) {x : Nat} (hx : x < 3) : CellQ w (q.add x) (.int .i64 (cornerT t x)) := by
 refine ⟨?_, by rw [block_of_add]; exact h.lt⟩
 rcases (by omega : x = 0 ∨ x = 1 ∨ x = 2) with rfl | rfl | rfl
 · rw [show q.add 0 = q by simp [Addr.add]]
   exact h.c.c0
 · exact h.c.c1
 · exact h.c.c2
attribute [local irreducible] Blk LRow World.alloc World.setCell World.cell? World.frozen?
theorem is15_any (N : Int) (A : Option Addr) (c : Nat) (T : List Tri) (w : World) (hT : T.length ≤ 1000) (ht : TrisAt w w.heap.size A T.length T) :
  Calls Tryz.prog 15 #[.agg #[.int .i64 N, .slice A T.length c]] w (BoolPost w (decide (checkR N T = (0, 0, 0)))) := by
 have HT := Lib.hid ht
 clear ht
 obtain ⟨r, HR⟩ : ∃ r, Hid (decide (checkR N T = (0, 0, 0)) = r) := ⟨_, Lib.hid rfl⟩
 rw [HR.out]
 obtain ⟨V, hV⟩ : ∃ V, V = w.alloc (.cells #[.int .i64 N, .slice A T.length c] 24) := ⟨_, rfl⟩
 have GA0 : Hid (Blk V w.heap.size 24 #[.int .i64 N, .slice A T.length c]) := by subst hV; exact Lib.hid (Blk.new _ _ _)
 have HB0 : Hid (Below w.heap.size w V) := by subst hV; exact Lib.hid (bw_alloc (Below.refl _ _) _)
 go_enter Tryz.func15, Tryz.ntmps15
 go_upto_region 1 with (fail)
 rw [← hV]
 clear hV
 obtain ⟨ga, hga⟩ : ∃ g, g = w.heap.size := ⟨_, rfl⟩
 have HGA : Hid (w.heap.size ≤ ga) := Lib.hid (by omega)
 rw [← hga] at GA0
 simp only [← hga]
 clear hga
 obtain ⟨s0, s1, _, _, _⟩ := soup_facts GA0.out
 have hTi : ¬ (8192 : Int) < (T.length : Int) := by omega
 have HNO : Hid ((∀ m : Nat, N = (m : Int) → ¬ SurfE m T) → r = false) := Lib.hid (fun h => by
  rw [← HR.out]
  exact decide_eq_false fun e => by
   obtain ⟨m, hm, hs⟩ := chk_iff.1 e
   exact h m hm hs)
 by_cases hN0 : N < 0
 · have HF : Hid (r = false) := Lib.hid (HNO.out fun m hm => by omega)
   go_wp2_with fail
   go_ret
   exact ⟨by rw [HF.out]; rfl, HB0.out⟩
 by_cases hN1 : 4096 < N
 · have HF : Hid (r = false) := Lib.hid (HNO.out fun m hm hs => by have := hs.m1; omega)
   go_wp2_with fail
   go_ret
   exact ⟨by rw [HF.out]; rfl, HB0.out⟩
 obtain ⟨m, rfl⟩ := Int.eq_ofNat_of_zero_le (show 0 ≤ N by omega)
 have hm1 : m ≤ 4096 := by omega
 have HNS : Hid (¬ SurfE m T → r = false) := Lib.hid (fun h => HNO.out fun m' hm hs => by
  obtain rfl : m = m' := by omega
  exact h hs)
 have HTS : Hid (SurfE m T ↔ (∀ t ∈ T, TriOk m t) ∧ PairOk T T.length ∧ ∀ v, v < m → VertOk T v) := Lib.hid (surf_tests hm1 (by omega))
 clear HNO
 go_wp2_with fail
 clear s0 s1
 go_loopw [3] (fun iv wr => ∃ i : Nat, i ≤ T.length ∧ iv = .int .i64 i ∧ Hid (∀ j, j < i → TriOk m (tri T j)) ∧ Hid (Blk wr ga 24 #[.int .i64 (m : Int), .slice A T.length c]) ∧ Hid (Below w.heap.size w wr)) (fun iv _ => T.length - (intOf iv).toNat)
 case atStart => exact ⟨0, by omega, rfl, Lib.hid (fun j hj => absurd hj (by omega)), GA0, HB0⟩
 case round =>
  obtain ⟨i, hi, rfl, HOi, GAi, HBi⟩ := hrel
  obtain ⟨wB, hwB⟩ : ∃ wB : World, wB = wr := ⟨_, rfl⟩
  rw [← hwB] at GAi HBi ⊢
  clear hwB GA0 HB0
  obtain ⟨s0, s1, _, _, _⟩ := soup_facts GAi.out
  by_cases hlt : i < T.length
  · have hii : (i : Int) < (T.length : Int) := by omega
    obtain ⟨ad, hAd, tq⟩ := (HT.out.below HBi.out).triQ HBi.out.size hlt
    obtain ⟨d0, d1, d2, d3, d4, d5⟩ := tq.c
    subst hAd
    have HMT : Hid (tri T i ∈ T) := Lib.hid (tri_mem hlt)
    have HO1 : Hid (TriOk m (tri T i) → ∀ j, j < i + 1 → TriOk m (tri T j)) := Lib.hid (fun h j hj => by
     by_cases e : j = i
     · subst e; exact h
     · exact HOi.out j (by omega))
    clear tq
    generalize tri T i = t at *
    obtain ⟨w4, hw4⟩ : ∃ w4, w4 = wB.alloc (.cells #[.int .i64 t.a, .int .i64 t.b, .int .i64 t.c] 56) := ⟨_, rfl⟩
    have GT4 : Hid (Blk w4 wB.heap.size 56 #[.int .i64 t.a, .int .i64 t.b, .int .i64 t.c]) := by subst hw4; exact Lib.hid (Blk.new _ _ _)
    have GA4 : Hid (Blk w4 ga 24 #[.int .i64 (m : Int), .slice (some ad) T.length c]) := by subst hw4; exact Lib.hid (GAi.out.alloc _)
    have HB4 : Hid (Below w.heap.size w w4) := by subst hw4; exact Lib.hid (bw_alloc HBi.out _)
    go_upto_region 7 with (fail)
    rw [← hw4]
    generalize wB.heap.size = gt at *
    clear hw4 GAi HBi s0 s1 d0 d1 d2 d3 d4 d5
    go_wp2_with fail
    go_loopw [5] (fun iv wr => ∃ k : Nat, k ≤ 3 ∧ iv = .int .i64 k ∧ Hid (∀ q, q < k → GoodC (m : Int) t q) ∧ Hid (Blk wr ga 24 #[.int .i64 (m : Int), .slice (some ad) T.length c]) ∧ Hid (Blk wr gt 56 #[.int .i64 t.a, .int .i64 t.b, .int .i64 t.c]) ∧ Hid (Below w.heap.size w wr)) (fun iv _ => 3 - (intOf iv).toNat)
    case atStart => exact ⟨0, by omega, rfl, Lib.hid (fun j hj => absurd hj (by omega)), GA4, GT4, HB4⟩
    case round =>
     obtain ⟨k, hk, rfl, HG, GAwE, GTwE, HBwE⟩ := hrel
     obtain ⟨wE, hwE⟩ : ∃ wE : World, wE = wr := ⟨_, rfl⟩
     rw [← hwE] at GAwE GTwE HBwE ⊢
     clear hwE GA4 GT4 HB4
     by_cases hk3 : k < 3
     rotate_left
     · obtain rfl : k = 3 := by omega
       have HON := Lib.hid (HO1.out (good_ok HG.out))
       go_wp2_with fail
       exact ⟨⟨i + 1, by omega, by go_num, HON, GAwE, HBwE⟩, by simp [intOf]; omega⟩
     have hki : (k : Int) < 3 := by omega
     obtain ⟨k2, hk2⟩ : ∃ k2, (k + 1) % 3 = k2 := ⟨_, rfl⟩
     have hk23 : k2 < 3 := by omega
     have hk2i : (k2 : Int) < 3 := by omega
     have e1 : Int.tmod ((k : Int) + 1) 3 = (k2 : Int) := by rw [← hk2]; exact Int.ofNat_tmod (k + 1) 3
     have hw1 : IntKind.i64.wrap ((k : Int) + 1) = (k : Int) + 1 := IntWalk.i64_in _ (by omega)
     have hw2 : IntKind.i64.wrap (k2 : Int) = (k2 : Int) := IntWalk.i64_in _ (by omega)
     obtain ⟨x, hx⟩ : ∃ x, cornerT t k = x := ⟨_, rfl⟩
     obtain ⟨y, hy⟩ : ∃ y, cornerT t k2 = y := ⟨_, rfl⟩
     have HX : Hid ((#[.int .i64 t.a, .int .i64 t.b, .int .i64 t.c] : Array Value)[k]? = some (.int .i64 x)) := Lib.hid (by
      rw [← hx]
      rcases (by omega : k = 0 ∨ k = 1 ∨ k = 2) with rfl | rfl | rfl <;> rfl)
     have HY : Hid ((#[.int .i64 t.a, .int .i64 t.b, .int .i64 t.c] : Array Value)[k2]? = some (.int .i64 y)) := Lib.hid (by
      rw [← hy]
      rcases (by omega : k2 = 0 ∨ k2 = 1 ∨ k2 = 2) with rfl | rfl | rfl <;> rfl)
     have HBAD : Hid (¬ ((0 ≤ x ∧ x < (m : Int)) ∧ x ≠ y) → r = false) := Lib.hid (fun h => HNS.out fun hs => h (by
      have h1 := ok_good (hs.ok t HMT.out) hk3
      unfold GoodC at h1
      rw [hk2, hx, hy] at h1
      exact h1))
     have HGD : Hid ((0 ≤ x ∧ x < (m : Int)) ∧ x ≠ y → ∀ q, q < k + 1 → GoodC (m : Int) t q) := Lib.hid (fun h q hq => by
      by_cases e : q = k
      · subst e
        unfold GoodC
        rw [hk2, hx, hy]
        exact h
      · exact HG.out q (by omega))
     clear hx hy hk2
     go_upto_region 10 with (fail)
     by_cases hx0 : x < 0
     · have HF : Hid (r = false) := Lib.hid (HBAD.out (by omega))
       refine wp_region_held_drew (S := fun w' => w'.cell? ⟨ga, 0, none⟩ = some (.int .i64 (m : Int)) ∧ w'.cell? ⟨ga, 1, none⟩ = some (.slice (some ad) T.length c) ∧ w'.cell? ⟨gt, k, none⟩ = some (.int .i64 x) ∧ w'.cell? ⟨gt, k2, none⟩ = some (.int .i64 y)) (by kernel_rfl) ⟨(soup_facts GAwE.out.drew).1, (soup_facts GAwE.out.drew).2.1, (GTwE.out.drew.cell k).trans HX.out, (GTwE.out.drew.cell k2).trans HY.out⟩ (fun hHeld => ?_)
       refine hKk 0 ?_; (try simp only [zQ])
       refine hKk 1 ?_; (try simp only [zQ])
       refine hKk 2 ?_; (try simp only [zQ])
       refine hKk 3 ?_; (try simp only [zQ])
       refine hKk 4 ?_; (try simp only [zQ])
       refine hRk 5 ?_; (try simp only [zQ])
       refine hRk 6 ?_; (try simp only [zQ])
       refine hRk 7 ?_; (try simp only [zQ])
       refine hRk 8 ?_; (try simp only [zQ])
       refine hRk 9 ?_; (try simp only [zQ])
       refine hRk 10 ?_; (try simp only [zQ])
       refine hKk 11 ?_; (try simp only [zQ])
       refine hKk 12 ?_; (try simp only [zQ])
       refine hRk 13 ?_; (try simp only [zQ])
       refine hRk 14 ?_; (try simp only [zQ])
       refine hRk 15 ?_; (try simp only [zQ])
       refine hRk 16 ?_; (try simp only [zQ])
       refine hRk 17 ?_; (try simp only [zQ])
       refine hRk 18 ?_; (try simp only [zQ])
       refine hRk 19 ?_; (try simp only [zQ])
       refine hRk 20 ?_; (try simp only [zQ])
       refine hRk 21 ?_; (try simp only [zQ])
       refine hKk 22 ?_; (try simp only [zQ])
       refine wpAnyH_done (by kernel_rfl) ?_ _
       obtain ⟨wn, hwn⟩ : ∃ wn, wn = wE.drew := ⟨_, rfl⟩
       have GAn := Lib.hid (GAwE.out.drew)
       have GTn := Lib.hid (GTwE.out.drew)
       have HBn := Lib.hid (bw_drew HBwE.out)
       rw [← hwn] at GAn GTn HBn ⊢
       clear hwn HBwE GAwE GTwE
       go_wp2_with fail
       go_ret
       exact ⟨by rw [HF.out]; rfl, HBn.out⟩
     by_cases hx1 : (m : Int) ≤ x
     · have HF : Hid (r = false) := Lib.hid (HBAD.out (by omega))
       refine wp_region_held_drew (S := fun w' => w'.cell? ⟨ga, 0, none⟩ = some (.int .i64 (m : Int)) ∧ w'.cell? ⟨ga, 1, none⟩ = some (.slice (some ad) T.length c) ∧ w'.cell? ⟨gt, k, none⟩ = some (.int .i64 x) ∧ w'.cell? ⟨gt, k2, none⟩ = some (.int .i64 y)) (by kernel_rfl) ⟨(soup_facts GAwE.out.drew).1, (soup_facts GAwE.out.drew).2.1, (GTwE.out.drew.cell k).trans HX.out, (GTwE.out.drew.cell k2).trans HY.out⟩ (fun hHeld => ?_)
       refine hKk 0 ?_; (try simp only [zQ])
       refine hKk 1 ?_; (try simp only [zQ])
       refine hKk 2 ?_; (try simp only [zQ])
       refine hKk 3 ?_; (try simp only [zQ])
       refine hKk 4 ?_; (try simp only [zQ])
       refine hKk 5 ?_; (try simp only [zQ])
       refine hKk 6 ?_; (try simp only [zQ])
       refine hKk 7 ?_; (try simp only [zQ])
       refine hKk 8 ?_; (try simp only [zQ])
       refine hKk 9 ?_; (try simp only [zQ])
       refine hKk 10 ?_; (try simp only [zQ])
       refine hKk 11 ?_; (try simp only [zQ])
       refine hKk 12 ?_; (try simp only [zQ])
       refine hRk 13 ?_; (try simp only [zQ])
       refine hRk 14 ?_; (try simp only [zQ])
       refine hRk 15 ?_; (try simp only [zQ])
       refine hRk 16 ?_; (try simp only [zQ])
       refine hRk 17 ?_; (try simp only [zQ])
       refine hRk 18 ?_; (try simp only [zQ])
       refine hRk 19 ?_; (try simp only [zQ])
       refine hRk 20 ?_; (try simp only [zQ])
       refine hRk 21 ?_; (try simp only [zQ])
       refine hKk 22 ?_; (try simp only [zQ])
       refine wpAnyH_done (by kernel_rfl) ?_ _
       obtain ⟨wn, hwn⟩ : ∃ wn, wn = wE.drew := ⟨_, rfl⟩
       have GAn := Lib.hid (GAwE.out.drew)
       have GTn := Lib.hid (GTwE.out.drew)
       have HBn := Lib.hid (bw_drew HBwE.out)
       rw [← hwn] at GAn GTn HBn ⊢
       clear hwn HBwE GAwE GTwE
       go_wp2_with fail
       go_ret
       exact ⟨by rw [HF.out]; rfl, HBn.out⟩
     by_cases hxy : x = y
     · have hxyb : (x == y) = true := by simp [hxy]
       have HF : Hid (r = false) := Lib.hid (HBAD.out (by omega))
       clear hxy
       refine wp_region_held_drew (S := fun w' => w'.cell? ⟨ga, 0, none⟩ = some (.int .i64 (m : Int)) ∧ w'.cell? ⟨ga, 1, none⟩ = some (.slice (some ad) T.length c) ∧ w'.cell? ⟨gt, k, none⟩ = some (.int .i64 x) ∧ w'.cell? ⟨gt, k2, none⟩ = some (.int .i64 y)) (by kernel_rfl) ⟨(soup_facts GAwE.out.drew).1, (soup_facts GAwE.out.drew).2.1, (GTwE.out.drew.cell k).trans HX.out, (GTwE.out.drew.cell k2).trans HY.out⟩ (fun hHeld => ?_)
       refine hKk 0 ?_; (try simp only [zQ])
       refine hKk 1 ?_; (try simp only [zQ])
       refine hKk 2 ?_; (try simp only [zQ])
       refine hKk 3 ?_; (try simp only [zQ])
       refine hKk 4 ?_; (try simp only [zQ])
       refine hKk 5 ?_; (try simp only [zQ])
       refine hKk 6 ?_; (try simp only [zQ])
       refine hKk 7 ?_; (try simp only [zQ])
       refine hKk 8 ?_; (try simp only [zQ])
       refine hKk 9 ?_; (try simp only [zQ])
       refine hKk 10 ?_; (try simp only [zQ])
       refine hKk 11 ?_; (try simp only [zQ])
       refine hKk 12 ?_; (try simp only [zQ])
       refine hKk 13 ?_; (try simp only [zQ])
       refine hKk 14 ?_; (try simp only [zQ])
       refine hKk 15 ?_; (try simp only [zQ])
       refine hKk 16 ?_; (try simp only [zQ])
       refine hKk 17 ?_; (try simp only [zQ])
       refine hKk 18 ?_; (try simp only [zQ])
       refine hKk 19 ?_; (try simp only [zQ])
       refine hKk 20 ?_; (try simp only [zQ])
       refine hKk 21 ?_; (try simp only [zQ])
       refine hKk 22 ?_; (try simp only [zQ])
       refine wpAnyH_done (by kernel_rfl) ?_ _
       obtain ⟨wn, hwn⟩ : ∃ wn, wn = wE.drew := ⟨_, rfl⟩
       have GAn := Lib.hid (GAwE.out.drew)
       have GTn := Lib.hid (GTwE.out.drew)
       have HBn := Lib.hid (bw_drew HBwE.out)
       rw [← hwn] at GAn GTn HBn ⊢
       clear hwn HBwE GAwE GTwE
       go_wp2_with fail
       go_ret
       exact ⟨by rw [HF.out]; rfl, HBn.out⟩
     have HGN := Lib.hid (HGD.out ⟨⟨by omega, by omega⟩, hxy⟩)
     have hxyb : (x == y) = false := by simpa using hxy
     refine wp_region_held_drew (S := fun w' => w'.cell? ⟨ga, 0, none⟩ = some (.int .i64 (m : Int)) ∧ w'.cell? ⟨ga, 1, none⟩ = some (.slice (some ad) T.length c) ∧ w'.cell? ⟨gt, k, none⟩ = some (.int .i64 x) ∧ w'.cell? ⟨gt, k2, none⟩ = some (.int .i64 y)) (by kernel_rfl) ⟨(soup_facts GAwE.out.drew).1, (soup_facts GAwE.out.drew).2.1, (GTwE.out.drew.cell k).trans HX.out, (GTwE.out.drew.cell k2).trans HY.out⟩ (fun hHeld => ?_)
     refine hKk 0 ?_; (try simp only [zQ])
     refine hKk 1 ?_; (try simp only [zQ])
     refine hKk 2 ?_; (try simp only [zQ])
     refine hKk 3 ?_; (try simp only [zQ])
     refine hKk 4 ?_; (try simp only [zQ])
     refine hKk 5 ?_; (try simp only [zQ])
     refine hKk 6 ?_; (try simp only [zQ])
     refine hKk 7 ?_; (try simp only [zQ])
     refine hKk 8 ?_; (try simp only [zQ])
     refine hKk 9 ?_; (try simp only [zQ])
     refine hKk 10 ?_; (try simp only [zQ])
     refine hKk 11 ?_; (try simp only [zQ])
     refine hKk 12 ?_; (try simp only [zQ])
     refine hKk 13 ?_; (try simp only [zQ])
     refine hKk 14 ?_; (try simp only [zQ])
     refine hKk 15 ?_; (try simp only [zQ])
     refine hKk 16 ?_; (try simp only [zQ])
     refine hKk 17 ?_; (try simp only [zQ])
     refine hKk 18 ?_; (try simp only [zQ])
     refine hKk 19 ?_; (try simp only [zQ])
     refine hKk 20 ?_; (try simp only [zQ])
     refine hKk 21 ?_; (try simp only [zQ])
     refine hKk 22 ?_; (try simp only [zQ])
     refine wpAnyH_done (by kernel_rfl) ?_ _
     obtain ⟨wn, hwn⟩ : ∃ wn, wn = wE.drew := ⟨_, rfl⟩
     have GAn := Lib.hid (GAwE.out.drew)
     have GTn := Lib.hid (GTwE.out.drew)
     have HBn := Lib.hid (bw_drew HBwE.out)
     rw [← hwn] at GAn GTn HBn ⊢
     clear hwn HBwE GAwE GTwE
     go_wp2_with fail
     exact ⟨⟨k + 1, by omega, by go_num, HGN, GAn, GTn, HBn⟩, by simp [intOf]; omega⟩
  · obtain rfl : i = T.length := by omega
    have HOK : Hid (∀ t ∈ T, TriOk m t) := Lib.hid (fun t ht => by
     obtain ⟨q, hq, rfl⟩ := tri_idx ht
     exact HOi.out q hq)
    clear HOi
    go_wp2_with fail
    clear s0 s1
    go_loopw [6] (fun iv wr => ∃ i : Nat, i ≤ T.length ∧ iv = .int .i64 i ∧ Hid (PairOk T i) ∧ Hid (Blk wr ga 24 #[.int .i64 (m : Int), .slice A T.length c]) ∧ Hid (Below w.heap.size w wr)) (fun iv _ => T.length - (intOf iv).toNat)
    case atStart => exact ⟨0, by omega, rfl, Lib.hid (fun a b _ ha => absurd ha (by omega)), GAi, HBi⟩
    case round =>
     obtain ⟨i, hi, rfl, HPi, GAj, HBj⟩ := hrel
     obtain ⟨wB, hwB⟩ : ∃ wB : World, wB = wr := ⟨_, rfl⟩
     rw [← hwB] at GAj HBj ⊢
     clear hwB GAi HBi
     obtain ⟨s0, s1, _, _, _⟩ := soup_facts GAj.out
     by_cases hlt : i < T.length
     rotate_left
     · obtain rfl : i = T.length := by omega
       have HPA := HPi
       go_wp2_with fail
       clear s0 s1
       go_loopw [11] (fun iv wr => ∃ v : Nat, v ≤ m ∧ iv = .int .i64 v ∧ Hid (∀ q, q < v → VertOk T q) ∧ Hid (Blk wr ga 24 #[.int .i64 (m : Int), .slice A T.length c]) ∧ Hid (Below w.heap.size w wr)) (fun iv _ => m - (intOf iv).toNat)
       case atStart => exact ⟨0, by omega, rfl, Lib.hid (fun q h => absurd h (by omega)), GAj, HBj⟩
       case round =>
        obtain ⟨v, hv, rfl, HVv, GAv, HBv⟩ := hrel
        obtain ⟨wV, hwV⟩ : ∃ wV : World, wV = wr := ⟨_, rfl⟩
        rw [← hwV] at GAv HBv ⊢
        clear hwV GAj HBj
        obtain ⟨s0, s1, _, _, _⟩ := soup_facts GAv.out
        by_cases hvm : v < m
        rotate_left
        · obtain rfl : v = m := by omega
          have HT1 : Hid (r = true) := Lib.hid (by
           rw [← HR.out]
           exact decide_eq_true (chk_iff.2 ⟨v, rfl, HTS.out.2 ⟨HOK.out, HPA.out, HVv.out⟩⟩))
          go_wp2_with fail
          go_ret
          exact ⟨by rw [HT1.out]; rfl, HBv.out⟩
        have hvi : (v : Int) < (m : Int) := by omega
        go_wp2_with fail
        refine (fan_any (m : Int) A c T (v : Int) m wV hT ((HT.out.below HBv.out).more HBv.out.size) HOK.out).mono ?_
        rintro e w5 ⟨many, rfl, hif, hb⟩
        have GA5 := Lib.hid (blk_call GAv.out hb)
        have HB5 := Lib.hid (bw_call HBv.out hb)
        clear hb GAv HBv s0 s1
        have HVO : Hid (VertOk T v ↔ atL T T.length (v : Int) ≠ [] ∧ (atL T T.length (v : Int)).length = many) := Lib.hid ⟨fun h => ⟨h.1, hif.2 h.2⟩, fun h => ⟨h.1, hif.1 h.2⟩⟩
        have HVN : Hid (¬ VertOk T v → r = false) := Lib.hid (fun h => HNS.out fun hs => h ((HTS.out.1 hs).2.2 v hvm))
        have HVS : Hid (VertOk T v → ∀ q, q < v + 1 → VertOk T q) := Lib.hid (fun h q hq => by
         by_cases e : q = v
         · subst e; exact h
         · exact HVv.out q (by omega))
        have HLZ : Hid (atL T T.length (v : Int) = [] ↔ (atL T T.length (v : Int)).length = 0) := Lib.hid List.length_eq_zero_iff.symm
        clear hif
        generalize (atL T T.length (v : Int)).length = al at *
        by_cases h0 : al = 0
        · subst h0
          have HF : Hid (r = false) := Lib.hid (HVN.out fun h => (HVO.out.1 h).1 (HLZ.out.2 rfl))
          go_wp2_with fail
          go_ret
          exact ⟨by rw [HF.out]; rfl, HB5.out⟩
        have h0i : ¬ (al : Int) = 0 := by omega
        have h0b : ((al : Int) == 0) = false := by simpa using h0i
        by_cases h1 : al = many
        · subst h1
          have HVQ := Lib.hid (HVS.out (HVO.out.2 ⟨fun e => h0 (HLZ.out.1 e), rfl⟩))
          go_wp2_with fail
          exact ⟨⟨v + 1, by omega, by go_num, HVQ, GA5, HB5⟩, by simp [intOf]; omega⟩
        · have h1i : ¬ (al : Int) = (many : Int) := by omega
          have h1b : ((al : Int) != (many : Int)) = true := by simpa using h1i
          have HF : Hid (r = false) := Lib.hid (HVN.out fun h => h1 (HVO.out.1 h).2)
          go_wp2_with fail
          go_ret
          exact ⟨by rw [HF.out]; rfl, HB5.out⟩
     have hii : (i : Int) < (T.length : Int) := by omega
     go_wp2_with fail
     clear s0 s1
     go_loopw [7] (fun iv wr => ∃ j : Nat, j ≤ i ∧ iv = .int .i64 j ∧ Hid (∀ b, b < j → twiceB (tri T i) (tri T b) = false ∧ mirrB (tri T i) (tri T b) = false) ∧ Hid (Blk wr ga 24 #[.int .i64 (m : Int), .slice A T.length c]) ∧ Hid (Below w.heap.size w wr)) (fun iv _ => i - (intOf iv).toNat)
     case atStart => exact ⟨0, by omega, rfl, Lib.hid (fun b hb => absurd hb (by omega)), GAj, HBj⟩
     case round =>
      obtain ⟨j, hj, rfl, HPj, GAk, HBk⟩ := hrel
      obtain ⟨wC, hwC⟩ : ∃ wC : World, wC = wr := ⟨_, rfl⟩
      rw [← hwC] at GAk HBk ⊢
      clear hwC GAj HBj
      by_cases hlj : j < i
      rotate_left
      · obtain rfl : j = i := by omega
        have HPN : Hid (PairOk T (j + 1)) := Lib.hid (fun a b hba ha => by
         by_cases e : a = j
         · subst e; exact HPj.out b hba
         · exact HPi.out a b hba (by omega))
        go_wp2_with fail
        exact ⟨⟨j + 1, by omega, by go_num, HPN, GAk, HBk⟩, by simp [intOf]; omega⟩
      have hji : (j : Int) < (i : Int) := by omega
      have hjT : j < T.length := by omega
      have hjTi : (j : Int) < (T.length : Int) := by omega
      obtain ⟨ad, hAd, tqi⟩ := (HT.out.below HBk.out).triQ HBk.out.size hlt
      obtain ⟨ad', hAd', tqj⟩ := (HT.out.below HBk.out).triQ HBk.out.size hjT
      rw [hAd] at hAd'
      injection hAd' with hAd'
      subst hAd'
      subst hAd
      have HTW : Hid (twiceB (tri T i) (tri T j) = true ∨ mirrB (tri T i) (tri T j) = true → r = false) := Lib.hid (fun h => HNS.out fun hs => by
       have h1 := (HTS.out.1 hs).2.1 i j hlj hlt
       rcases h with h | h
       · rw [h1.1] at h; cases h
       · rw [h1.2] at h; cases h)
      have HPS : Hid (twiceB (tri T i) (tri T j) = false ∧ mirrB (tri T i) (tri T j) = false → ∀ b, b < j + 1 → twiceB (tri T i) (tri T b) = false ∧ mirrB (tri T i) (tri T b) = false) := Lib.hid (fun h b hb => by
       by_cases e : b = j
       · subst e; exact h
       · exact HPj.out b (by omega))
      have HTQ : Hid (∀ W, Below wC.heap.size wC W → TriQ W (ad.add (i * 3)) (tri T i) ∧ TriQ W (ad.add (j * 3)) (tri T j)) := Lib.hid (fun W hb => ⟨tqi.below hb, tqj.below hb⟩)
      have HWB : Hid (∀ W, Below wC.heap.size wC W → Below w.heap.size w W) := Lib.hid (fun W hb => bw_call HBk.out hb)
      have HC0 : Hid (Below wC.heap.size wC wC) := Lib.hid (Below.refl _ _)
      clear tqi tqj
      obtain ⟨t, ht⟩ : ∃ t, tri T i = t := ⟨_, rfl⟩
      obtain ⟨tj, hu⟩ : ∃ tj, tri T j = tj := ⟨_, rfl⟩
      rw [ht, hu] at HTW HTQ
      rw [ht] at HPS
      have HPS2 : Hid (twiceB t tj = false ∧ mirrB t tj = false → ∀ b, b < j + 1 → twiceB (tri T i) (tri T b) = false ∧ mirrB (tri T i) (tri T b) = false) := Lib.hid (by rw [ht]; rw [← hu]; exact HPS.out)
      clear ht hu HPS HBk
      go_wp2_with fail
      go_loopw [8, 9] (fun sv iv wr => ∃ x : Nat, x ≤ 3 ∧ sv = .int .i64 (cntB t tj x : Int) ∧ iv = .int .i64 x ∧ Hid (∀ x' y, x' < x → y < 3 → ¬ EdgeEq t tj x' y) ∧ Hid (Blk wr ga 24 #[.int .i64 (m : Int), .slice (some ad) T.length c]) ∧ Hid (Below wC.heap.size wC wr)) (fun _ iv _ => 3 - (intOf iv).toNat)
      case atStart => exact ⟨0, by omega, rfl, rfl, Lib.hid (fun x' y h => absurd h (by omega)), GAk, HC0⟩
      case round =>
       obtain ⟨x, hx, rfl, rfl, HEx, GAwX, HCwX⟩ := hrel
       obtain ⟨wX, hwX⟩ : ∃ wX : World, wX = wr := ⟨_, rfl⟩
       rw [← hwX] at GAwX HCwX ⊢
       clear hwX GAk HC0
       have HBwX := Lib.hid (HWB.out wX HCwX.out)
       have hcn := cnt_le t tj x
       by_cases hx3 : x < 3
       rotate_left
       · obtain rfl : x = 3 := by omega
         have HTF : Hid (twiceB t tj = false) := Lib.hid (by
          cases e : twiceB t tj with
          | false => rfl
          | true =>
           obtain ⟨x', y, h1, h2, h3⟩ := twice_edges15.1 e
           exact absurd h3 (HEx.out x' y h1 h2))
         have HMC := Lib.hid (@mirr_cnt t tj)
         generalize cntB t tj 3 = q at *
         by_cases hq : q = 3
         · subst hq
           have HF : Hid (r = false) := Lib.hid (HTW.out (.inr (HMC.out.1 rfl)))
           go_wp2_with fail
           go_ret
           exact ⟨by rw [HF.out]; rfl, HBwX.out⟩
         · have hqi : ¬ (q : Int) = 3 := by omega
           have hqb : ((q : Int) == 3) = false := by simpa using hqi
           have HPN := Lib.hid (HPS2.out ⟨HTF.out, by
            cases e : mirrB t tj with
            | false => rfl
            | true => exact absurd (HMC.out.2 e) hq⟩)
           go_wp2_with fail
           exact ⟨⟨j + 1, by omega, by go_num, HPN, GAwX, HBwX⟩, by simp [intOf]; omega⟩
       have hxi : (x : Int) < 3 := by omega
       obtain ⟨tqi, tqj⟩ := HTQ.out wX HCwX.out
       have TBwX := Lib.hid tqj
       have CXwX := Lib.hid (tqi.corner hx3)
       have HH := Lib.hid (r15Has_any tj (cornerT t x))
       have HCS : Hid (cntB t tj (x + 1) = cntB t tj x + if hasB tj (cornerT t x) then 1 else 0) := Lib.hid rfl
       clear tqi tqj
       obtain ⟨px, HPX⟩ : ∃ px, Hid (cornerT t x = px) := ⟨_, Lib.hid rfl⟩
       rw [HPX.out] at CXwX HH HCS
       go_upto_region 22 with (fail)
       go_cut [95] from 83 to 95 (fun bv wx => bv = .bool (hasB tj px) ∧ Hid (Blk wx ga 24 #[.int .i64 (m : Int), .slice (some ad) T.length c]) ∧ Hid (Below w.heap.size w wx) ∧ Hid (Below wC.heap.size wC wx))
       case first =>
        refine wp_region_held_drew (S := fun w' => w'.cell? ⟨ga, 0, none⟩ = some (.int .i64 (m : Int)) ∧ w'.cell? ⟨ga, 1, none⟩ = some (.slice (some ad) T.length c) ∧ w'.cell? (ad.add (j * 3)) = some (.int .i64 tj.a) ∧ w'.cell? ((ad.add (j * 3)).add 1) = some (.int .i64 tj.b) ∧ w'.cell? ((ad.add (j * 3)).add 2) = some (.int .i64 tj.c) ∧ w'.cell? ⟨(ad.add (j * 3)).block, (ad.add (j * 3)).off + 1, none⟩ = some (.int .i64 tj.b) ∧ w'.cell? ⟨(ad.add (j * 3)).block, (ad.add (j * 3)).off + 2, none⟩ = some (.int .i64 tj.c) ∧ w'.cell? ((ad.add (i * 3)).add x) = some (.int .i64 px)) (by kernel_rfl) ⟨(soup_facts GAwX.out.drew).1, (soup_facts GAwX.out.drew).2.1, TBwX.out.drew.c.c0, TBwX.out.drew.c.c1, TBwX.out.drew.c.c2, TBwX.out.drew.c.f1, TBwX.out.drew.c.f2, CXwX.out.drew.c⟩ (fun hHeld => ?_)
        refine hKk 0 ?_; (try simp only [zQ])
        refine hKk 1 ?_; (try simp only [zQ])
        refine hKk 2 ?_; (try simp only [zQ])
        refine hKk 3 ?_; (try simp only [zQ])
        refine hKk 4 ?_; (try simp only [zQ])
        refine hKk 5 ?_; (try simp only [zQ])
        refine hKk 6 ?_; (try simp only [zQ])
        refine hKk 7 ?_; (try simp only [zQ])
        refine hKk 8 ?_; (try simp only [zQ])
        refine hKk 9 ?_; (try simp only [zQ])
        refine hKk 10 ?_; (try simp only [zQ])
        refine hKk 11 ?_; (try simp only [zQ])
        refine wpAnyH_ready (rs := [12]) (by kernel_rfl) (by simp) ?_
        refine held_cons rfl (fun K hK => ?_) ?_
        · go_simp
          go_wp2_with (go_at_call 38; refine (HH.out wX.drew).mono ?_; rintro e v3 ⟨rfl, hb⟩)
          have GAv3 := Lib.hid (blk_call GAwX.out.drew hb)
          have TBv3 := Lib.hid (TBwX.out.drew.below hb)
          have CXv3 := Lib.hid (CXwX.out.drew.below hb)
          have HCv3 := Lib.hid (bw_call (bw_drew HCwX.out) hb)
          have HBv3 := Lib.hid (bw_call (bw_drew HBwX.out) hb)
          clear hb
          refine hK.out _ _ ?_ (fun hHeld => ?_)
          · exact ⟨(soup_facts GAv3.out).1, (soup_facts GAv3.out).2.1, TBv3.out.c.c0, TBv3.out.c.c1, TBv3.out.c.c2, TBv3.out.c.f1, TBv3.out.c.f2, CXv3.out.c⟩
          clear hK K
          (try simp only [zQ])
          refine wpAnyH_done (by kernel_rfl) ?_ _
          go_wp2_with fail
          go_meet
          exact ⟨rfl, GAv3, HBv3, HCv3⟩
        exact AllReadyH.nil
       case rest =>
        obtain ⟨rfl, GAn, HBn, HCn⟩ := hcut
        obtain ⟨w7, hw7⟩ : ∃ w7 : World, w7 = wc := ⟨_, rfl⟩
        rw [← hw7] at GAn HBn HCn ⊢
        clear hw7 GAwX HBwX HCwX TBwX CXwX HH
        go_upto_if 95 with (fail)
        go_cut [8] (fun sv wx => sv = .int .i64 (cntB t tj (x + 1) : Int) ∧ wx = w7)
        case first =>
         cases hh : hasB tj px with
         | true =>
          rw [hh] at HCS
          have HC1 : Hid (cntB t tj (x + 1) = cntB t tj x + 1) := Lib.hid HCS.out
          clear HCS hh
          go_wp2_with fail
          go_meet
          exact ⟨by rw [HC1.out]; go_num, rfl⟩
         | false =>
          rw [hh] at HCS
          have HC1 : Hid (cntB t tj (x + 1) = cntB t tj x) := Lib.hid HCS.out
          clear HCS hh
          go_wp2_with fail
          go_meet
          exact ⟨by rw [HC1.out], rfl⟩
        case rest =>
         obtain ⟨rfl, hw⟩ := hcut
         replace hw := hw.symm
         subst hw
         clear HCS
         go_wp2_with fail
         go_loopw [10] (fun iv wr => ∃ y : Nat, y ≤ 3 ∧ iv = .int .i64 y ∧ Hid (∀ y', y' < y → ¬ EdgeEq t tj x y') ∧ Hid (Blk wr ga 24 #[.int .i64 (m : Int), .slice (some ad) T.length c]) ∧ Hid (Below wC.heap.size wC wr)) (fun iv _ => 3 - (intOf iv).toNat)
         case atStart => exact ⟨0, by omega, rfl, Lib.hid (fun y h => absurd h (by omega)), GAn, HCn⟩
         case round =>
          obtain ⟨y, hy, rfl, HEy, GAwY, HCwY⟩ := hrel
          obtain ⟨wY, hwY⟩ : ∃ wY : World, wY = wr := ⟨_, rfl⟩
          rw [← hwY] at GAwY HCwY ⊢
          clear hwY GAn HBn HCn
          have HBwY := Lib.hid (HWB.out wY HCwY.out)
          by_cases hy3 : y < 3
          rotate_left
          · obtain rfl : y = 3 := by omega
            have HEN : Hid (∀ x' y', x' < x + 1 → y' < 3 → ¬ EdgeEq t tj x' y') := Lib.hid (fun x' y' h1 h2 => by
             by_cases e : x' = x
             · subst e; exact HEy.out y' h2
             · exact HEx.out x' y' (by omega) h2)
            go_wp2_with fail
            exact ⟨⟨x + 1, by omega, rfl, by go_num, HEN, GAwY, HCwY⟩, by simp [intOf]; omega⟩
          have hyi : (y : Int) < 3 := by omega
          obtain ⟨tqi, tqj⟩ := HTQ.out wY HCwY.out
          obtain ⟨x2, hx2⟩ : ∃ x2, (x + 1) % 3 = x2 := ⟨_, rfl⟩
          obtain ⟨y2, hy2⟩ : ∃ y2, (y + 1) % 3 = y2 := ⟨_, rfl⟩
          have hx23 : x2 < 3 := by omega
          have hy23 : y2 < 3 := by omega
          have hx2i : (x2 : Int) < 3 := by omega
          have hy2i : (y2 : Int) < 3 := by omega
          have ex : Int.tmod ((x : Int) + 1) 3 = (x2 : Int) := by rw [← hx2]; exact Int.ofNat_tmod (x + 1) 3
          have ey : Int.tmod ((y : Int) + 1) 3 = (y2 : Int) := by rw [← hy2]; exact Int.ofNat_tmod (y + 1) 3
          have hwx : IntKind.i64.wrap ((x : Int) + 1) = (x : Int) + 1 := IntWalk.i64_in _ (by omega)
          have hwy : IntKind.i64.wrap ((y : Int) + 1) = (y : Int) + 1 := IntWalk.i64_in _ (by omega)
          have hwx2 : IntKind.i64.wrap (x2 : Int) = (x2 : Int) := IntWalk.i64_in _ (by omega)
          have hwy2 : IntKind.i64.wrap (y2 : Int) = (y2 : Int) := IntWalk.i64_in _ (by omega)
          have C1wY := Lib.hid (tqi.corner hx3)
          have C2wY := Lib.hid (tqj.corner hy3)
          have C3wY := Lib.hid (tqi.corner hx23)
          have C4wY := Lib.hid (tqj.corner hy23)
          clear tqi tqj
          obtain ⟨p1, hp1⟩ : ∃ p1, cornerT t x = p1 := ⟨_, rfl⟩
          obtain ⟨q1, hq1⟩ : ∃ q1, cornerT tj y = q1 := ⟨_, rfl⟩
          obtain ⟨p2, hp2⟩ : ∃ p2, cornerT t x2 = p2 := ⟨_, rfl⟩
          obtain ⟨q2, hq2⟩ : ∃ q2, cornerT tj y2 = q2 := ⟨_, rfl⟩
          rw [hp1] at C1wY
          rw [hq1] at C2wY
          rw [hp2] at C3wY
          rw [hq2] at C4wY
          have HED : Hid (EdgeEq t tj x y ↔ p1 = q1 ∧ p2 = q2) := Lib.hid (by unfold EdgeEq; rw [hx2, hy2, hp1, hq1, hp2, hq2])
          have HEN : Hid (¬ (p1 = q1 ∧ p2 = q2) → ∀ y', y' < y + 1 → ¬ EdgeEq t tj x y') := Lib.hid (fun h y' h1 => by
           by_cases e : y' = y
           · subst e; exact fun h2 => h (HED.out.1 h2)
           · exact HEy.out y' (by omega))
          clear hx2 hy2 hp1 hq1 hp2 hq2
          go_upto_region 27 with (fail)
          by_cases h1 : p1 = q1
          rotate_left
          · have hb1 : (p1 == q1) = false := by simpa using h1
            have HEM := Lib.hid (HEN.out (fun h => h1 h.1))
            clear h1
            refine wp_region_held_drew (S := fun w' => w'.cell? ⟨ga, 0, none⟩ = some (.int .i64 (m : Int)) ∧ w'.cell? ⟨ga, 1, none⟩ = some (.slice (some ad) T.length c) ∧ w'.cell? ((ad.add (i * 3)).add x) = some (.int .i64 p1) ∧ w'.cell? ((ad.add (j * 3)).add y) = some (.int .i64 q1) ∧ w'.cell? ((ad.add (i * 3)).add x2) = some (.int .i64 p2) ∧ w'.cell? ((ad.add (j * 3)).add y2) = some (.int .i64 q2)) (by kernel_rfl) ⟨(soup_facts GAwY.out.drew).1, (soup_facts GAwY.out.drew).2.1, C1wY.out.drew.c, C2wY.out.drew.c, C3wY.out.drew.c, C4wY.out.drew.c⟩ (fun hHeld => ?_)
            refine hKk 0 ?_; (try simp only [zQ])
            refine hKk 1 ?_; (try simp only [zQ])
            refine hKk 2 ?_; (try simp only [zQ])
            refine hKk 3 ?_; (try simp only [zQ])
            refine hKk 4 ?_; (try simp only [zQ])
            refine hKk 5 ?_; (try simp only [zQ])
            refine hKk 6 ?_; (try simp only [zQ])
            refine hKk 7 ?_; (try simp only [zQ])
            refine hKk 8 ?_; (try simp only [zQ])
            refine hKk 9 ?_; (try simp only [zQ])
            refine hKk 10 ?_; (try simp only [zQ])
            refine hKk 11 ?_; (try simp only [zQ])
            refine hKk 12 ?_; (try simp only [zQ])
            refine hKk 13 ?_; (try simp only [zQ])
            refine hKk 14 ?_; (try simp only [zQ])
            refine hKk 15 ?_; (try simp only [zQ])
            refine hRk 16 ?_; (try simp only [zQ])
            refine hRk 17 ?_; (try simp only [zQ])
            refine hRk 18 ?_; (try simp only [zQ])
            refine hRk 19 ?_; (try simp only [zQ])
            refine hRk 20 ?_; (try simp only [zQ])
            refine hRk 21 ?_; (try simp only [zQ])
            refine hRk 22 ?_; (try simp only [zQ])
            refine hRk 23 ?_; (try simp only [zQ])
            refine hRk 24 ?_; (try simp only [zQ])
            refine hRk 25 ?_; (try simp only [zQ])
            refine hRk 26 ?_; (try simp only [zQ])
            refine hRk 27 ?_; (try simp only [zQ])
            refine hRk 28 ?_; (try simp only [zQ])
            refine hRk 29 ?_; (try simp only [zQ])
            refine hRk 30 ?_; (try simp only [zQ])
            refine hRk 31 ?_; (try simp only [zQ])
            refine hRk 32 ?_; (try simp only [zQ])
            refine hRk 33 ?_; (try simp only [zQ])
            refine hRk 34 ?_; (try simp only [zQ])
            refine hKk 35 ?_; (try simp only [zQ])
            refine wpAnyH_done (by kernel_rfl) ?_ _
            obtain ⟨wn, hwn⟩ : ∃ wn, wn = wY.drew := ⟨_, rfl⟩
            have GAn := Lib.hid (GAwY.out.drew)
            have C1n := Lib.hid (C1wY.out.drew)
            have C2n := Lib.hid (C2wY.out.drew)
            have C3n := Lib.hid (C3wY.out.drew)
            have C4n := Lib.hid (C4wY.out.drew)
            have HBn := Lib.hid (bw_drew HBwY.out)
            have HCn := Lib.hid (bw_drew HCwY.out)
            rw [← hwn] at GAn C1n C2n C3n C4n HBn HCn ⊢
            clear hwn HBwY GAwY C1wY C2wY C3wY C4wY
            go_wp2_with fail
            exact ⟨⟨y + 1, by omega, by go_num, HEM, GAn, HCn⟩, by simp [intOf]; omega⟩
          have hb1 : (p1 == q1) = true := by simp [h1]
          by_cases h2 : p2 = q2
          rotate_left
          · have hb2 : (p2 == q2) = false := by simpa using h2
            have HEM := Lib.hid (HEN.out (fun h => h2 h.2))
            clear h1 h2
            refine wp_region_held_drew (S := fun w' => w'.cell? ⟨ga, 0, none⟩ = some (.int .i64 (m : Int)) ∧ w'.cell? ⟨ga, 1, none⟩ = some (.slice (some ad) T.length c) ∧ w'.cell? ((ad.add (i * 3)).add x) = some (.int .i64 p1) ∧ w'.cell? ((ad.add (j * 3)).add y) = some (.int .i64 q1) ∧ w'.cell? ((ad.add (i * 3)).add x2) = some (.int .i64 p2) ∧ w'.cell? ((ad.add (j * 3)).add y2) = some (.int .i64 q2)) (by kernel_rfl) ⟨(soup_facts GAwY.out.drew).1, (soup_facts GAwY.out.drew).2.1, C1wY.out.drew.c, C2wY.out.drew.c, C3wY.out.drew.c, C4wY.out.drew.c⟩ (fun hHeld => ?_)
            refine hKk 0 ?_; (try simp only [zQ])
            refine hKk 1 ?_; (try simp only [zQ])
            refine hKk 2 ?_; (try simp only [zQ])
            refine hKk 3 ?_; (try simp only [zQ])
            refine hKk 4 ?_; (try simp only [zQ])
            refine hKk 5 ?_; (try simp only [zQ])
            refine hKk 6 ?_; (try simp only [zQ])
            refine hKk 7 ?_; (try simp only [zQ])
            refine hKk 8 ?_; (try simp only [zQ])
            refine hKk 9 ?_; (try simp only [zQ])
            refine hKk 10 ?_; (try simp only [zQ])
            refine hKk 11 ?_; (try simp only [zQ])
            refine hKk 12 ?_; (try simp only [zQ])
            refine hKk 13 ?_; (try simp only [zQ])
            refine hKk 14 ?_; (try simp only [zQ])
            refine hKk 15 ?_; (try simp only [zQ])
            refine hKk 16 ?_; (try simp only [zQ])
            refine hKk 17 ?_; (try simp only [zQ])
            refine hKk 18 ?_; (try simp only [zQ])
            refine hKk 19 ?_; (try simp only [zQ])
            refine hKk 20 ?_; (try simp only [zQ])
            refine hKk 21 ?_; (try simp only [zQ])
            refine hKk 22 ?_; (try simp only [zQ])
            refine hKk 23 ?_; (try simp only [zQ])
            refine hKk 24 ?_; (try simp only [zQ])
            refine hKk 25 ?_; (try simp only [zQ])
            refine hKk 26 ?_; (try simp only [zQ])
            refine hKk 27 ?_; (try simp only [zQ])
            refine hKk 28 ?_; (try simp only [zQ])
            refine hKk 29 ?_; (try simp only [zQ])
            refine hKk 30 ?_; (try simp only [zQ])
            refine hKk 31 ?_; (try simp only [zQ])
            refine hKk 32 ?_; (try simp only [zQ])
            refine hKk 33 ?_; (try simp only [zQ])
            refine hKk 34 ?_; (try simp only [zQ])
            refine hKk 35 ?_; (try simp only [zQ])
            refine wpAnyH_done (by kernel_rfl) ?_ _
            obtain ⟨wn, hwn⟩ : ∃ wn, wn = wY.drew := ⟨_, rfl⟩
            have GAn := Lib.hid (GAwY.out.drew)
            have C1n := Lib.hid (C1wY.out.drew)
            have C2n := Lib.hid (C2wY.out.drew)
            have C3n := Lib.hid (C3wY.out.drew)
            have C4n := Lib.hid (C4wY.out.drew)
            have HBn := Lib.hid (bw_drew HBwY.out)
            have HCn := Lib.hid (bw_drew HCwY.out)
            rw [← hwn] at GAn C1n C2n C3n C4n HBn HCn ⊢
            clear hwn HBwY GAwY C1wY C2wY C3wY C4wY
            go_wp2_with fail
            exact ⟨⟨y + 1, by omega, by go_num, HEM, GAn, HCn⟩, by simp [intOf]; omega⟩
          have hb2 : (p2 == q2) = true := by simp [h2]
          have HF : Hid (r = false) := Lib.hid (HTW.out (.inl (twice_edges15.2 ⟨x, y, hx3, hy3, HED.out.2 ⟨h1, h2⟩⟩)))
          clear h1 h2
          refine wp_region_held_drew (S := fun w' => w'.cell? ⟨ga, 0, none⟩ = some (.int .i64 (m : Int)) ∧ w'.cell? ⟨ga, 1, none⟩ = some (.slice (some ad) T.length c) ∧ w'.cell? ((ad.add (i * 3)).add x) = some (.int .i64 p1) ∧ w'.cell? ((ad.add (j * 3)).add y) = some (.int .i64 q1) ∧ w'.cell? ((ad.add (i * 3)).add x2) = some (.int .i64 p2) ∧ w'.cell? ((ad.add (j * 3)).add y2) = some (.int .i64 q2)) (by kernel_rfl) ⟨(soup_facts GAwY.out.drew).1, (soup_facts GAwY.out.drew).2.1, C1wY.out.drew.c, C2wY.out.drew.c, C3wY.out.drew.c, C4wY.out.drew.c⟩ (fun hHeld => ?_)
          refine hKk 0 ?_; (try simp only [zQ])
          refine hKk 1 ?_; (try simp only [zQ])
          refine hKk 2 ?_; (try simp only [zQ])
          refine hKk 3 ?_; (try simp only [zQ])
          refine hKk 4 ?_; (try simp only [zQ])
          refine hKk 5 ?_; (try simp only [zQ])
          refine hKk 6 ?_; (try simp only [zQ])
          refine hKk 7 ?_; (try simp only [zQ])
          refine hKk 8 ?_; (try simp only [zQ])
          refine hKk 9 ?_; (try simp only [zQ])
          refine hKk 10 ?_; (try simp only [zQ])
          refine hKk 11 ?_; (try simp only [zQ])
          refine hKk 12 ?_; (try simp only [zQ])
          refine hKk 13 ?_; (try simp only [zQ])
          refine hKk 14 ?_; (try simp only [zQ])
          refine hKk 15 ?_; (try simp only [zQ])
          refine hKk 16 ?_; (try simp only [zQ])
          refine hKk 17 ?_; (try simp only [zQ])
          refine hKk 18 ?_; (try simp only [zQ])
          refine hKk 19 ?_; (try simp only [zQ])
          refine hKk 20 ?_; (try simp only [zQ])
          refine hKk 21 ?_; (try simp only [zQ])
          refine hKk 22 ?_; (try simp only [zQ])
          refine hKk 23 ?_; (try simp only [zQ])
          refine hKk 24 ?_; (try simp only [zQ])
          refine hKk 25 ?_; (try simp only [zQ])
          refine hKk 26 ?_; (try simp only [zQ])
          refine hKk 27 ?_; (try simp only [zQ])
          refine hKk 28 ?_; (try simp only [zQ])
          refine hKk 29 ?_; (try simp only [zQ])
          refine hKk 30 ?_; (try simp only [zQ])
          refine hKk 31 ?_; (try simp only [zQ])
          refine hKk 32 ?_; (try simp only [zQ])
          refine hKk 33 ?_; (try simp only [zQ])
          refine hKk 34 ?_; (try simp only [zQ])
          refine hKk 35 ?_; (try simp only [zQ])
          refine wpAnyH_done (by kernel_rfl) ?_ _
          obtain ⟨wn, hwn⟩ : ∃ wn, wn = wY.drew := ⟨_, rfl⟩
          have GAn := Lib.hid (GAwY.out.drew)
          have C1n := Lib.hid (C1wY.out.drew)
          have C2n := Lib.hid (C2wY.out.drew)
          have C3n := Lib.hid (C3wY.out.drew)
          have C4n := Lib.hid (C4wY.out.drew)
          have HBn := Lib.hid (bw_drew HBwY.out)
          have HCn := Lib.hid (bw_drew HCwY.out)
          rw [← hwn] at GAn C1n C2n C3n C4n HBn HCn ⊢
          clear hwn HBwY GAwY C1wY C2wY C3wY C4wY
          go_wp2_with fail
          go_ret
          exact ⟨by rw [HF.out]; rfl, HBn.out⟩
end Go.Proofs.YtiajlmajenabiaaGreat
