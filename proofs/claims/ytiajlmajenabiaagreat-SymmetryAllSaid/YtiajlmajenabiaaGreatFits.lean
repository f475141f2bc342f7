/- gypsumref47.is and fits, walked. No condition but sizes. -/
import Derived.Test.YtiajlmajenabiaaGreatWith47
import Derived.Test.YtiajlmajenabiaaGreatWz47
set_option maxRecDepth 100000
set_option maxHeartbeats 16000000
set_option linter.all false
namespace Go.Proofs.YtiajlmajenabiaaGreat
open Go.RowKit
attribute [local irreducible] Blk World.alloc World.setCell World.cell? World.frozen? MapV MapI
theorem ris_any (N : Int) (A : Option Addr) (c : Nat) (U : List Tri) (a b d : Int) (w : World) (hT : U.length ≤ 1000) (ht : TrisAt w w.heap.size A U.length U) :
  Calls Tryz.prog 103 #[.agg #[.int .i64 N, .slice A U.length c], .int .i64 a, .int .i64 b, .int .i64 d] w (BoolPost w (isT U a b d)) := by
 have HT := Lib.hid ht
 clear ht
 obtain ⟨r, HR⟩ : ∃ r, Hid (isT U a b d = r) := ⟨_, Lib.hid rfl⟩
 rw [HR.out]
 go_enter Tryz.func103, Tryz.ntmps103
 go_upto_region 1 with (fail)
 obtain ⟨wA, hwA⟩ : ∃ X, X = w.alloc (.cells #[.int .i64 N, .slice A U.length c] 24) := ⟨_, rfl⟩
 have K1A : Hid (Blk wA w.heap.size 24 #[.int .i64 N, .slice A U.length c]) := by subst hwA; exact Lib.hid (Blk.new _ _ _)
 have HBA : Hid (Below w.heap.size w wA) := by subst hwA; exact Lib.hid (bw_alloc (Below.refl _ _) _)
 rw [← hwA]
 obtain ⟨b1, hb1⟩ : ∃ b, b = w.heap.size := ⟨_, rfl⟩
 rw [← hb1] at K1A
 simp only [← hb1]
 clear hwA hb1
 have HW1 : Hid (Calls Tryz.prog 30 #[.agg #[.int .i64 N, .slice A U.length c], .int .i64 a, .int .i64 b] wA (IntPost wA (optI (withF U a b)))) := Lib.hid (with47_any N A c U a b wA hT (tris_on HBA.out HT.out))
 have HW2 : Hid (∀ W, Below wA.heap.size wA W → Calls Tryz.prog 30 #[.agg #[.int .i64 N, .slice A U.length c], .int .i64 b, .int .i64 d] W (IntPost W (optI (withF U b d)))) := Lib.hid fun W hW => with47_any N A c U b d W hT (tris_on (bw_call HBA.out hW) HT.out)
 have p0 : wA.cell? ⟨b1, 0, none⟩ = some (.int .i64 N) := K1A.out.cell 0
 have p1 : wA.cell? ⟨b1, 1, none⟩ = some (.slice A U.length c) := K1A.out.cell 1
 cases h1 : withF U a b with
 | none =>
  rw [h1, show optI none = -1 from rfl] at HW1
  obtain rfl : false = r := by rw [← HR.out]; unfold isT; rw [h1]
  clear h1
  go_wp2_with fail
  refine HW1.out.mono ?_
  rintro e w1 ⟨rfl, hb⟩
  have HB1 := Lib.hid (bw_call HBA.out hb)
  clear hb
  go_wp2_with fail
  go_ret
  exact ⟨rfl, HB1.out⟩
 | some i =>
  rw [h1, show optI (some i) = (i : Int) from rfl] at HW1
  obtain ⟨x, hx⟩ : ∃ x, x = optI (withF U b d) := ⟨_, rfl⟩
  have hxr : (x == (i : Int)) = r := by
   rw [← HR.out, hx]
   unfold isT
   rw [h1]
   dsimp only
   cases h2 : withF U b d with
   | none => rw [decide_eq_false (by intro h; cases h)]; rw [beq_eq_false_iff_ne]; show (-1 : Int) ≠ (i : Int); omega
   | some j => rw [show optI (some j) = (j : Int) from rfl, Bool.eq_iff_iff, beq_iff_eq, decide_eq_true_iff, Option.some.injEq]; omega
  rw [← hx] at HW2
  clear h1 hx
  go_wp2_with fail
  refine HW1.out.mono ?_
  rintro e w1 ⟨rfl, hb⟩
  have HB1 := Lib.hid hb
  have K11 := Lib.hid (K1A.out.below hb K1A.out.lt)
  have p0 : w1.cell? ⟨b1, 0, none⟩ = some (.int .i64 N) := K11.out.cell 0
  have p1 : w1.cell? ⟨b1, 1, none⟩ = some (.slice A U.length c) := K11.out.cell 1
  clear hb
  have hi0 : ¬ (i : Int) < 0 := by omega
  have hi1 : (0 : Int) ≤ (i : Int) := by omega
  go_wp2_with fail
  refine (HW2.out _ HB1.out).mono ?_
  rintro e w2 ⟨rfl, hb⟩
  have HB2 := Lib.hid (bw_call HBA.out (bw_call HB1.out hb))
  clear hb
  go_wp2_with fail
  go_ret
  exact ⟨rfl, HB2.out⟩
def mK (g0 g1 g2 : Int) : Nat → Array Value
 | 0 => #[.int .i64 0, .int .i64 0, .int .i64 0]
 | 1 => #[.int .i64 g0, .int .i64 0, .int .i64 0]
 | 2 => #[.int .i64 g0, .int .i64 g1, .int .i64 0]
 | _ => #[.int .i64 g0, .int .i64 g1, .int .i64 g2]
theorem to_at47 {w W : World} {At : Option Addr} {k : Nat} {l : List Int} {t g v x : Int} (hl : Reads w w.heap.size 1 At k (ZL l)) (hk : k = l.length) (hW : Below w.heap.size w W) (h0 : 0 ≤ t) (h1 : t < (k : Int)) (hg : g = goX l k v t) :
  ∃ (ad : Addr) (xn : Nat), At = some ad ∧ ad.block < w.heap.size ∧ t = (xn : Int) ∧ xn < k ∧ (x = g → W.cell? (ad.add xn) = some (.int .i64 x)) := by
 obtain ⟨ad, y, e, hb, hy, hc⟩ := zl_read (hl.below hW) (show t.toNat < k by omega)
 refine ⟨ad, t.toNat, e, hb, by omega, by omega, fun hx => ?_⟩
 rw [hx, hg, hc]
 unfold goX
 rw [if_pos h1, List.getD_eq_getElem?_getD, hy]
 rfl
theorem optI_has (T : List Tri) (a b : Int) : (0 ≤ optI (withF T a b)) ↔ hasW T a b = true := by
 unfold hasW
 cases withF T a b with
 | none => simp [optI]
 | some i => simp [optI]
theorem fits47_any (N M : Int) (A Ax At : Option Addr) (c cx ct : Nat) (T U : List Tri) (l : List Int) (v : Int) (w : World) (hT : T.length ≤ 1000) (hU : U.length ≤ 1000) (hl : l.length ≤ 1000) (hok : ∀ t ∈ T, 0 ≤ t.a ∧ 0 ≤ t.b ∧ 0 ≤ t.c)
  (ht : TrisAt w w.heap.size A T.length T) (hu : TrisAt w w.heap.size Ax U.length U) (hto : Reads w w.heap.size 1 At l.length (ZL l)) :
  Calls Tryz.prog 76 #[.agg #[.int .i64 N, .slice A T.length c], .agg #[.int .i64 M, .slice Ax U.length cx], .slice At l.length ct, .int .i64 (l.length : Int), .int .i64 v] w (BoolPost w (fitsR T U l v)) := by
 have HT := Lib.hid ht
 have HU := Lib.hid hu
 have HL := Lib.hid hto
 have HOK := Lib.hid hok
 clear ht hu hto hok
 obtain ⟨r, HR⟩ : ∃ r, Hid (fitsR T U l v = r) := ⟨_, Lib.hid rfl⟩
 rw [HR.out]
 obtain ⟨k, hk⟩ : ∃ k, k = l.length := ⟨_, rfl⟩
 rw [← hk] at hl HL ⊢
 have HK := Lib.hid hk
 obtain ⟨n, hn⟩ : ∃ k, k = T.length := ⟨_, rfl⟩
 rw [← hn] at hT HT ⊢
 have HN := Lib.hid hn
 obtain ⟨nx, hnx⟩ : ∃ k, k = U.length := ⟨_, rfl⟩
 rw [← hnx] at hU HU ⊢
 have HX := Lib.hid hnx
 clear hk hn hnx
 go_enter Tryz.func76, Tryz.ntmps76
 go_upto_region 1 with (fail)
 obtain ⟨wA, hwA⟩ : ∃ X, X = (w.alloc (.cells #[.int .i64 N, .slice A n c] 24)).alloc (.cells #[.int .i64 M, .slice Ax nx cx] 24) := ⟨_, rfl⟩
 have K1A : Hid (Blk wA w.heap.size 24 #[.int .i64 N, .slice A n c]) := by subst hwA; exact Lib.hid ((Blk.new _ _ _).alloc _)
 have K2A : Hid (Blk wA (w.heap.size + 1) 24 #[.int .i64 M, .slice Ax nx cx]) := by subst hwA; exact Lib.hid (Blk.new_ (by rw [World.size_alloc]) _ _)
 have HBA : Hid (Below w.heap.size w wA) := by subst hwA; exact Lib.hid (bw_alloc (bw_alloc (Below.refl _ _) _) _)
 rw [← hwA]
 obtain ⟨b2, hb2⟩ : ∃ b, b = w.heap.size + 1 := ⟨_, rfl⟩
 obtain ⟨b1, hb1⟩ : ∃ b, b = w.heap.size := ⟨_, rfl⟩
 have HG1 : Hid (w.heap.size ≤ b1) := Lib.hid (by omega)
 have HG2 : Hid (w.heap.size ≤ b2) := Lib.hid (by omega)
 rw [← hb2] at K2A
 rw [← hb1] at K1A
 simp only [← hb2]
 simp only [← hb1]
 clear hwA hb1 hb2
 have HWT : Hid (∀ (a b : Int) (W : World), Below w.heap.size w W → Calls Tryz.prog 30 #[.agg #[.int .i64 N, .slice A n c], .int .i64 a, .int .i64 b] W (IntPost W (optI (withF T a b)))) := Lib.hid fun a b W hW => by
  rw [HN.out]
  exact with47_any N A c T a b W (by rw [← HN.out]; exact hT) (by rw [← HN.out]; exact tris_on hW HT.out)
 have HWU : Hid (∀ (a b : Int) (W : World), Below w.heap.size w W → Calls Tryz.prog 30 #[.agg #[.int .i64 M, .slice Ax nx cx], .int .i64 a, .int .i64 b] W (IntPost W (optI (withF U a b)))) := Lib.hid fun a b W hW => by
  rw [HX.out]
  exact with47_any M Ax cx U a b W (by rw [← HX.out]; exact hU) (by rw [← HX.out]; exact tris_on hW HU.out)
 have HIS : Hid (∀ (a b d : Int) (W : World), Below w.heap.size w W → Calls Tryz.prog 103 #[.agg #[.int .i64 M, .slice Ax nx cx], .int .i64 a, .int .i64 b, .int .i64 d] W (BoolPost W (isT U a b d))) := Lib.hid fun a b d W hW => by
  rw [HX.out]
  exact ris_any M Ax cx U a b d W (by rw [← HX.out]; exact hU) (by rw [← HX.out]; exact tris_on hW HU.out)
 go_wp2_with fail
 go_loopw [11] (fun iv wr => ∃ i : Nat, i ≤ k ∧ iv = .int .i64 (i : Int) ∧ Hid (∀ j, j < i → pairFit T U l k v j = true) ∧ Hid (Blk wr b1 24 #[.int .i64 N, .slice A n c]) ∧ Hid (Blk wr b2 24 #[.int .i64 M, .slice Ax nx cx]) ∧ Hid (Below w.heap.size w wr)) (fun iv _ => k - (intOf iv).toNat)
 case atStart => exact ⟨0, by omega, rfl, Lib.hid (fun j hj => by omega), K1A, K2A, HBA⟩
 case round =>
  obtain ⟨i, hik, rfl, HP, KSw, KXw, HBw⟩ := hrel
  obtain ⟨wE, hwE⟩ : ∃ wE : World, wE = wr := ⟨_, rfl⟩
  rw [← hwE] at KSw KXw HBw ⊢
  clear hwE K1A K2A HBA
  by_cases hii : i < k
  · have hiI : (i : Int) < (k : Int) := by omega
    obtain ⟨ad, x, hAd, hadb, hx, d1⟩ := zl_read (HL.out.below HBw.out) hii
    subst hAd
    have CTwE : Hid (CellQ wE (ad.add i) (.int .i64 x)) := Lib.hid ⟨d1, by rw [block_of_add]; have := HBw.out.size; omega⟩
    have hgx : l.getD i 0 = x := by rw [List.getD_eq_getElem?_getD, hx]; rfl
    have HPF : Hid (pairFit T U l k v i = (!(decide (x = v)) && (hasW T i k == hasW U x v) && (hasW T k i == hasW U v x))) := Lib.hid (by unfold pairFit; rw [hgx])
    obtain ⟨o1, ho1⟩ : ∃ o, o = optI (withF T i k) := ⟨_, rfl⟩
    obtain ⟨o2, ho2⟩ : ∃ o, o = optI (withF U x v) := ⟨_, rfl⟩
    obtain ⟨o3, ho3⟩ : ∃ o, o = optI (withF T k i) := ⟨_, rfl⟩
    obtain ⟨o4, ho4⟩ : ∃ o, o = optI (withF U v x) := ⟨_, rfl⟩
    have HW1 := Lib.hid (HWT.out i k)
    have HW2 := Lib.hid (HWU.out x v)
    have HW3 := Lib.hid (HWT.out k i)
    have HW4 := Lib.hid (HWU.out v x)
    rw [← ho1] at HW1
    rw [← ho2] at HW2
    rw [← ho3] at HW3
    rw [← ho4] at HW4
    obtain ⟨q1, hq1⟩ : ∃ q : Bool, decide (0 ≤ o1) = q := ⟨_, rfl⟩
    obtain ⟨q2, hq2⟩ : ∃ q : Bool, decide (0 ≤ o2) = q := ⟨_, rfl⟩
    obtain ⟨q3, hq3⟩ : ∃ q : Bool, decide (0 ≤ o3) = q := ⟨_, rfl⟩
    obtain ⟨q4, hq4⟩ : ∃ q : Bool, decide (0 ≤ o4) = q := ⟨_, rfl⟩
    have e1 : hasW T i k = q1 := by rw [← hq1, ho1, Bool.eq_iff_iff, decide_eq_true_iff, optI_has]
    have e2 : hasW U x v = q2 := by rw [← hq2, ho2, Bool.eq_iff_iff, decide_eq_true_iff, optI_has]
    have e3 : hasW T k i = q3 := by rw [← hq3, ho3, Bool.eq_iff_iff, decide_eq_true_iff, optI_has]
    have e4 : hasW U v x = q4 := by rw [← hq4, ho4, Bool.eq_iff_iff, decide_eq_true_iff, optI_has]
    rw [e1, e2, e3, e4] at HPF
    have HNF : Hid (pairFit T U l k v i = false → r = false) := Lib.hid fun h => by
     rw [← HR.out]
     unfold fitsR
     rw [Bool.and_eq_false_iff]
     left
     rw [← HK.out, List.all_eq_false]
     exact ⟨i, List.mem_range.2 hii, by rw [h]; simp⟩
    clear ho1 ho2 ho3 ho4 e1 e2 e3 e4 hgx hx
    by_cases hxv : x = v
    · have hb : (x == v) = true := by simp [hxv]
      have hr := HNF.out (by rw [HPF.out, decide_eq_true hxv]; rfl)
      subst hr
      clear hxv
      go_upto_region 4 with (fail)
      have KSwE := KSw
      have KXwE := KXw
      have HBwE := HBw
      refine wp_region_held_drew (S := fun w' => w'.cell? ⟨b1, 0, none⟩ = some (.int .i64 N) ∧ w'.cell? ⟨b1, 1, none⟩ = some (.slice A n c) ∧ w'.cell? ⟨b2, 0, none⟩ = some (.int .i64 M) ∧ w'.cell? ⟨b2, 1, none⟩ = some (.slice Ax nx cx) ∧ w'.cell? (ad.add i) = some (.int .i64 x)) (by kernel_rfl) ⟨(soup_facts KSwE.out.drew).1, (soup_facts KSwE.out.drew).2.1, (soup_facts KXwE.out.drew).1, (soup_facts KXwE.out.drew).2.1, (CTwE.out.drew.c)⟩ (fun hHeld => ?_)
      refine hKk 0 ?_; (try simp only [zQ])
      refine hKk 1 ?_; (try simp only [zQ])
      refine hKk 2 ?_; (try simp only [zQ])
      refine hKk 3 ?_; (try simp only [zQ])
      refine hKk 4 ?_; (try simp only [zQ])
      refine hKk 5 ?_; (try simp only [zQ])
      refine hKk 6 ?_; (try simp only [zQ])
      refine hRk 7 ?_; (try simp only [zQ])
      refine hRk 8 ?_; (try simp only [zQ])
      refine hRk 9 ?_; (try simp only [zQ])
      refine hRk 10 ?_; (try simp only [zQ])
      refine hRk 11 ?_; (try simp only [zQ])
      refine hRk 12 ?_; (try simp only [zQ])
      refine hRk 13 ?_; (try simp only [zQ])
      refine hRk 14 ?_; (try simp only [zQ])
      refine hRk 15 ?_; (try simp only [zQ])
      refine hRk 16 ?_; (try simp only [zQ])
      refine hRk 17 ?_; (try simp only [zQ])
      refine hRk 18 ?_; (try simp only [zQ])
      refine hRk 19 ?_; (try simp only [zQ])
      refine hRk 20 ?_; (try simp only [zQ])
      refine hKk 21 ?_; (try simp only [zQ])
      refine hKk 22 ?_; (try simp only [zQ])
      refine hRk 23 ?_; (try simp only [zQ])
      refine hRk 24 ?_; (try simp only [zQ])
      refine hRk 25 ?_; (try simp only [zQ])
      refine hRk 26 ?_; (try simp only [zQ])
      refine hRk 27 ?_; (try simp only [zQ])
      refine hRk 28 ?_; (try simp only [zQ])
      refine hRk 29 ?_; (try simp only [zQ])
      refine hRk 30 ?_; (try simp only [zQ])
      refine hRk 31 ?_; (try simp only [zQ])
      refine hRk 32 ?_; (try simp only [zQ])
      refine hRk 33 ?_; (try simp only [zQ])
      refine hRk 34 ?_; (try simp only [zQ])
      refine hRk 35 ?_; (try simp only [zQ])
      refine hRk 36 ?_; (try simp only [zQ])
      refine hKk 37 ?_; (try simp only [zQ])
      refine wpAnyH_done (by kernel_rfl) ?_ _
      go_wp2_with fail
      go_ret
      exact ⟨rfl, (bw_drew HBwE.out)⟩
    have hb : (x == v) = false := by simp [hxv]
    rw [decide_eq_false hxv] at HPF
    clear hxv
    by_cases h12 : q1 = q2
    · have hc : (!(q1 == q2)) = false := by simp [h12]
      by_cases h34 : q3 = q4
      · have hd : (!(q3 == q4)) = false := by simp [h34]
        have HP2 : Hid (∀ j, j < i + 1 → pairFit T U l k v j = true) := Lib.hid fun j hj => by
         rcases Nat.lt_succ_iff_lt_or_eq.1 hj with h | h
         · exact HP.out j h
         · rw [h, HPF.out, h12, h34]; simp
        clear h12 h34
        go_upto_region 4 with (fail)
        have KSwE := KSw
        have KXwE := KXw
        have HBwE := HBw
        refine wp_region_held_drew (S := fun w' => w'.cell? ⟨b1, 0, none⟩ = some (.int .i64 N) ∧ w'.cell? ⟨b1, 1, none⟩ = some (.slice A n c) ∧ w'.cell? ⟨b2, 0, none⟩ = some (.int .i64 M) ∧ w'.cell? ⟨b2, 1, none⟩ = some (.slice Ax nx cx) ∧ w'.cell? (ad.add i) = some (.int .i64 x)) (by kernel_rfl) ⟨(soup_facts KSwE.out.drew).1, (soup_facts KSwE.out.drew).2.1, (soup_facts KXwE.out.drew).1, (soup_facts KXwE.out.drew).2.1, (CTwE.out.drew.c)⟩ (fun hHeld => ?_)
        refine hKk 0 ?_; (try simp only [zQ])
        refine hKk 1 ?_; (try simp only [zQ])
        refine hKk 2 ?_; (try simp only [zQ])
        refine hKk 3 ?_; (try simp only [zQ])
        refine hKk 4 ?_; (try simp only [zQ])
        refine hKk 5 ?_; (try simp only [zQ])
        refine hKk 6 ?_; (try simp only [zQ])
        refine hKk 7 ?_; (try simp only [zQ])
        refine hKk 8 ?_; (try simp only [zQ])
        refine hKk 9 ?_; (try simp only [zQ])
        refine hKk 12 ?_; (try simp only [zQ])
        refine hKk 13 ?_; (try simp only [zQ])
        refine hKk 14 ?_; (try simp only [zQ])
        refine hKk 15 ?_; (try simp only [zQ])
        refine hKk 16 ?_; (try simp only [zQ])
        refine hKk 17 ?_; (try simp only [zQ])
        refine wpAnyH_ready (rs := [10]) (by kernel_rfl) (by simp) ?_
        refine held_cons rfl (fun K hK => ?_) ?_
        · go_simp
          go_wp2_with (go_at_call 30; refine (HW1.out wE.drew (bw_drew HBwE.out)).mono ?_; rintro e v3 ⟨rfl, hb⟩)
          have KSv3 := Lib.hid (blk_call KSwE.out.drew hb)
          have KXv3 := Lib.hid (blk_call KXwE.out.drew hb)
          have CTv3 := Lib.hid (CTwE.out.drew.below hb)
          have HBv3 := Lib.hid (bw_call (bw_drew HBwE.out) hb)
          clear hb
          refine hK.out _ _ ?_ (fun hHeld => ?_)
          · exact ⟨(soup_facts KSv3.out).1, (soup_facts KSv3.out).2.1, (soup_facts KXv3.out).1, (soup_facts KXv3.out).2.1, (CTv3.out.c)⟩
          clear hK K
          (try simp only [zQ])
          refine hKk 11 ?_; (try simp only [zQ])
          refine wpAnyH_ready (rs := [18]) (by kernel_rfl) (by simp) ?_
          refine held_cons rfl (fun K hK => ?_) ?_
          · go_simp
            go_wp2_with (go_at_call 30; refine (HW2.out v3 HBv3.out).mono ?_; rintro e v4 ⟨rfl, hb⟩)
            have KSv4 := Lib.hid (blk_call KSv3.out hb)
            have KXv4 := Lib.hid (blk_call KXv3.out hb)
            have CTv4 := Lib.hid (CTv3.out.below hb)
            have HBv4 := Lib.hid (bw_call HBv3.out hb)
            clear hb KSv3 KXv3 CTv3 HBv3
            refine hK.out _ _ ?_ (fun hHeld => ?_)
            · exact ⟨(soup_facts KSv4.out).1, (soup_facts KSv4.out).2.1, (soup_facts KXv4.out).1, (soup_facts KXv4.out).2.1, (CTv4.out.c)⟩
            clear hK K
            (try simp only [zQ])
            refine hKk 19 ?_; (try simp only [zQ])
            refine hKk 20 ?_; (try simp only [zQ])
            refine hKk 21 ?_; (try simp only [zQ])
            refine hKk 22 ?_; (try simp only [zQ])
            refine hKk 23 ?_; (try simp only [zQ])
            refine hKk 24 ?_; (try simp only [zQ])
            refine hKk 25 ?_; (try simp only [zQ])
            refine hKk 28 ?_; (try simp only [zQ])
            refine hKk 29 ?_; (try simp only [zQ])
            refine hKk 30 ?_; (try simp only [zQ])
            refine hKk 31 ?_; (try simp only [zQ])
            refine hKk 32 ?_; (try simp only [zQ])
            refine hKk 33 ?_; (try simp only [zQ])
            refine wpAnyH_ready (rs := [26]) (by kernel_rfl) (by simp) ?_
            refine held_cons rfl (fun K hK => ?_) ?_
            · go_simp
              go_wp2_with (go_at_call 30; refine (HW3.out v4 HBv4.out).mono ?_; rintro e v5 ⟨rfl, hb⟩)
              have KSv5 := Lib.hid (blk_call KSv4.out hb)
              have KXv5 := Lib.hid (blk_call KXv4.out hb)
              have CTv5 := Lib.hid (CTv4.out.below hb)
              have HBv5 := Lib.hid (bw_call HBv4.out hb)
              clear hb KSv4 KXv4 CTv4 HBv4
              refine hK.out _ _ ?_ (fun hHeld => ?_)
              · exact ⟨(soup_facts KSv5.out).1, (soup_facts KSv5.out).2.1, (soup_facts KXv5.out).1, (soup_facts KXv5.out).2.1, (CTv5.out.c)⟩
              clear hK K
              (try simp only [zQ])
              refine hKk 27 ?_; (try simp only [zQ])
              refine wpAnyH_ready (rs := [34]) (by kernel_rfl) (by simp) ?_
              refine held_cons rfl (fun K hK => ?_) ?_
              · go_simp
                go_wp2_with (go_at_call 30; refine (HW4.out v5 HBv5.out).mono ?_; rintro e v6 ⟨rfl, hb⟩)
                have KSv6 := Lib.hid (blk_call KSv5.out hb)
                have KXv6 := Lib.hid (blk_call KXv5.out hb)
                have CTv6 := Lib.hid (CTv5.out.below hb)
                have HBv6 := Lib.hid (bw_call HBv5.out hb)
                clear hb KSv5 KXv5 CTv5 HBv5
                refine hK.out _ _ ?_ (fun hHeld => ?_)
                · exact ⟨(soup_facts KSv6.out).1, (soup_facts KSv6.out).2.1, (soup_facts KXv6.out).1, (soup_facts KXv6.out).2.1, (CTv6.out.c)⟩
                clear hK K
                (try simp only [zQ])
                refine hKk 35 ?_; (try simp only [zQ])
                refine hKk 36 ?_; (try simp only [zQ])
                refine hKk 37 ?_; (try simp only [zQ])
                refine wpAnyH_done (by kernel_rfl) ?_ _
                have KSn := KSv6
                have KXn := KXv6
                have HBn := HBv6
                go_wp2_with fail
                go_roundw
                case rel => exact ⟨i + 1, by omega, by go_num, HP2, KSn, KXn, HBn⟩
                case measure => simp [intOf]; omega
              exact AllReadyH.nil
            exact AllReadyH.nil
          exact AllReadyH.nil
        exact AllReadyH.nil
      · have hd : (!(q3 == q4)) = true := by simp [h34]
        have hr := HNF.out (by rw [HPF.out]; simp [h34])
        subst hr
        clear h12 h34
        go_upto_region 4 with (fail)
        have KSwE := KSw
        have KXwE := KXw
        have HBwE := HBw
        refine wp_region_held_drew (S := fun w' => w'.cell? ⟨b1, 0, none⟩ = some (.int .i64 N) ∧ w'.cell? ⟨b1, 1, none⟩ = some (.slice A n c) ∧ w'.cell? ⟨b2, 0, none⟩ = some (.int .i64 M) ∧ w'.cell? ⟨b2, 1, none⟩ = some (.slice Ax nx cx) ∧ w'.cell? (ad.add i) = some (.int .i64 x)) (by kernel_rfl) ⟨(soup_facts KSwE.out.drew).1, (soup_facts KSwE.out.drew).2.1, (soup_facts KXwE.out.drew).1, (soup_facts KXwE.out.drew).2.1, (CTwE.out.drew.c)⟩ (fun hHeld => ?_)
        refine hKk 0 ?_; (try simp only [zQ])
        refine hKk 1 ?_; (try simp only [zQ])
        refine hKk 2 ?_; (try simp only [zQ])
        refine hKk 3 ?_; (try simp only [zQ])
        refine hKk 4 ?_; (try simp only [zQ])
        refine hKk 5 ?_; (try simp only [zQ])
        refine hKk 6 ?_; (try simp only [zQ])
        refine hKk 7 ?_; (try simp only [zQ])
        refine hKk 8 ?_; (try simp only [zQ])
        refine hKk 9 ?_; (try simp only [zQ])
        refine hKk 12 ?_; (try simp only [zQ])
        refine hKk 13 ?_; (try simp only [zQ])
        refine hKk 14 ?_; (try simp only [zQ])
        refine hKk 15 ?_; (try simp only [zQ])
        refine hKk 16 ?_; (try simp only [zQ])
        refine hKk 17 ?_; (try simp only [zQ])
        refine wpAnyH_ready (rs := [10]) (by kernel_rfl) (by simp) ?_
        refine held_cons rfl (fun K hK => ?_) ?_
        · go_simp
          go_wp2_with (go_at_call 30; refine (HW1.out wE.drew (bw_drew HBwE.out)).mono ?_; rintro e v3 ⟨rfl, hb⟩)
          have KSv3 := Lib.hid (blk_call KSwE.out.drew hb)
          have KXv3 := Lib.hid (blk_call KXwE.out.drew hb)
          have CTv3 := Lib.hid (CTwE.out.drew.below hb)
          have HBv3 := Lib.hid (bw_call (bw_drew HBwE.out) hb)
          clear hb
          refine hK.out _ _ ?_ (fun hHeld => ?_)
          · exact ⟨(soup_facts KSv3.out).1, (soup_facts KSv3.out).2.1, (soup_facts KXv3.out).1, (soup_facts KXv3.out).2.1, (CTv3.out.c)⟩
          clear hK K
          (try simp only [zQ])
          refine hKk 11 ?_; (try simp only [zQ])
          refine wpAnyH_ready (rs := [18]) (by kernel_rfl) (by simp) ?_
          refine held_cons rfl (fun K hK => ?_) ?_
          · go_simp
            go_wp2_with (go_at_call 30; refine (HW2.out v3 HBv3.out).mono ?_; rintro e v4 ⟨rfl, hb⟩)
            have KSv4 := Lib.hid (blk_call KSv3.out hb)
            have KXv4 := Lib.hid (blk_call KXv3.out hb)
            have CTv4 := Lib.hid (CTv3.out.below hb)
            have HBv4 := Lib.hid (bw_call HBv3.out hb)
            clear hb KSv3 KXv3 CTv3 HBv3
            refine hK.out _ _ ?_ (fun hHeld => ?_)
            · exact ⟨(soup_facts KSv4.out).1, (soup_facts KSv4.out).2.1, (soup_facts KXv4.out).1, (soup_facts KXv4.out).2.1, (CTv4.out.c)⟩
            clear hK K
            (try simp only [zQ])
            refine hKk 19 ?_; (try simp only [zQ])
            refine hKk 20 ?_; (try simp only [zQ])
            refine hKk 21 ?_; (try simp only [zQ])
            refine hKk 22 ?_; (try simp only [zQ])
            refine hKk 23 ?_; (try simp only [zQ])
            refine hKk 24 ?_; (try simp only [zQ])
            refine hKk 25 ?_; (try simp only [zQ])
            refine hKk 28 ?_; (try simp only [zQ])
            refine hKk 29 ?_; (try simp only [zQ])
            refine hKk 30 ?_; (try simp only [zQ])
            refine hKk 31 ?_; (try simp only [zQ])
            refine hKk 32 ?_; (try simp only [zQ])
            refine hKk 33 ?_; (try simp only [zQ])
            refine wpAnyH_ready (rs := [26]) (by kernel_rfl) (by simp) ?_
            refine held_cons rfl (fun K hK => ?_) ?_
            · go_simp
              go_wp2_with (go_at_call 30; refine (HW3.out v4 HBv4.out).mono ?_; rintro e v5 ⟨rfl, hb⟩)
              have KSv5 := Lib.hid (blk_call KSv4.out hb)
              have KXv5 := Lib.hid (blk_call KXv4.out hb)
              have CTv5 := Lib.hid (CTv4.out.below hb)
              have HBv5 := Lib.hid (bw_call HBv4.out hb)
              clear hb KSv4 KXv4 CTv4 HBv4
              refine hK.out _ _ ?_ (fun hHeld => ?_)
              · exact ⟨(soup_facts KSv5.out).1, (soup_facts KSv5.out).2.1, (soup_facts KXv5.out).1, (soup_facts KXv5.out).2.1, (CTv5.out.c)⟩
              clear hK K
              (try simp only [zQ])
              refine hKk 27 ?_; (try simp only [zQ])
              refine wpAnyH_ready (rs := [34]) (by kernel_rfl) (by simp) ?_
              refine held_cons rfl (fun K hK => ?_) ?_
              · go_simp
                go_wp2_with (go_at_call 30; refine (HW4.out v5 HBv5.out).mono ?_; rintro e v6 ⟨rfl, hb⟩)
                have KSv6 := Lib.hid (blk_call KSv5.out hb)
                have KXv6 := Lib.hid (blk_call KXv5.out hb)
                have CTv6 := Lib.hid (CTv5.out.below hb)
                have HBv6 := Lib.hid (bw_call HBv5.out hb)
                clear hb KSv5 KXv5 CTv5 HBv5
                refine hK.out _ _ ?_ (fun hHeld => ?_)
                · exact ⟨(soup_facts KSv6.out).1, (soup_facts KSv6.out).2.1, (soup_facts KXv6.out).1, (soup_facts KXv6.out).2.1, (CTv6.out.c)⟩
                clear hK K
                (try simp only [zQ])
                refine hKk 35 ?_; (try simp only [zQ])
                refine hKk 36 ?_; (try simp only [zQ])
                refine hKk 37 ?_; (try simp only [zQ])
                refine wpAnyH_done (by kernel_rfl) ?_ _
                go_wp2_with fail
                go_ret
                exact ⟨rfl, HBv6.out⟩
              exact AllReadyH.nil
            exact AllReadyH.nil
          exact AllReadyH.nil
        exact AllReadyH.nil
    · have hc : (!(q1 == q2)) = true := by simp [h12]
      have hr := HNF.out (by rw [HPF.out]; simp [h12])
      subst hr
      clear h12
      go_upto_region 4 with (fail)
      have KSwE := KSw
      have KXwE := KXw
      have HBwE := HBw
      refine wp_region_held_drew (S := fun w' => w'.cell? ⟨b1, 0, none⟩ = some (.int .i64 N) ∧ w'.cell? ⟨b1, 1, none⟩ = some (.slice A n c) ∧ w'.cell? ⟨b2, 0, none⟩ = some (.int .i64 M) ∧ w'.cell? ⟨b2, 1, none⟩ = some (.slice Ax nx cx) ∧ w'.cell? (ad.add i) = some (.int .i64 x)) (by kernel_rfl) ⟨(soup_facts KSwE.out.drew).1, (soup_facts KSwE.out.drew).2.1, (soup_facts KXwE.out.drew).1, (soup_facts KXwE.out.drew).2.1, (CTwE.out.drew.c)⟩ (fun hHeld => ?_)
      refine hKk 0 ?_; (try simp only [zQ])
      refine hKk 1 ?_; (try simp only [zQ])
      refine hKk 2 ?_; (try simp only [zQ])
      refine hKk 3 ?_; (try simp only [zQ])
      refine hKk 4 ?_; (try simp only [zQ])
      refine hKk 5 ?_; (try simp only [zQ])
      refine hKk 6 ?_; (try simp only [zQ])
      refine hKk 7 ?_; (try simp only [zQ])
      refine hKk 8 ?_; (try simp only [zQ])
      refine hKk 9 ?_; (try simp only [zQ])
      refine hKk 12 ?_; (try simp only [zQ])
      refine hKk 13 ?_; (try simp only [zQ])
      refine hKk 14 ?_; (try simp only [zQ])
      refine hKk 15 ?_; (try simp only [zQ])
      refine hKk 16 ?_; (try simp only [zQ])
      refine hKk 17 ?_; (try simp only [zQ])
      refine wpAnyH_ready (rs := [10]) (by kernel_rfl) (by simp) ?_
      refine held_cons rfl (fun K hK => ?_) ?_
      · go_simp
        go_wp2_with (go_at_call 30; refine (HW1.out wE.drew (bw_drew HBwE.out)).mono ?_; rintro e v3 ⟨rfl, hb⟩)
        have KSv3 := Lib.hid (blk_call KSwE.out.drew hb)
        have KXv3 := Lib.hid (blk_call KXwE.out.drew hb)
        have CTv3 := Lib.hid (CTwE.out.drew.below hb)
        have HBv3 := Lib.hid (bw_call (bw_drew HBwE.out) hb)
        clear hb
        refine hK.out _ _ ?_ (fun hHeld => ?_)
        · exact ⟨(soup_facts KSv3.out).1, (soup_facts KSv3.out).2.1, (soup_facts KXv3.out).1, (soup_facts KXv3.out).2.1, (CTv3.out.c)⟩
        clear hK K
        (try simp only [zQ])
        refine hKk 11 ?_; (try simp only [zQ])
        refine wpAnyH_ready (rs := [18]) (by kernel_rfl) (by simp) ?_
        refine held_cons rfl (fun K hK => ?_) ?_
        · go_simp
          go_wp2_with (go_at_call 30; refine (HW2.out v3 HBv3.out).mono ?_; rintro e v4 ⟨rfl, hb⟩)
          have KSv4 := Lib.hid (blk_call KSv3.out hb)
          have KXv4 := Lib.hid (blk_call KXv3.out hb)
          have CTv4 := Lib.hid (CTv3.out.below hb)
          have HBv4 := Lib.hid (bw_call HBv3.out hb)
          clear hb KSv3 KXv3 CTv3 HBv3
          refine hK.out _ _ ?_ (fun hHeld => ?_)
          · exact ⟨(soup_facts KSv4.out).1, (soup_facts KSv4.out).2.1, (soup_facts KXv4.out).1, (soup_facts KXv4.out).2.1, (CTv4.out.c)⟩
          clear hK K
          (try simp only [zQ])
          refine hKk 19 ?_; (try simp only [zQ])
          refine hKk 20 ?_; (try simp only [zQ])
          refine hKk 21 ?_; (try simp only [zQ])
          refine hKk 22 ?_; (try simp only [zQ])
          refine hRk 23 ?_; (try simp only [zQ])
          refine hRk 24 ?_; (try simp only [zQ])
          refine hRk 25 ?_; (try simp only [zQ])
          refine hRk 26 ?_; (try simp only [zQ])
          refine hRk 27 ?_; (try simp only [zQ])
          refine hRk 28 ?_; (try simp only [zQ])
          refine hRk 29 ?_; (try simp only [zQ])
          refine hRk 30 ?_; (try simp only [zQ])
          refine hRk 31 ?_; (try simp only [zQ])
          refine hRk 32 ?_; (try simp only [zQ])
          refine hRk 33 ?_; (try simp only [zQ])
          refine hRk 34 ?_; (try simp only [zQ])
          refine hRk 35 ?_; (try simp only [zQ])
          refine hRk 36 ?_; (try simp only [zQ])
          refine hKk 37 ?_; (try simp only [zQ])
          refine wpAnyH_done (by kernel_rfl) ?_ _
          go_wp2_with fail
          go_ret
          exact ⟨rfl, HBv4.out⟩
        exact AllReadyH.nil
      exact AllReadyH.nil
  · obtain rfl : i = k := by omega
    have hiI : ¬ (i : Int) < (i : Int) := by omega
    go_wp2_with fail
    go_loopw [12] (fun iv wr => ∃ j : Nat, j ≤ n ∧ iv = .int .i64 (j : Int) ∧ Hid (∀ t ∈ T.take j, triFit U l i v t = true) ∧ Hid (Blk wr b1 24 #[.int .i64 N, .slice A n c]) ∧ Hid (Blk wr b2 24 #[.int .i64 M, .slice Ax nx cx]) ∧ Hid (Below w.heap.size w wr)) (fun iv _ => n - (intOf iv).toNat)
    case atStart => exact ⟨0, by omega, rfl, Lib.hid (fun t ht => by simp at ht), KSw, KXw, HBw⟩
    case round =>
     clear KSw KXw HBw
     obtain ⟨j, hjn, rfl, HJ, KSj, KXj, HBj⟩ := hrel
     obtain ⟨wF, hwF⟩ : ∃ wF : World, wF = wr := ⟨_, rfl⟩
     rw [← hwF] at KSj KXj HBj ⊢
     clear hwF
     have s0 : wF.cell? ⟨b1, 0, none⟩ = some (.int .i64 N) := KSj.out.cell 0
     have s1 : wF.cell? ⟨b1, 1, none⟩ = some (.slice A n c) := KSj.out.cell 1
     by_cases hjj : j < n
     · have hjI : (j : Int) < (n : Int) := by omega
       obtain ⟨ad, hAd, hq⟩ := ((HT.out.below HBj.out).more HBj.out.size).triQ (Nat.le_refl _) hjj
       obtain ⟨t, ht⟩ : ∃ t, t = tri T j := ⟨_, rfl⟩
       rw [← ht] at hq
       have htm : t ∈ T := by rw [ht]; exact tri_mem (by have := HN.out; omega)
       obtain ⟨ha0, hb0, hc0⟩ := HOK.out t htm
       have HTK : Hid (T.take (j + 1) = T.take j ++ [t]) := Lib.hid (by rw [List.take_add_one, tri_at (show j < T.length by have := HN.out; omega), ← ht]; rfl)
       have HNF2 : Hid (triFit U l i v t = false → r = false) := Lib.hid fun h => by
        rw [← HR.out]
        unfold fitsR
        rw [Bool.and_eq_false_iff]
        right
        rw [← HK.out, List.all_eq_false]
        exact ⟨t, htm, by rw [h]; simp⟩
       have HYES : Hid (triFit U l i v t = true → ∀ t ∈ T.take (j + 1), triFit U l i v t = true) := Lib.hid fun h z hz => by
        rw [HTK.out] at hz
        rcases List.mem_append.1 hz with hz | hz
        · exact HJ.out z hz
        · rw [List.mem_singleton.1 hz]; exact h
       have HTF : Hid (triFit U l i v t = (triOff i t || isT U (goX l i v t.a) (goX l i v t.b) (goX l i v t.c))) := Lib.hid rfl
       have HOFF : Hid (triOff i t = decide ((i : Int) < t.a ∨ (i : Int) < t.b ∨ (i : Int) < t.c ∨ (t.a ≠ (i : Int) ∧ t.b ≠ (i : Int) ∧ t.c ≠ (i : Int)))) := Lib.hid rfl
       obtain ⟨z0, z1, z2⟩ := hq.c
       subst hAd
       clear ht htm hq HJ HTK
       obtain ⟨ta, tb, tc⟩ := t
       dsimp only at ha0 hb0 hc0 z0 z1 z2 HTF HOFF
       go_upto_region 10 with (fail)
       obtain ⟨wG, hwG⟩ : ∃ X, X = (wF.alloc (.cells #[.int .i64 ta, .int .i64 tb, .int .i64 tc] 56)) := ⟨_, rfl⟩
       have KTG : Hid (Blk wG wF.heap.size 56 #[.int .i64 ta, .int .i64 tb, .int .i64 tc]) := by subst hwG; exact Lib.hid (Blk.new _ _ _)
       have KSG : Hid (Blk wG b1 24 #[.int .i64 N, .slice (some ad) n c]) := by subst hwG; exact Lib.hid (KSj.out.alloc _)
       have KXG : Hid (Blk wG b2 24 #[.int .i64 M, .slice Ax nx cx]) := by subst hwG; exact Lib.hid (KXj.out.alloc _)
       have HBG : Hid (Below w.heap.size w wG) := by subst hwG; exact Lib.hid (bw_alloc HBj.out _)
       rw [← hwG]
       obtain ⟨bt, hbt⟩ : ∃ b, b = wF.heap.size := ⟨_, rfl⟩
       have HGT : Hid (w.heap.size ≤ bt) := Lib.hid (by rw [hbt]; exact HBj.out.size)
       rw [← hbt] at KTG
       simp only [← hbt]
       clear hwG hbt KSj KXj HBj z0 z1 z2 s0 s1
       have t0 : wG.cell? ⟨bt, 0, none⟩ = some (.int .i64 ta) := KTG.out.cell 0
       have t1 : wG.cell? ⟨bt, 1, none⟩ = some (.int .i64 tb) := KTG.out.cell 1
       have t2 : wG.cell? ⟨bt, 2, none⟩ = some (.int .i64 tc) := KTG.out.cell 2
       by_cases hA : (i : Int) < ta
       · have HP2 := Lib.hid (HYES.out (by rw [HTF.out, HOFF.out, decide_eq_true (Or.inl hA)]; rfl))
         clear t0 t1 t2
         have t0 : wG.cell? ⟨bt, 0, none⟩ = some (.int .i64 ta) := KTG.out.cell 0
         have t1 : wG.cell? ⟨bt, 1, none⟩ = some (.int .i64 tb) := KTG.out.cell 1
         have t2 : wG.cell? ⟨bt, 2, none⟩ = some (.int .i64 tc) := KTG.out.cell 2
         go_wp2_with fail
         go_roundw
         case rel => exact ⟨j + 1, by omega, by go_num, HP2, KSG, KXG, HBG⟩
         case measure => simp [intOf]; omega
       by_cases hB : (i : Int) < tb
       · have HP2 := Lib.hid (HYES.out (by rw [HTF.out, HOFF.out, decide_eq_true (Or.inr (Or.inl hB))]; rfl))
         clear t0 t1 t2
         have t0 : wG.cell? ⟨bt, 0, none⟩ = some (.int .i64 ta) := KTG.out.cell 0
         have t1 : wG.cell? ⟨bt, 1, none⟩ = some (.int .i64 tb) := KTG.out.cell 1
         have t2 : wG.cell? ⟨bt, 2, none⟩ = some (.int .i64 tc) := KTG.out.cell 2
         go_wp2_with fail
         go_roundw
         case rel => exact ⟨j + 1, by omega, by go_num, HP2, KSG, KXG, HBG⟩
         case measure => simp [intOf]; omega
       by_cases hC : (i : Int) < tc
       · have HP2 := Lib.hid (HYES.out (by rw [HTF.out, HOFF.out, decide_eq_true (Or.inr (Or.inr (Or.inl hC)))]; rfl))
         clear t0 t1 t2
         have t0 : wG.cell? ⟨bt, 0, none⟩ = some (.int .i64 ta) := KTG.out.cell 0
         have t1 : wG.cell? ⟨bt, 1, none⟩ = some (.int .i64 tb) := KTG.out.cell 1
         have t2 : wG.cell? ⟨bt, 2, none⟩ = some (.int .i64 tc) := KTG.out.cell 2
         go_wp2_with fail
         go_roundw
         case rel => exact ⟨j + 1, by omega, by go_num, HP2, KSG, KXG, HBG⟩
         case measure => simp [intOf]; omega
       have HTI : Hid (ta = (i : Int) ∨ tb = (i : Int) ∨ tc = (i : Int) → triFit U l i v ⟨ta, tb, tc⟩ = isT U (goX l i v ta) (goX l i v tb) (goX l i v tc)) := Lib.hid fun h => by
        rw [HTF.out, HOFF.out, decide_eq_false (by omega), Bool.false_or]
       obtain ⟨g0, hg0⟩ : ∃ g, g = goX l i v ta := ⟨_, rfl⟩
       obtain ⟨g1, hg1⟩ : ∃ g, g = goX l i v tb := ⟨_, rfl⟩
       obtain ⟨g2, hg2⟩ : ∃ g, g = goX l i v tc := ⟨_, rfl⟩
       rw [← hg0, ← hg1, ← hg2] at HTI
       have HG0 : Hid (∀ W x, Below w.heap.size w W → ta < (i : Int) → ∃ (ad : Addr) (xn : Nat), At = some ad ∧ ad.block < w.heap.size ∧ ta = (xn : Int) ∧ xn < i ∧ (x = g0 → W.cell? (ad.add xn) = some (.int .i64 x))) := Lib.hid fun W x hW h => to_at47 HL.out HK.out hW ha0 h hg0
       have HG1 : Hid (∀ W x, Below w.heap.size w W → tb < (i : Int) → ∃ (ad : Addr) (xn : Nat), At = some ad ∧ ad.block < w.heap.size ∧ tb = (xn : Int) ∧ xn < i ∧ (x = g1 → W.cell? (ad.add xn) = some (.int .i64 x))) := Lib.hid fun W x hW h => to_at47 HL.out HK.out hW hb0 h hg1
       have HG2 : Hid (∀ W x, Below w.heap.size w W → tc < (i : Int) → ∃ (ad : Addr) (xn : Nat), At = some ad ∧ ad.block < w.heap.size ∧ tc = (xn : Int) ∧ xn < i ∧ (x = g2 → W.cell? (ad.add xn) = some (.int .i64 x))) := Lib.hid fun W x hW h => to_at47 HL.out HK.out hW hc0 h hg2
       have HV0 : Hid (¬ ta < (i : Int) → g0 = v) := Lib.hid fun h => by rw [hg0]; exact if_neg h
       have HV1 : Hid (¬ tb < (i : Int) → g1 = v) := Lib.hid fun h => by rw [hg1]; exact if_neg h
       have HV2 : Hid (¬ tc < (i : Int) → g2 = v) := Lib.hid fun h => by rw [hg2]; exact if_neg h
       clear hg0 hg1 hg2 HTF HOFF
       by_cases hE : ta = (i : Int)
       · have HTI2 := Lib.hid (HTI.out (Or.inl hE))
         have hEb : (ta != (i : Int)) = false := by simp [hE]
         clear HTI
         go_upto_region 12 with (fail)
         obtain ⟨wH, hwH⟩ : ∃ X, X = wG.alloc (.cells #[.int .i64 0, .int .i64 0, .int .i64 0] 56) := ⟨_, rfl⟩
         have KMH : Hid (Blk wH wG.heap.size 56 (mK g0 g1 g2 0)) := by subst hwH; exact Lib.hid (Blk.new _ _ _)
         have KTH : Hid (Blk wH bt 56 #[.int .i64 ta, .int .i64 tb, .int .i64 tc]) := by subst hwH; exact Lib.hid (KTG.out.alloc _)
         have KSH : Hid (Blk wH b1 24 #[.int .i64 N, .slice (some ad) n c]) := by subst hwH; exact Lib.hid (KSG.out.alloc _)
         have KXH : Hid (Blk wH b2 24 #[.int .i64 M, .slice Ax nx cx]) := by subst hwH; exact Lib.hid (KXG.out.alloc _)
         have HBH : Hid (Below w.heap.size w wH) := by subst hwH; exact Lib.hid (bw_alloc HBG.out _)
         rw [← hwH]
         obtain ⟨bm, hbm⟩ : ∃ b, b = wG.heap.size := ⟨_, rfl⟩
         have HGM : Hid (w.heap.size ≤ bm) := Lib.hid (by rw [hbm]; exact HBG.out.size)
         have HTM : Hid (bt ≠ bm) := Lib.hid (by have := KTG.out.lt; omega)
         have HSM : Hid (b1 ≠ bm) := Lib.hid (by have := KSG.out.lt; omega)
         have HXM : Hid (b2 ≠ bm) := Lib.hid (by have := KXG.out.lt; omega)
         rw [← hbm] at KMH
         simp only [← hbm]
         clear hwH hbm t0 t1 t2 KTG KSG KXG HBG
         go_wp2_with fail
         go_loopw [15] (fun kv wr => ∃ q : Nat, q ≤ 3 ∧ kv = .int .i64 (q : Int) ∧ Hid (Blk wr bm 56 (mK g0 g1 g2 q)) ∧ Hid (Blk wr bt 56 #[.int .i64 ta, .int .i64 tb, .int .i64 tc]) ∧ Hid (Blk wr b1 24 #[.int .i64 N, .slice (some ad) n c]) ∧ Hid (Blk wr b2 24 #[.int .i64 M, .slice Ax nx cx]) ∧ Hid (Below w.heap.size w wr)) (fun kv _ => 3 - (intOf kv).toNat)
         case atStart => exact ⟨0, by omega, rfl, KMH, KTH, KSH, KXH, HBH⟩
         case round =>
          clear KMH KTH KSH KXH HBH
          obtain ⟨q, hq3, rfl, HM, KTq, KSq, KXq, HBq⟩ := hrel
          obtain ⟨wI, hwI⟩ : ∃ wI : World, wI = wr := ⟨_, rfl⟩
          rw [← hwI] at HM KTq KSq KXq HBq ⊢
          clear hwI
          rcases (by omega : q = 0 ∨ q = 1 ∨ q = 2 ∨ q = 3) with rfl | rfl | rfl | rfl
          ·
           have f0 : wI.frozen? ⟨bm, 0, none⟩ = false := HM.out.frozen 0
           have c0 : wI.cell? ⟨bm, 0, none⟩ = some (.int .i64 0) := HM.out.cell 0
           have hset : (mK g0 g1 g2 0).setIfInBounds 0 (.int .i64 g0) = mK g0 g1 g2 1 := rfl
           by_cases hlt : ta < (i : Int)
           · obtain ⟨al, xn, hAt, halb, hxn, hxi, hcell⟩ := HG0.out wI g0 HBq.out hlt
             have hcell := hcell rfl
             have hxI : (xn : Int) < (i : Int) := by omega
             have halt : (al.add xn).block < w.heap.size := by rw [block_of_add]; exact halb
             have hne : (al.add xn).block ≠ bm := by have := HGM.out; omega
             have y1 : (wI.setCell ⟨bm, 0, none⟩ (.int .i64 v)).cell? (al.add xn) = some (.int .i64 g0) := (World.cell?_of_block (Below.heap_setCell wI ⟨bm, 0, none⟩ (.int .i64 v) _ hne)).trans hcell
             have y2 : (wI.setCell ⟨bm, 0, none⟩ (.int .i64 v)).cell? ⟨bt, 0, none⟩ = some (.int .i64 (xn : Int)) := by rw [← hxn]; exact (KTq.out.far (p := ⟨bm, 0, none⟩) HTM.out _).cell 0
             have c1 : (wI.setCell ⟨bm, 0, none⟩ (.int .i64 v)).cell? ⟨bm, 0, none⟩ = some (.int .i64 v) := (HM.out.set_ 0 (.int .i64 v)).cell 0
             have f1 : (wI.setCell ⟨bm, 0, none⟩ (.int .i64 v)).frozen? ⟨bm, 0, none⟩ = false := (HM.out.set_ 0 (.int .i64 v)).frozen 0
             have KM2 : Hid (Blk ((wI.setCell ⟨bm, 0, none⟩ (.int .i64 v)).setCell ⟨bm, 0, none⟩ (.int .i64 g0)) bm 56 (mK g0 g1 g2 1)) := Lib.hid ((HM.out.set_ 0 (.int .i64 v)).set_ 0 (.int .i64 g0))
             have KT2 : Hid (Blk ((wI.setCell ⟨bm, 0, none⟩ (.int .i64 v)).setCell ⟨bm, 0, none⟩ (.int .i64 g0)) bt 56 #[.int .i64 ta, .int .i64 tb, .int .i64 tc]) := Lib.hid ((KTq.out.far (p := ⟨bm, 0, none⟩) HTM.out _).far (p := ⟨bm, 0, none⟩) HTM.out _)
             have KS2 : Hid (Blk ((wI.setCell ⟨bm, 0, none⟩ (.int .i64 v)).setCell ⟨bm, 0, none⟩ (.int .i64 g0)) b1 24 #[.int .i64 N, .slice (some ad) n c]) := Lib.hid ((KSq.out.far (p := ⟨bm, 0, none⟩) HSM.out _).far (p := ⟨bm, 0, none⟩) HSM.out _)
             have KX2 : Hid (Blk ((wI.setCell ⟨bm, 0, none⟩ (.int .i64 v)).setCell ⟨bm, 0, none⟩ (.int .i64 g0)) b2 24 #[.int .i64 M, .slice Ax nx cx]) := Lib.hid ((KXq.out.far (p := ⟨bm, 0, none⟩) HXM.out _).far (p := ⟨bm, 0, none⟩) HXM.out _)
             have HB2 : Hid (Below w.heap.size w ((wI.setCell ⟨bm, 0, none⟩ (.int .i64 v)).setCell ⟨bm, 0, none⟩ (.int .i64 g0))) := Lib.hid (bw_set (bw_set HBq.out HGM.out _) HGM.out _)
             subst hAt
             clear hxn hcell halt hlt
             go_wp2_with fail
             go_roundw
             case rel => exact ⟨1, by omega, by go_num, KM2, KT2, KS2, KX2, HB2⟩
             case measure => simp [intOf]
           · have hv := HV0.out (by omega)
             have y2 : (wI.setCell ⟨bm, 0, none⟩ (.int .i64 v)).cell? ⟨bt, 0, none⟩ = some (.int .i64 ta) := (KTq.out.far (p := ⟨bm, 0, none⟩) HTM.out _).cell 0
             have KM2 : Hid (Blk (wI.setCell ⟨bm, 0, none⟩ (.int .i64 v)) bm 56 (mK g0 g1 g2 1)) := Lib.hid (by rw [← hset, hv]; exact HM.out.set_ 0 (.int .i64 v))
             have KT2 : Hid (Blk (wI.setCell ⟨bm, 0, none⟩ (.int .i64 v)) bt 56 #[.int .i64 ta, .int .i64 tb, .int .i64 tc]) := Lib.hid (KTq.out.far (p := ⟨bm, 0, none⟩) HTM.out _)
             have KS2 : Hid (Blk (wI.setCell ⟨bm, 0, none⟩ (.int .i64 v)) b1 24 #[.int .i64 N, .slice (some ad) n c]) := Lib.hid (KSq.out.far (p := ⟨bm, 0, none⟩) HSM.out _)
             have KX2 : Hid (Blk (wI.setCell ⟨bm, 0, none⟩ (.int .i64 v)) b2 24 #[.int .i64 M, .slice Ax nx cx]) := Lib.hid (KXq.out.far (p := ⟨bm, 0, none⟩) HXM.out _)
             have HB2 : Hid (Below w.heap.size w (wI.setCell ⟨bm, 0, none⟩ (.int .i64 v))) := Lib.hid (bw_set HBq.out HGM.out _)
             clear hv
             go_wp2_with fail
             go_roundw
             case rel => exact ⟨1, by omega, by go_num, KM2, KT2, KS2, KX2, HB2⟩
             case measure => simp [intOf]
          ·
           have f0 : wI.frozen? ⟨bm, 1, none⟩ = false := HM.out.frozen 1
           have c0 : wI.cell? ⟨bm, 1, none⟩ = some (.int .i64 0) := HM.out.cell 1
           have hset : (mK g0 g1 g2 1).setIfInBounds 1 (.int .i64 g1) = mK g0 g1 g2 2 := rfl
           by_cases hlt : tb < (i : Int)
           · obtain ⟨al, xn, hAt, halb, hxn, hxi, hcell⟩ := HG1.out wI g1 HBq.out hlt
             have hcell := hcell rfl
             have hxI : (xn : Int) < (i : Int) := by omega
             have halt : (al.add xn).block < w.heap.size := by rw [block_of_add]; exact halb
             have hne : (al.add xn).block ≠ bm := by have := HGM.out; omega
             have y1 : (wI.setCell ⟨bm, 1, none⟩ (.int .i64 v)).cell? (al.add xn) = some (.int .i64 g1) := (World.cell?_of_block (Below.heap_setCell wI ⟨bm, 1, none⟩ (.int .i64 v) _ hne)).trans hcell
             have y2 : (wI.setCell ⟨bm, 1, none⟩ (.int .i64 v)).cell? ⟨bt, 1, none⟩ = some (.int .i64 (xn : Int)) := by rw [← hxn]; exact (KTq.out.far (p := ⟨bm, 1, none⟩) HTM.out _).cell 1
             have c1 : (wI.setCell ⟨bm, 1, none⟩ (.int .i64 v)).cell? ⟨bm, 1, none⟩ = some (.int .i64 v) := (HM.out.set_ 1 (.int .i64 v)).cell 1
             have f1 : (wI.setCell ⟨bm, 1, none⟩ (.int .i64 v)).frozen? ⟨bm, 1, none⟩ = false := (HM.out.set_ 1 (.int .i64 v)).frozen 1
             have KM2 : Hid (Blk ((wI.setCell ⟨bm, 1, none⟩ (.int .i64 v)).setCell ⟨bm, 1, none⟩ (.int .i64 g1)) bm 56 (mK g0 g1 g2 2)) := Lib.hid ((HM.out.set_ 1 (.int .i64 v)).set_ 1 (.int .i64 g1))
             have KT2 : Hid (Blk ((wI.setCell ⟨bm, 1, none⟩ (.int .i64 v)).setCell ⟨bm, 1, none⟩ (.int .i64 g1)) bt 56 #[.int .i64 ta, .int .i64 tb, .int .i64 tc]) := Lib.hid ((KTq.out.far (p := ⟨bm, 1, none⟩) HTM.out _).far (p := ⟨bm, 1, none⟩) HTM.out _)
             have KS2 : Hid (Blk ((wI.setCell ⟨bm, 1, none⟩ (.int .i64 v)).setCell ⟨bm, 1, none⟩ (.int .i64 g1)) b1 24 #[.int .i64 N, .slice (some ad) n c]) := Lib.hid ((KSq.out.far (p := ⟨bm, 1, none⟩) HSM.out _).far (p := ⟨bm, 1, none⟩) HSM.out _)
             have KX2 : Hid (Blk ((wI.setCell ⟨bm, 1, none⟩ (.int .i64 v)).setCell ⟨bm, 1, none⟩ (.int .i64 g1)) b2 24 #[.int .i64 M, .slice Ax nx cx]) := Lib.hid ((KXq.out.far (p := ⟨bm, 1, none⟩) HXM.out _).far (p := ⟨bm, 1, none⟩) HXM.out _)
             have HB2 : Hid (Below w.heap.size w ((wI.setCell ⟨bm, 1, none⟩ (.int .i64 v)).setCell ⟨bm, 1, none⟩ (.int .i64 g1))) := Lib.hid (bw_set (bw_set HBq.out HGM.out _) HGM.out _)
             subst hAt
             clear hxn hcell halt hlt
             go_wp2_with fail
             go_roundw
             case rel => exact ⟨2, by omega, by go_num, KM2, KT2, KS2, KX2, HB2⟩
             case measure => simp [intOf]
           · have hv := HV1.out (by omega)
             have y2 : (wI.setCell ⟨bm, 1, none⟩ (.int .i64 v)).cell? ⟨bt, 1, none⟩ = some (.int .i64 tb) := (KTq.out.far (p := ⟨bm, 1, none⟩) HTM.out _).cell 1
             have KM2 : Hid (Blk (wI.setCell ⟨bm, 1, none⟩ (.int .i64 v)) bm 56 (mK g0 g1 g2 2)) := Lib.hid (by rw [← hset, hv]; exact HM.out.set_ 1 (.int .i64 v))
             have KT2 : Hid (Blk (wI.setCell ⟨bm, 1, none⟩ (.int .i64 v)) bt 56 #[.int .i64 ta, .int .i64 tb, .int .i64 tc]) := Lib.hid (KTq.out.far (p := ⟨bm, 1, none⟩) HTM.out _)
             have KS2 : Hid (Blk (wI.setCell ⟨bm, 1, none⟩ (.int .i64 v)) b1 24 #[.int .i64 N, .slice (some ad) n c]) := Lib.hid (KSq.out.far (p := ⟨bm, 1, none⟩) HSM.out _)
             have KX2 : Hid (Blk (wI.setCell ⟨bm, 1, none⟩ (.int .i64 v)) b2 24 #[.int .i64 M, .slice Ax nx cx]) := Lib.hid (KXq.out.far (p := ⟨bm, 1, none⟩) HXM.out _)
             have HB2 : Hid (Below w.heap.size w (wI.setCell ⟨bm, 1, none⟩ (.int .i64 v))) := Lib.hid (bw_set HBq.out HGM.out _)
             clear hv
             go_wp2_with fail
             go_roundw
             case rel => exact ⟨2, by omega, by go_num, KM2, KT2, KS2, KX2, HB2⟩
             case measure => simp [intOf]
          ·
           have f0 : wI.frozen? ⟨bm, 2, none⟩ = false := HM.out.frozen 2
           have c0 : wI.cell? ⟨bm, 2, none⟩ = some (.int .i64 0) := HM.out.cell 2
           have hset : (mK g0 g1 g2 2).setIfInBounds 2 (.int .i64 g2) = mK g0 g1 g2 3 := rfl
           by_cases hlt : tc < (i : Int)
           · obtain ⟨al, xn, hAt, halb, hxn, hxi, hcell⟩ := HG2.out wI g2 HBq.out hlt
             have hcell := hcell rfl
             have hxI : (xn : Int) < (i : Int) := by omega
             have halt : (al.add xn).block < w.heap.size := by rw [block_of_add]; exact halb
             have hne : (al.add xn).block ≠ bm := by have := HGM.out; omega
             have y1 : (wI.setCell ⟨bm, 2, none⟩ (.int .i64 v)).cell? (al.add xn) = some (.int .i64 g2) := (World.cell?_of_block (Below.heap_setCell wI ⟨bm, 2, none⟩ (.int .i64 v) _ hne)).trans hcell
             have y2 : (wI.setCell ⟨bm, 2, none⟩ (.int .i64 v)).cell? ⟨bt, 2, none⟩ = some (.int .i64 (xn : Int)) := by rw [← hxn]; exact (KTq.out.far (p := ⟨bm, 2, none⟩) HTM.out _).cell 2
             have c1 : (wI.setCell ⟨bm, 2, none⟩ (.int .i64 v)).cell? ⟨bm, 2, none⟩ = some (.int .i64 v) := (HM.out.set_ 2 (.int .i64 v)).cell 2
             have f1 : (wI.setCell ⟨bm, 2, none⟩ (.int .i64 v)).frozen? ⟨bm, 2, none⟩ = false := (HM.out.set_ 2 (.int .i64 v)).frozen 2
             have KM2 : Hid (Blk ((wI.setCell ⟨bm, 2, none⟩ (.int .i64 v)).setCell ⟨bm, 2, none⟩ (.int .i64 g2)) bm 56 (mK g0 g1 g2 3)) := Lib.hid ((HM.out.set_ 2 (.int .i64 v)).set_ 2 (.int .i64 g2))
             have KT2 : Hid (Blk ((wI.setCell ⟨bm, 2, none⟩ (.int .i64 v)).setCell ⟨bm, 2, none⟩ (.int .i64 g2)) bt 56 #[.int .i64 ta, .int .i64 tb, .int .i64 tc]) := Lib.hid ((KTq.out.far (p := ⟨bm, 2, none⟩) HTM.out _).far (p := ⟨bm, 2, none⟩) HTM.out _)
             have KS2 : Hid (Blk ((wI.setCell ⟨bm, 2, none⟩ (.int .i64 v)).setCell ⟨bm, 2, none⟩ (.int .i64 g2)) b1 24 #[.int .i64 N, .slice (some ad) n c]) := Lib.hid ((KSq.out.far (p := ⟨bm, 2, none⟩) HSM.out _).far (p := ⟨bm, 2, none⟩) HSM.out _)
             have KX2 : Hid (Blk ((wI.setCell ⟨bm, 2, none⟩ (.int .i64 v)).setCell ⟨bm, 2, none⟩ (.int .i64 g2)) b2 24 #[.int .i64 M, .slice Ax nx cx]) := Lib.hid ((KXq.out.far (p := ⟨bm, 2, none⟩) HXM.out _).far (p := ⟨bm, 2, none⟩) HXM.out _)
             have HB2 : Hid (Below w.heap.size w ((wI.setCell ⟨bm, 2, none⟩ (.int .i64 v)).setCell ⟨bm, 2, none⟩ (.int .i64 g2))) := Lib.hid (bw_set (bw_set HBq.out HGM.out _) HGM.out _)
             subst hAt
             clear hxn hcell halt hlt
             go_wp2_with fail
             go_roundw
             case rel => exact ⟨3, by omega, by go_num, KM2, KT2, KS2, KX2, HB2⟩
             case measure => simp [intOf]
           · have hv := HV2.out (by omega)
             have y2 : (wI.setCell ⟨bm, 2, none⟩ (.int .i64 v)).cell? ⟨bt, 2, none⟩ = some (.int .i64 tc) := (KTq.out.far (p := ⟨bm, 2, none⟩) HTM.out _).cell 2
             have KM2 : Hid (Blk (wI.setCell ⟨bm, 2, none⟩ (.int .i64 v)) bm 56 (mK g0 g1 g2 3)) := Lib.hid (by rw [← hset, hv]; exact HM.out.set_ 2 (.int .i64 v))
             have KT2 : Hid (Blk (wI.setCell ⟨bm, 2, none⟩ (.int .i64 v)) bt 56 #[.int .i64 ta, .int .i64 tb, .int .i64 tc]) := Lib.hid (KTq.out.far (p := ⟨bm, 2, none⟩) HTM.out _)
             have KS2 : Hid (Blk (wI.setCell ⟨bm, 2, none⟩ (.int .i64 v)) b1 24 #[.int .i64 N, .slice (some ad) n c]) := Lib.hid (KSq.out.far (p := ⟨bm, 2, none⟩) HSM.out _)
             have KX2 : Hid (Blk (wI.setCell ⟨bm, 2, none⟩ (.int .i64 v)) b2 24 #[.int .i64 M, .slice Ax nx cx]) := Lib.hid (KXq.out.far (p := ⟨bm, 2, none⟩) HXM.out _)
             have HB2 : Hid (Below w.heap.size w (wI.setCell ⟨bm, 2, none⟩ (.int .i64 v))) := Lib.hid (bw_set HBq.out HGM.out _)
             clear hv
             go_wp2_with fail
             go_roundw
             case rel => exact ⟨3, by omega, by go_num, KM2, KT2, KS2, KX2, HB2⟩
             case measure => simp [intOf]
          · have m0 : wI.cell? ⟨bm, 0, none⟩ = some (.int .i64 g0) := HM.out.cell 0
            have m1 : wI.cell? ⟨bm, 1, none⟩ = some (.int .i64 g1) := HM.out.cell 1
            have m2 : wI.cell? ⟨bm, 2, none⟩ = some (.int .i64 g2) := HM.out.cell 2
            have x0 : wI.cell? ⟨b2, 0, none⟩ = some (.int .i64 M) := KXq.out.cell 0
            have x1 : wI.cell? ⟨b2, 1, none⟩ = some (.slice Ax nx cx) := KXq.out.cell 1
            have HIT := Lib.hid (HIS.out g0 g1 g2 wI HBq.out)
            obtain ⟨qi, hqi⟩ : ∃ q, q = isT U g0 g1 g2 := ⟨_, rfl⟩
            rw [← hqi] at HIT HTI2
            clear hqi
            cases qi with
            | false =>
             have hr := HNF2.out HTI2.out
             subst hr
             go_wp2_with fail
             refine HIT.out.mono ?_
             rintro e w9 ⟨rfl, hb⟩
             have HB9 := Lib.hid (bw_call HBq.out hb)
             clear hb
             go_wp2_with fail
             go_ret
             exact ⟨rfl, HB9.out⟩
            | true =>
             have HP2 := Lib.hid (HYES.out HTI2.out)
             go_wp2_with fail
             refine HIT.out.mono ?_
             rintro e w9 ⟨rfl, hb⟩
             have HB9 := Lib.hid (bw_call HBq.out hb)
             have KS9 := Lib.hid (KSq.out.below hb KSq.out.lt)
             have KX9 := Lib.hid (KXq.out.below hb KXq.out.lt)
             clear hb
             go_wp2_with fail
             go_roundw
             case rel => exact ⟨j + 1, by omega, by go_num, HP2, KS9, KX9, HB9⟩
             case measure => simp [intOf]; omega
       have hEb : (ta != (i : Int)) = true := by simp [hE]
       by_cases hF : tb = (i : Int)
       · have HTI2 := Lib.hid (HTI.out (Or.inr (Or.inl hF)))
         have hFb : (tb != (i : Int)) = false := by simp [hF]
         clear HTI
         go_upto_region 12 with (fail)
         obtain ⟨wH, hwH⟩ : ∃ X, X = wG.alloc (.cells #[.int .i64 0, .int .i64 0, .int .i64 0] 56) := ⟨_, rfl⟩
         have KMH : Hid (Blk wH wG.heap.size 56 (mK g0 g1 g2 0)) := by subst hwH; exact Lib.hid (Blk.new _ _ _)
         have KTH : Hid (Blk wH bt 56 #[.int .i64 ta, .int .i64 tb, .int .i64 tc]) := by subst hwH; exact Lib.hid (KTG.out.alloc _)
         have KSH : Hid (Blk wH b1 24 #[.int .i64 N, .slice (some ad) n c]) := by subst hwH; exact Lib.hid (KSG.out.alloc _)
         have KXH : Hid (Blk wH b2 24 #[.int .i64 M, .slice Ax nx cx]) := by subst hwH; exact Lib.hid (KXG.out.alloc _)
         have HBH : Hid (Below w.heap.size w wH) := by subst hwH; exact Lib.hid (bw_alloc HBG.out _)
         rw [← hwH]
         obtain ⟨bm, hbm⟩ : ∃ b, b = wG.heap.size := ⟨_, rfl⟩
         have HGM : Hid (w.heap.size ≤ bm) := Lib.hid (by rw [hbm]; exact HBG.out.size)
         have HTM : Hid (bt ≠ bm) := Lib.hid (by have := KTG.out.lt; omega)
         have HSM : Hid (b1 ≠ bm) := Lib.hid (by have := KSG.out.lt; omega)
         have HXM : Hid (b2 ≠ bm) := Lib.hid (by have := KXG.out.lt; omega)
         rw [← hbm] at KMH
         simp only [← hbm]
         clear hwH hbm t0 t1 t2 KTG KSG KXG HBG
         go_wp2_with fail
         go_loopw [15] (fun kv wr => ∃ q : Nat, q ≤ 3 ∧ kv = .int .i64 (q : Int) ∧ Hid (Blk wr bm 56 (mK g0 g1 g2 q)) ∧ Hid (Blk wr bt 56 #[.int .i64 ta, .int .i64 tb, .int .i64 tc]) ∧ Hid (Blk wr b1 24 #[.int .i64 N, .slice (some ad) n c]) ∧ Hid (Blk wr b2 24 #[.int .i64 M, .slice Ax nx cx]) ∧ Hid (Below w.heap.size w wr)) (fun kv _ => 3 - (intOf kv).toNat)
         case atStart => exact ⟨0, by omega, rfl, KMH, KTH, KSH, KXH, HBH⟩
         case round =>
          clear KMH KTH KSH KXH HBH
          obtain ⟨q, hq3, rfl, HM, KTq, KSq, KXq, HBq⟩ := hrel
          obtain ⟨wI, hwI⟩ : ∃ wI : World, wI = wr := ⟨_, rfl⟩
          rw [← hwI] at HM KTq KSq KXq HBq ⊢
          clear hwI
          rcases (by omega : q = 0 ∨ q = 1 ∨ q = 2 ∨ q = 3) with rfl | rfl | rfl | rfl
          ·
           have f0 : wI.frozen? ⟨bm, 0, none⟩ = false := HM.out.frozen 0
           have c0 : wI.cell? ⟨bm, 0, none⟩ = some (.int .i64 0) := HM.out.cell 0
           have hset : (mK g0 g1 g2 0).setIfInBounds 0 (.int .i64 g0) = mK g0 g1 g2 1 := rfl
           by_cases hlt : ta < (i : Int)
           · obtain ⟨al, xn, hAt, halb, hxn, hxi, hcell⟩ := HG0.out wI g0 HBq.out hlt
             have hcell := hcell rfl
             have hxI : (xn : Int) < (i : Int) := by omega
             have halt : (al.add xn).block < w.heap.size := by rw [block_of_add]; exact halb
             have hne : (al.add xn).block ≠ bm := by have := HGM.out; omega
             have y1 : (wI.setCell ⟨bm, 0, none⟩ (.int .i64 v)).cell? (al.add xn) = some (.int .i64 g0) := (World.cell?_of_block (Below.heap_setCell wI ⟨bm, 0, none⟩ (.int .i64 v) _ hne)).trans hcell
             have y2 : (wI.setCell ⟨bm, 0, none⟩ (.int .i64 v)).cell? ⟨bt, 0, none⟩ = some (.int .i64 (xn : Int)) := by rw [← hxn]; exact (KTq.out.far (p := ⟨bm, 0, none⟩) HTM.out _).cell 0
             have c1 : (wI.setCell ⟨bm, 0, none⟩ (.int .i64 v)).cell? ⟨bm, 0, none⟩ = some (.int .i64 v) := (HM.out.set_ 0 (.int .i64 v)).cell 0
             have f1 : (wI.setCell ⟨bm, 0, none⟩ (.int .i64 v)).frozen? ⟨bm, 0, none⟩ = false := (HM.out.set_ 0 (.int .i64 v)).frozen 0
             have KM2 : Hid (Blk ((wI.setCell ⟨bm, 0, none⟩ (.int .i64 v)).setCell ⟨bm, 0, none⟩ (.int .i64 g0)) bm 56 (mK g0 g1 g2 1)) := Lib.hid ((HM.out.set_ 0 (.int .i64 v)).set_ 0 (.int .i64 g0))
             have KT2 : Hid (Blk ((wI.setCell ⟨bm, 0, none⟩ (.int .i64 v)).setCell ⟨bm, 0, none⟩ (.int .i64 g0)) bt 56 #[.int .i64 ta, .int .i64 tb, .int .i64 tc]) := Lib.hid ((KTq.out.far (p := ⟨bm, 0, none⟩) HTM.out _).far (p := ⟨bm, 0, none⟩) HTM.out _)
             have KS2 : Hid (Blk ((wI.setCell ⟨bm, 0, none⟩ (.int .i64 v)).setCell ⟨bm, 0, none⟩ (.int .i64 g0)) b1 24 #[.int .i64 N, .slice (some ad) n c]) := Lib.hid ((KSq.out.far (p := ⟨bm, 0, none⟩) HSM.out _).far (p := ⟨bm, 0, none⟩) HSM.out _)
             have KX2 : Hid (Blk ((wI.setCell ⟨bm, 0, none⟩ (.int .i64 v)).setCell ⟨bm, 0, none⟩ (.int .i64 g0)) b2 24 #[.int .i64 M, .slice Ax nx cx]) := Lib.hid ((KXq.out.far (p := ⟨bm, 0, none⟩) HXM.out _).far (p := ⟨bm, 0, none⟩) HXM.out _)
             have HB2 : Hid (Below w.heap.size w ((wI.setCell ⟨bm, 0, none⟩ (.int .i64 v)).setCell ⟨bm, 0, none⟩ (.int .i64 g0))) := Lib.hid (bw_set (bw_set HBq.out HGM.out _) HGM.out _)
             subst hAt
             clear hxn hcell halt hlt
             go_wp2_with fail
             go_roundw
             case rel => exact ⟨1, by omega, by go_num, KM2, KT2, KS2, KX2, HB2⟩
             case measure => simp [intOf]
           · exfalso
             omega
          ·
           have f0 : wI.frozen? ⟨bm, 1, none⟩ = false := HM.out.frozen 1
           have c0 : wI.cell? ⟨bm, 1, none⟩ = some (.int .i64 0) := HM.out.cell 1
           have hset : (mK g0 g1 g2 1).setIfInBounds 1 (.int .i64 g1) = mK g0 g1 g2 2 := rfl
           by_cases hlt : tb < (i : Int)
           · obtain ⟨al, xn, hAt, halb, hxn, hxi, hcell⟩ := HG1.out wI g1 HBq.out hlt
             have hcell := hcell rfl
             have hxI : (xn : Int) < (i : Int) := by omega
             have halt : (al.add xn).block < w.heap.size := by rw [block_of_add]; exact halb
             have hne : (al.add xn).block ≠ bm := by have := HGM.out; omega
             have y1 : (wI.setCell ⟨bm, 1, none⟩ (.int .i64 v)).cell? (al.add xn) = some (.int .i64 g1) := (World.cell?_of_block (Below.heap_setCell wI ⟨bm, 1, none⟩ (.int .i64 v) _ hne)).trans hcell
             have y2 : (wI.setCell ⟨bm, 1, none⟩ (.int .i64 v)).cell? ⟨bt, 1, none⟩ = some (.int .i64 (xn : Int)) := by rw [← hxn]; exact (KTq.out.far (p := ⟨bm, 1, none⟩) HTM.out _).cell 1
             have c1 : (wI.setCell ⟨bm, 1, none⟩ (.int .i64 v)).cell? ⟨bm, 1, none⟩ = some (.int .i64 v) := (HM.out.set_ 1 (.int .i64 v)).cell 1
             have f1 : (wI.setCell ⟨bm, 1, none⟩ (.int .i64 v)).frozen? ⟨bm, 1, none⟩ = false := (HM.out.set_ 1 (.int .i64 v)).frozen 1
             have KM2 : Hid (Blk ((wI.setCell ⟨bm, 1, none⟩ (.int .i64 v)).setCell ⟨bm, 1, none⟩ (.int .i64 g1)) bm 56 (mK g0 g1 g2 2)) := Lib.hid ((HM.out.set_ 1 (.int .i64 v)).set_ 1 (.int .i64 g1))
             have KT2 : Hid (Blk ((wI.setCell ⟨bm, 1, none⟩ (.int .i64 v)).setCell ⟨bm, 1, none⟩ (.int .i64 g1)) bt 56 #[.int .i64 ta, .int .i64 tb, .int .i64 tc]) := Lib.hid ((KTq.out.far (p := ⟨bm, 1, none⟩) HTM.out _).far (p := ⟨bm, 1, none⟩) HTM.out _)
             have KS2 : Hid (Blk ((wI.setCell ⟨bm, 1, none⟩ (.int .i64 v)).setCell ⟨bm, 1, none⟩ (.int .i64 g1)) b1 24 #[.int .i64 N, .slice (some ad) n c]) := Lib.hid ((KSq.out.far (p := ⟨bm, 1, none⟩) HSM.out _).far (p := ⟨bm, 1, none⟩) HSM.out _)
             have KX2 : Hid (Blk ((wI.setCell ⟨bm, 1, none⟩ (.int .i64 v)).setCell ⟨bm, 1, none⟩ (.int .i64 g1)) b2 24 #[.int .i64 M, .slice Ax nx cx]) := Lib.hid ((KXq.out.far (p := ⟨bm, 1, none⟩) HXM.out _).far (p := ⟨bm, 1, none⟩) HXM.out _)
             have HB2 : Hid (Below w.heap.size w ((wI.setCell ⟨bm, 1, none⟩ (.int .i64 v)).setCell ⟨bm, 1, none⟩ (.int .i64 g1))) := Lib.hid (bw_set (bw_set HBq.out HGM.out _) HGM.out _)
             subst hAt
             clear hxn hcell halt hlt
             go_wp2_with fail
             go_roundw
             case rel => exact ⟨2, by omega, by go_num, KM2, KT2, KS2, KX2, HB2⟩
             case measure => simp [intOf]
           · have hv := HV1.out (by omega)
             have y2 : (wI.setCell ⟨bm, 1, none⟩ (.int .i64 v)).cell? ⟨bt, 1, none⟩ = some (.int .i64 tb) := (KTq.out.far (p := ⟨bm, 1, none⟩) HTM.out _).cell 1
             have KM2 : Hid (Blk (wI.setCell ⟨bm, 1, none⟩ (.int .i64 v)) bm 56 (mK g0 g1 g2 2)) := Lib.hid (by rw [← hset, hv]; exact HM.out.set_ 1 (.int .i64 v))
             have KT2 : Hid (Blk (wI.setCell ⟨bm, 1, none⟩ (.int .i64 v)) bt 56 #[.int .i64 ta, .int .i64 tb, .int .i64 tc]) := Lib.hid (KTq.out.far (p := ⟨bm, 1, none⟩) HTM.out _)
             have KS2 : Hid (Blk (wI.setCell ⟨bm, 1, none⟩ (.int .i64 v)) b1 24 #[.int .i64 N, .slice (some ad) n c]) := Lib.hid (KSq.out.far (p := ⟨bm, 1, none⟩) HSM.out _)
             have KX2 : Hid (Blk (wI.setCell ⟨bm, 1, none⟩ (.int .i64 v)) b2 24 #[.int .i64 M, .slice Ax nx cx]) := Lib.hid (KXq.out.far (p := ⟨bm, 1, none⟩) HXM.out _)
             have HB2 : Hid (Below w.heap.size w (wI.setCell ⟨bm, 1, none⟩ (.int .i64 v))) := Lib.hid (bw_set HBq.out HGM.out _)
             clear hv
             go_wp2_with fail
             go_roundw
             case rel => exact ⟨2, by omega, by go_num, KM2, KT2, KS2, KX2, HB2⟩
             case measure => simp [intOf]
          ·
           have f0 : wI.frozen? ⟨bm, 2, none⟩ = false := HM.out.frozen 2
           have c0 : wI.cell? ⟨bm, 2, none⟩ = some (.int .i64 0) := HM.out.cell 2
           have hset : (mK g0 g1 g2 2).setIfInBounds 2 (.int .i64 g2) = mK g0 g1 g2 3 := rfl
           by_cases hlt : tc < (i : Int)
           · obtain ⟨al, xn, hAt, halb, hxn, hxi, hcell⟩ := HG2.out wI g2 HBq.out hlt
             have hcell := hcell rfl
             have hxI : (xn : Int) < (i : Int) := by omega
             have halt : (al.add xn).block < w.heap.size := by rw [block_of_add]; exact halb
             have hne : (al.add xn).block ≠ bm := by have := HGM.out; omega
             have y1 : (wI.setCell ⟨bm, 2, none⟩ (.int .i64 v)).cell? (al.add xn) = some (.int .i64 g2) := (World.cell?_of_block (Below.heap_setCell wI ⟨bm, 2, none⟩ (.int .i64 v) _ hne)).trans hcell
             have y2 : (wI.setCell ⟨bm, 2, none⟩ (.int .i64 v)).cell? ⟨bt, 2, none⟩ = some (.int .i64 (xn : Int)) := by rw [← hxn]; exact (KTq.out.far (p := ⟨bm, 2, none⟩) HTM.out _).cell 2
             have c1 : (wI.setCell ⟨bm, 2, none⟩ (.int .i64 v)).cell? ⟨bm, 2, none⟩ = some (.int .i64 v) := (HM.out.set_ 2 (.int .i64 v)).cell 2
             have f1 : (wI.setCell ⟨bm, 2, none⟩ (.int .i64 v)).frozen? ⟨bm, 2, none⟩ = false := (HM.out.set_ 2 (.int .i64 v)).frozen 2
             have KM2 : Hid (Blk ((wI.setCell ⟨bm, 2, none⟩ (.int .i64 v)).setCell ⟨bm, 2, none⟩ (.int .i64 g2)) bm 56 (mK g0 g1 g2 3)) := Lib.hid ((HM.out.set_ 2 (.int .i64 v)).set_ 2 (.int .i64 g2))
             have KT2 : Hid (Blk ((wI.setCell ⟨bm, 2, none⟩ (.int .i64 v)).setCell ⟨bm, 2, none⟩ (.int .i64 g2)) bt 56 #[.int .i64 ta, .int .i64 tb, .int .i64 tc]) := Lib.hid ((KTq.out.far (p := ⟨bm, 2, none⟩) HTM.out _).far (p := ⟨bm, 2, none⟩) HTM.out _)
             have KS2 : Hid (Blk ((wI.setCell ⟨bm, 2, none⟩ (.int .i64 v)).setCell ⟨bm, 2, none⟩ (.int .i64 g2)) b1 24 #[.int .i64 N, .slice (some ad) n c]) := Lib.hid ((KSq.out.far (p := ⟨bm, 2, none⟩) HSM.out _).far (p := ⟨bm, 2, none⟩) HSM.out _)
             have KX2 : Hid (Blk ((wI.setCell ⟨bm, 2, none⟩ (.int .i64 v)).setCell ⟨bm, 2, none⟩ (.int .i64 g2)) b2 24 #[.int .i64 M, .slice Ax nx cx]) := Lib.hid ((KXq.out.far (p := ⟨bm, 2, none⟩) HXM.out _).far (p := ⟨bm, 2, none⟩) HXM.out _)
             have HB2 : Hid (Below w.heap.size w ((wI.setCell ⟨bm, 2, none⟩ (.int .i64 v)).setCell ⟨bm, 2, none⟩ (.int .i64 g2))) := Lib.hid (bw_set (bw_set HBq.out HGM.out _) HGM.out _)
             subst hAt
             clear hxn hcell halt hlt
             go_wp2_with fail
             go_roundw
             case rel => exact ⟨3, by omega, by go_num, KM2, KT2, KS2, KX2, HB2⟩
             case measure => simp [intOf]
           · have hv := HV2.out (by omega)
             have y2 : (wI.setCell ⟨bm, 2, none⟩ (.int .i64 v)).cell? ⟨bt, 2, none⟩ = some (.int .i64 tc) := (KTq.out.far (p := ⟨bm, 2, none⟩) HTM.out _).cell 2
             have KM2 : Hid (Blk (wI.setCell ⟨bm, 2, none⟩ (.int .i64 v)) bm 56 (mK g0 g1 g2 3)) := Lib.hid (by rw [← hset, hv]; exact HM.out.set_ 2 (.int .i64 v))
             have KT2 : Hid (Blk (wI.setCell ⟨bm, 2, none⟩ (.int .i64 v)) bt 56 #[.int .i64 ta, .int .i64 tb, .int .i64 tc]) := Lib.hid (KTq.out.far (p := ⟨bm, 2, none⟩) HTM.out _)
             have KS2 : Hid (Blk (wI.setCell ⟨bm, 2, none⟩ (.int .i64 v)) b1 24 #[.int .i64 N, .slice (some ad) n c]) := Lib.hid (KSq.out.far (p := ⟨bm, 2, none⟩) HSM.out _)
             have KX2 : Hid (Blk (wI.setCell ⟨bm, 2, none⟩ (.int .i64 v)) b2 24 #[.int .i64 M, .slice Ax nx cx]) := Lib.hid (KXq.out.far (p := ⟨bm, 2, none⟩) HXM.out _)
             have HB2 : Hid (Below w.heap.size w (wI.setCell ⟨bm, 2, none⟩ (.int .i64 v))) := Lib.hid (bw_set HBq.out HGM.out _)
             clear hv
             go_wp2_with fail
             go_roundw
             case rel => exact ⟨3, by omega, by go_num, KM2, KT2, KS2, KX2, HB2⟩
             case measure => simp [intOf]
          · have m0 : wI.cell? ⟨bm, 0, none⟩ = some (.int .i64 g0) := HM.out.cell 0
            have m1 : wI.cell? ⟨bm, 1, none⟩ = some (.int .i64 g1) := HM.out.cell 1
            have m2 : wI.cell? ⟨bm, 2, none⟩ = some (.int .i64 g2) := HM.out.cell 2
            have x0 : wI.cell? ⟨b2, 0, none⟩ = some (.int .i64 M) := KXq.out.cell 0
            have x1 : wI.cell? ⟨b2, 1, none⟩ = some (.slice Ax nx cx) := KXq.out.cell 1
            have HIT := Lib.hid (HIS.out g0 g1 g2 wI HBq.out)
            obtain ⟨qi, hqi⟩ : ∃ q, q = isT U g0 g1 g2 := ⟨_, rfl⟩
            rw [← hqi] at HIT HTI2
            clear hqi
            cases qi with
            | false =>
             have hr := HNF2.out HTI2.out
             subst hr
             go_wp2_with fail
             refine HIT.out.mono ?_
             rintro e w9 ⟨rfl, hb⟩
             have HB9 := Lib.hid (bw_call HBq.out hb)
             clear hb
             go_wp2_with fail
             go_ret
             exact ⟨rfl, HB9.out⟩
            | true =>
             have HP2 := Lib.hid (HYES.out HTI2.out)
             go_wp2_with fail
             refine HIT.out.mono ?_
             rintro e w9 ⟨rfl, hb⟩
             have HB9 := Lib.hid (bw_call HBq.out hb)
             have KS9 := Lib.hid (KSq.out.below hb KSq.out.lt)
             have KX9 := Lib.hid (KXq.out.below hb KXq.out.lt)
             clear hb
             go_wp2_with fail
             go_roundw
             case rel => exact ⟨j + 1, by omega, by go_num, HP2, KS9, KX9, HB9⟩
             case measure => simp [intOf]; omega
       have hFb : (tb != (i : Int)) = true := by simp [hF]
       by_cases hH : tc = (i : Int)
       · have HTI2 := Lib.hid (HTI.out (Or.inr (Or.inr hH)))
         have hHb : (tc != (i : Int)) = false := by simp [hH]
         clear HTI
         go_upto_region 12 with (fail)
         obtain ⟨wH, hwH⟩ : ∃ X, X = wG.alloc (.cells #[.int .i64 0, .int .i64 0, .int .i64 0] 56) := ⟨_, rfl⟩
         have KMH : Hid (Blk wH wG.heap.size 56 (mK g0 g1 g2 0)) := by subst hwH; exact Lib.hid (Blk.new _ _ _)
         have KTH : Hid (Blk wH bt 56 #[.int .i64 ta, .int .i64 tb, .int .i64 tc]) := by subst hwH; exact Lib.hid (KTG.out.alloc _)
         have KSH : Hid (Blk wH b1 24 #[.int .i64 N, .slice (some ad) n c]) := by subst hwH; exact Lib.hid (KSG.out.alloc _)
         have KXH : Hid (Blk wH b2 24 #[.int .i64 M, .slice Ax nx cx]) := by subst hwH; exact Lib.hid (KXG.out.alloc _)
         have HBH : Hid (Below w.heap.size w wH) := by subst hwH; exact Lib.hid (bw_alloc HBG.out _)
         rw [← hwH]
         obtain ⟨bm, hbm⟩ : ∃ b, b = wG.heap.size := ⟨_, rfl⟩
         have HGM : Hid (w.heap.size ≤ bm) := Lib.hid (by rw [hbm]; exact HBG.out.size)
         have HTM : Hid (bt ≠ bm) := Lib.hid (by have := KTG.out.lt; omega)
         have HSM : Hid (b1 ≠ bm) := Lib.hid (by have := KSG.out.lt; omega)
         have HXM : Hid (b2 ≠ bm) := Lib.hid (by have := KXG.out.lt; omega)
         rw [← hbm] at KMH
         simp only [← hbm]
         clear hwH hbm t0 t1 t2 KTG KSG KXG HBG
         go_wp2_with fail
         go_loopw [15] (fun kv wr => ∃ q : Nat, q ≤ 3 ∧ kv = .int .i64 (q : Int) ∧ Hid (Blk wr bm 56 (mK g0 g1 g2 q)) ∧ Hid (Blk wr bt 56 #[.int .i64 ta, .int .i64 tb, .int .i64 tc]) ∧ Hid (Blk wr b1 24 #[.int .i64 N, .slice (some ad) n c]) ∧ Hid (Blk wr b2 24 #[.int .i64 M, .slice Ax nx cx]) ∧ Hid (Below w.heap.size w wr)) (fun kv _ => 3 - (intOf kv).toNat)
         case atStart => exact ⟨0, by omega, rfl, KMH, KTH, KSH, KXH, HBH⟩
         case round =>
          clear KMH KTH KSH KXH HBH
          obtain ⟨q, hq3, rfl, HM, KTq, KSq, KXq, HBq⟩ := hrel
          obtain ⟨wI, hwI⟩ : ∃ wI : World, wI = wr := ⟨_, rfl⟩
          rw [← hwI] at HM KTq KSq KXq HBq ⊢
          clear hwI
          rcases (by omega : q = 0 ∨ q = 1 ∨ q = 2 ∨ q = 3) with rfl | rfl | rfl | rfl
          ·
           have f0 : wI.frozen? ⟨bm, 0, none⟩ = false := HM.out.frozen 0
           have c0 : wI.cell? ⟨bm, 0, none⟩ = some (.int .i64 0) := HM.out.cell 0
           have hset : (mK g0 g1 g2 0).setIfInBounds 0 (.int .i64 g0) = mK g0 g1 g2 1 := rfl
           by_cases hlt : ta < (i : Int)
           · obtain ⟨al, xn, hAt, halb, hxn, hxi, hcell⟩ := HG0.out wI g0 HBq.out hlt
             have hcell := hcell rfl
             have hxI : (xn : Int) < (i : Int) := by omega
             have halt : (al.add xn).block < w.heap.size := by rw [block_of_add]; exact halb
             have hne : (al.add xn).block ≠ bm := by have := HGM.out; omega
             have y1 : (wI.setCell ⟨bm, 0, none⟩ (.int .i64 v)).cell? (al.add xn) = some (.int .i64 g0) := (World.cell?_of_block (Below.heap_setCell wI ⟨bm, 0, none⟩ (.int .i64 v) _ hne)).trans hcell
             have y2 : (wI.setCell ⟨bm, 0, none⟩ (.int .i64 v)).cell? ⟨bt, 0, none⟩ = some (.int .i64 (xn : Int)) := by rw [← hxn]; exact (KTq.out.far (p := ⟨bm, 0, none⟩) HTM.out _).cell 0
             have c1 : (wI.setCell ⟨bm, 0, none⟩ (.int .i64 v)).cell? ⟨bm, 0, none⟩ = some (.int .i64 v) := (HM.out.set_ 0 (.int .i64 v)).cell 0
             have f1 : (wI.setCell ⟨bm, 0, none⟩ (.int .i64 v)).frozen? ⟨bm, 0, none⟩ = false := (HM.out.set_ 0 (.int .i64 v)).frozen 0
             have KM2 : Hid (Blk ((wI.setCell ⟨bm, 0, none⟩ (.int .i64 v)).setCell ⟨bm, 0, none⟩ (.int .i64 g0)) bm 56 (mK g0 g1 g2 1)) := Lib.hid ((HM.out.set_ 0 (.int .i64 v)).set_ 0 (.int .i64 g0))
             have KT2 : Hid (Blk ((wI.setCell ⟨bm, 0, none⟩ (.int .i64 v)).setCell ⟨bm, 0, none⟩ (.int .i64 g0)) bt 56 #[.int .i64 ta, .int .i64 tb, .int .i64 tc]) := Lib.hid ((KTq.out.far (p := ⟨bm, 0, none⟩) HTM.out _).far (p := ⟨bm, 0, none⟩) HTM.out _)
             have KS2 : Hid (Blk ((wI.setCell ⟨bm, 0, none⟩ (.int .i64 v)).setCell ⟨bm, 0, none⟩ (.int .i64 g0)) b1 24 #[.int .i64 N, .slice (some ad) n c]) := Lib.hid ((KSq.out.far (p := ⟨bm, 0, none⟩) HSM.out _).far (p := ⟨bm, 0, none⟩) HSM.out _)
             have KX2 : Hid (Blk ((wI.setCell ⟨bm, 0, none⟩ (.int .i64 v)).setCell ⟨bm, 0, none⟩ (.int .i64 g0)) b2 24 #[.int .i64 M, .slice Ax nx cx]) := Lib.hid ((KXq.out.far (p := ⟨bm, 0, none⟩) HXM.out _).far (p := ⟨bm, 0, none⟩) HXM.out _)
             have HB2 : Hid (Below w.heap.size w ((wI.setCell ⟨bm, 0, none⟩ (.int .i64 v)).setCell ⟨bm, 0, none⟩ (.int .i64 g0))) := Lib.hid (bw_set (bw_set HBq.out HGM.out _) HGM.out _)
             subst hAt
             clear hxn hcell halt hlt
             go_wp2_with fail
             go_roundw
             case rel => exact ⟨1, by omega, by go_num, KM2, KT2, KS2, KX2, HB2⟩
             case measure => simp [intOf]
           · exfalso
             omega
          ·
           have f0 : wI.frozen? ⟨bm, 1, none⟩ = false := HM.out.frozen 1
           have c0 : wI.cell? ⟨bm, 1, none⟩ = some (.int .i64 0) := HM.out.cell 1
           have hset : (mK g0 g1 g2 1).setIfInBounds 1 (.int .i64 g1) = mK g0 g1 g2 2 := rfl
           by_cases hlt : tb < (i : Int)
           · obtain ⟨al, xn, hAt, halb, hxn, hxi, hcell⟩ := HG1.out wI g1 HBq.out hlt
             have hcell := hcell rfl
             have hxI : (xn : Int) < (i : Int) := by omega
             have halt : (al.add xn).block < w.heap.size := by rw [block_of_add]; exact halb
             have hne : (al.add xn).block ≠ bm := by have := HGM.out; omega
             have y1 : (wI.setCell ⟨bm, 1, none⟩ (.int .i64 v)).cell? (al.add xn) = some (.int .i64 g1) := (World.cell?_of_block (Below.heap_setCell wI ⟨bm, 1, none⟩ (.int .i64 v) _ hne)).trans hcell
             have y2 : (wI.setCell ⟨bm, 1, none⟩ (.int .i64 v)).cell? ⟨bt, 1, none⟩ = some (.int .i64 (xn : Int)) := by rw [← hxn]; exact (KTq.out.far (p := ⟨bm, 1, none⟩) HTM.out _).cell 1
             have c1 : (wI.setCell ⟨bm, 1, none⟩ (.int .i64 v)).cell? ⟨bm, 1, none⟩ = some (.int .i64 v) := (HM.out.set_ 1 (.int .i64 v)).cell 1
             have f1 : (wI.setCell ⟨bm, 1, none⟩ (.int .i64 v)).frozen? ⟨bm, 1, none⟩ = false := (HM.out.set_ 1 (.int .i64 v)).frozen 1
             have KM2 : Hid (Blk ((wI.setCell ⟨bm, 1, none⟩ (.int .i64 v)).setCell ⟨bm, 1, none⟩ (.int .i64 g1)) bm 56 (mK g0 g1 g2 2)) := Lib.hid ((HM.out.set_ 1 (.int .i64 v)).set_ 1 (.int .i64 g1))
             have KT2 : Hid (Blk ((wI.setCell ⟨bm, 1, none⟩ (.int .i64 v)).setCell ⟨bm, 1, none⟩ (.int .i64 g1)) bt 56 #[.int .i64 ta, .int .i64 tb, .int .i64 tc]) := Lib.hid ((KTq.out.far (p := ⟨bm, 1, none⟩) HTM.out _).far (p := ⟨bm, 1, none⟩) HTM.out _)
             have KS2 : Hid (Blk ((wI.setCell ⟨bm, 1, none⟩ (.int .i64 v)).setCell ⟨bm, 1, none⟩ (.int .i64 g1)) b1 24 #[.int .i64 N, .slice (some ad) n c]) := Lib.hid ((KSq.out.far (p := ⟨bm, 1, none⟩) HSM.out _).far (p := ⟨bm, 1, none⟩) HSM.out _)
             have KX2 : Hid (Blk ((wI.setCell ⟨bm, 1, none⟩ (.int .i64 v)).setCell ⟨bm, 1, none⟩ (.int .i64 g1)) b2 24 #[.int .i64 M, .slice Ax nx cx]) := Lib.hid ((KXq.out.far (p := ⟨bm, 1, none⟩) HXM.out _).far (p := ⟨bm, 1, none⟩) HXM.out _)
             have HB2 : Hid (Below w.heap.size w ((wI.setCell ⟨bm, 1, none⟩ (.int .i64 v)).setCell ⟨bm, 1, none⟩ (.int .i64 g1))) := Lib.hid (bw_set (bw_set HBq.out HGM.out _) HGM.out _)
             subst hAt
             clear hxn hcell halt hlt
             go_wp2_with fail
             go_roundw
             case rel => exact ⟨2, by omega, by go_num, KM2, KT2, KS2, KX2, HB2⟩
             case measure => simp [intOf]
           · exfalso
             omega
          ·
           have f0 : wI.frozen? ⟨bm, 2, none⟩ = false := HM.out.frozen 2
           have c0 : wI.cell? ⟨bm, 2, none⟩ = some (.int .i64 0) := HM.out.cell 2
           have hset : (mK g0 g1 g2 2).setIfInBounds 2 (.int .i64 g2) = mK g0 g1 g2 3 := rfl
           by_cases hlt : tc < (i : Int)
           · obtain ⟨al, xn, hAt, halb, hxn, hxi, hcell⟩ := HG2.out wI g2 HBq.out hlt
             have hcell := hcell rfl
             have hxI : (xn : Int) < (i : Int) := by omega
             have halt : (al.add xn).block < w.heap.size := by rw [block_of_add]; exact halb
             have hne : (al.add xn).block ≠ bm := by have := HGM.out; omega
             have y1 : (wI.setCell ⟨bm, 2, none⟩ (.int .i64 v)).cell? (al.add xn) = some (.int .i64 g2) := (World.cell?_of_block (Below.heap_setCell wI ⟨bm, 2, none⟩ (.int .i64 v) _ hne)).trans hcell
             have y2 : (wI.setCell ⟨bm, 2, none⟩ (.int .i64 v)).cell? ⟨bt, 2, none⟩ = some (.int .i64 (xn : Int)) := by rw [← hxn]; exact (KTq.out.far (p := ⟨bm, 2, none⟩) HTM.out _).cell 2
             have c1 : (wI.setCell ⟨bm, 2, none⟩ (.int .i64 v)).cell? ⟨bm, 2, none⟩ = some (.int .i64 v) := (HM.out.set_ 2 (.int .i64 v)).cell 2
             have f1 : (wI.setCell ⟨bm, 2, none⟩ (.int .i64 v)).frozen? ⟨bm, 2, none⟩ = false := (HM.out.set_ 2 (.int .i64 v)).frozen 2
             have KM2 : Hid (Blk ((wI.setCell ⟨bm, 2, none⟩ (.int .i64 v)).setCell ⟨bm, 2, none⟩ (.int .i64 g2)) bm 56 (mK g0 g1 g2 3)) := Lib.hid ((HM.out.set_ 2 (.int .i64 v)).set_ 2 (.int .i64 g2))
             have KT2 : Hid (Blk ((wI.setCell ⟨bm, 2, none⟩ (.int .i64 v)).setCell ⟨bm, 2, none⟩ (.int .i64 g2)) bt 56 #[.int .i64 ta, .int .i64 tb, .int .i64 tc]) := Lib.hid ((KTq.out.far (p := ⟨bm, 2, none⟩) HTM.out _).far (p := ⟨bm, 2, none⟩) HTM.out _)
             have KS2 : Hid (Blk ((wI.setCell ⟨bm, 2, none⟩ (.int .i64 v)).setCell ⟨bm, 2, none⟩ (.int .i64 g2)) b1 24 #[.int .i64 N, .slice (some ad) n c]) := Lib.hid ((KSq.out.far (p := ⟨bm, 2, none⟩) HSM.out _).far (p := ⟨bm, 2, none⟩) HSM.out _)
             have KX2 : Hid (Blk ((wI.setCell ⟨bm, 2, none⟩ (.int .i64 v)).setCell ⟨bm, 2, none⟩ (.int .i64 g2)) b2 24 #[.int .i64 M, .slice Ax nx cx]) := Lib.hid ((KXq.out.far (p := ⟨bm, 2, none⟩) HXM.out _).far (p := ⟨bm, 2, none⟩) HXM.out _)
             have HB2 : Hid (Below w.heap.size w ((wI.setCell ⟨bm, 2, none⟩ (.int .i64 v)).setCell ⟨bm, 2, none⟩ (.int .i64 g2))) := Lib.hid (bw_set (bw_set HBq.out HGM.out _) HGM.out _)
             subst hAt
             clear hxn hcell halt hlt
             go_wp2_with fail
             go_roundw
             case rel => exact ⟨3, by omega, by go_num, KM2, KT2, KS2, KX2, HB2⟩
             case measure => simp [intOf]
           · have hv := HV2.out (by omega)
             have y2 : (wI.setCell ⟨bm, 2, none⟩ (.int .i64 v)).cell? ⟨bt, 2, none⟩ = some (.int .i64 tc) := (KTq.out.far (p := ⟨bm, 2, none⟩) HTM.out _).cell 2
             have KM2 : Hid (Blk (wI.setCell ⟨bm, 2, none⟩ (.int .i64 v)) bm 56 (mK g0 g1 g2 3)) := Lib.hid (by rw [← hset, hv]; exact HM.out.set_ 2 (.int .i64 v))
             have KT2 : Hid (Blk (wI.setCell ⟨bm, 2, none⟩ (.int .i64 v)) bt 56 #[.int .i64 ta, .int .i64 tb, .int .i64 tc]) := Lib.hid (KTq.out.far (p := ⟨bm, 2, none⟩) HTM.out _)
             have KS2 : Hid (Blk (wI.setCell ⟨bm, 2, none⟩ (.int .i64 v)) b1 24 #[.int .i64 N, .slice (some ad) n c]) := Lib.hid (KSq.out.far (p := ⟨bm, 2, none⟩) HSM.out _)
             have KX2 : Hid (Blk (wI.setCell ⟨bm, 2, none⟩ (.int .i64 v)) b2 24 #[.int .i64 M, .slice Ax nx cx]) := Lib.hid (KXq.out.far (p := ⟨bm, 2, none⟩) HXM.out _)
             have HB2 : Hid (Below w.heap.size w (wI.setCell ⟨bm, 2, none⟩ (.int .i64 v))) := Lib.hid (bw_set HBq.out HGM.out _)
             clear hv
             go_wp2_with fail
             go_roundw
             case rel => exact ⟨3, by omega, by go_num, KM2, KT2, KS2, KX2, HB2⟩
             case measure => simp [intOf]
          · have m0 : wI.cell? ⟨bm, 0, none⟩ = some (.int .i64 g0) := HM.out.cell 0
            have m1 : wI.cell? ⟨bm, 1, none⟩ = some (.int .i64 g1) := HM.out.cell 1
            have m2 : wI.cell? ⟨bm, 2, none⟩ = some (.int .i64 g2) := HM.out.cell 2
            have x0 : wI.cell? ⟨b2, 0, none⟩ = some (.int .i64 M) := KXq.out.cell 0
            have x1 : wI.cell? ⟨b2, 1, none⟩ = some (.slice Ax nx cx) := KXq.out.cell 1
            have HIT := Lib.hid (HIS.out g0 g1 g2 wI HBq.out)
            obtain ⟨qi, hqi⟩ : ∃ q, q = isT U g0 g1 g2 := ⟨_, rfl⟩
            rw [← hqi] at HIT HTI2
            clear hqi
            cases qi with
            | false =>
             have hr := HNF2.out HTI2.out
             subst hr
             go_wp2_with fail
             refine HIT.out.mono ?_
             rintro e w9 ⟨rfl, hb⟩
             have HB9 := Lib.hid (bw_call HBq.out hb)
             clear hb
             go_wp2_with fail
             go_ret
             exact ⟨rfl, HB9.out⟩
            | true =>
             have HP2 := Lib.hid (HYES.out HTI2.out)
             go_wp2_with fail
             refine HIT.out.mono ?_
             rintro e w9 ⟨rfl, hb⟩
             have HB9 := Lib.hid (bw_call HBq.out hb)
             have KS9 := Lib.hid (KSq.out.below hb KSq.out.lt)
             have KX9 := Lib.hid (KXq.out.below hb KXq.out.lt)
             clear hb
             go_wp2_with fail
             go_roundw
             case rel => exact ⟨j + 1, by omega, by go_num, HP2, KS9, KX9, HB9⟩
             case measure => simp [intOf]; omega
       have hHb : (tc != (i : Int)) = true := by simp [hH]
       have HP2 := Lib.hid (HYES.out (by
        show (triOff i ⟨ta, tb, tc⟩ || _) = true
        unfold triOff
        rw [decide_eq_true (Or.inr (Or.inr (Or.inr ⟨hE, hF, hH⟩)))]
        rfl))
       clear t0 t1 t2
       have t0 : wG.cell? ⟨bt, 0, none⟩ = some (.int .i64 ta) := KTG.out.cell 0
       have t1 : wG.cell? ⟨bt, 1, none⟩ = some (.int .i64 tb) := KTG.out.cell 1
       have t2 : wG.cell? ⟨bt, 2, none⟩ = some (.int .i64 tc) := KTG.out.cell 2
       go_wp2_with fail
       go_roundw
       case rel => exact ⟨j + 1, by omega, by go_num, HP2, KSG, KXG, HBG⟩
       case measure => simp [intOf]; omega
     · obtain rfl : j = n := by omega
       have hjI : ¬ (j : Int) < (j : Int) := by omega
       have hr : r = true := by
        rw [← HR.out]
        unfold fitsR
        rw [Bool.and_eq_true, List.all_eq_true, List.all_eq_true, ← HK.out]
        refine ⟨fun u hu => HP.out u (List.mem_range.1 hu), fun t ht => HJ.out t ?_⟩
        rw [HN.out, List.take_length]
        exact ht
       subst hr
       go_wp2_with fail
       go_ret
       exact ⟨rfl, HBj.out⟩
end Go.Proofs.YtiajlmajenabiaaGreat
