/- The document's Group of layer 47, walked. No condition but sizes. -/
import Derived.Test.YtiajlmajenabiaaGreatGrpC
namespace Go.Proofs.YtiajlmajenabiaaGreat
open Go.RowKit

set_option linter.unusedSimpArgs false
set_option linter.unusedVariables false
attribute [local irreducible] Blk World.alloc World.setCell World.cell? World.frozen? MapV MapI
set_option maxRecDepth 100000 in
set_option maxHeartbeats 8000000 in
theorem renum_any (n : Int) (B : Nat) (A : Option Addr) (c : Nat) (l : List Int) (w : World) (hmx : l.length ≤ 1000000) (h : Reads w B 1 A l.length (ZL l)) :
    Calls Tryz.prog 69 #[.int .i64 n, .slice A l.length c] w (DrPost w (decide (PermI n l))) := by
  have H := Lib.hid h
  obtain ⟨N, hN⟩ : ∃ N, N = l.length := ⟨_, rfl⟩
  obtain ⟨r, hr⟩ : ∃ r, r = decide (PermI n l) := ⟨_, rfl⟩
  rw [← hN, ← hr]
  rw [← hN] at hmx
  have HN := Lib.hid hN
  have HR := Lib.hid hr
  clear h hN hr
  go_enter Tryz.func69, Tryz.ntmps69
  by_cases hn : (N : Int) = n
  · have hb : ((N : Int) != n) = false := by simp [hn]
    have HNI := Lib.hid hn
    clear hn
    go_wp2_with fail
    go_loopw [5] (fun iv wr => ∃ i q : Nat, i ≤ N ∧ iv = .int .i64 (i : Int) ∧ Hid ((∀ x ∈ l.take i, 0 ≤ x ∧ x < n) ∧ (l.take i).Nodup) ∧ wr = w.drewN q) (fun iv _ => N - (intOf iv).toNat)
    case atStart => exact ⟨0, 0, by omega, rfl, Lib.hid ⟨fun x hx => by simp at hx, by simp⟩, rfl⟩
    case round =>
      obtain ⟨i, q, hi, rfl, HP, rfl⟩ := hrel
      by_cases hiN : i < N
      · have hii : (i : Int) < (N : Int) := by omega
        obtain ⟨ad, x, hA, had, hx, hc⟩ := zl_read H.out (show i < l.length by rw [← HN.out]; exact hiN)
        have HX := Lib.hid hx
        have HTK : Hid (l.take (i + 1) = l.take i ++ [x]) := Lib.hid (by rw [List.take_add_one, hx]; rfl)
        have HXM := Lib.hid (List.mem_of_getElem? hx)
        subst hA
        clear hx
        have no : (¬ (0 ≤ x ∧ x < n) ∨ x ∈ l.take i) → Hid (r = false) := fun h => Lib.hid (by
          rw [HR.out]
          refine decide_eq_false fun hp => ?_
          rcases h with h | h
          · exact h (hp.2.1 x HXM.out)
          · have hnd := hp.2.2
            have hx' := HX.out
            rw [← List.take_append_drop i l] at hnd
            have hd : x ∈ l.drop i := by
              have hkl : i < l.length := by rw [← HN.out]; exact hiN
              rw [List.drop_eq_getElem_cons hkl]
              rw [List.getElem?_eq_getElem hkl] at hx'
              injection hx' with hx'
              rw [hx']; exact List.mem_cons_self
            exact (List.nodup_append.1 hnd).2.2 x h x hd rfl)
        have NO := Lib.hid no
        clear no
        by_cases hx0 : x < 0
        · have HF := NO.out (.inl (by omega))
          go_wp2_with fail
          go_ret
          exact ⟨by rw [HF.out]; rfl, q, rfl⟩
        · by_cases hxn : n ≤ x
          · have HF := NO.out (.inl (by omega))
            go_wp2_with fail
            go_ret
            exact ⟨by rw [HF.out]; rfl, q, rfl⟩
          · go_wp2_with fail
            go_loopw [6] (fun kv wr => ∃ k p : Nat, k ≤ i ∧ kv = .int .i64 (k : Int) ∧ Hid (x ∉ l.take k) ∧ wr = w.drewN p) (fun kv _ => i - (intOf kv).toNat)
            case atStart => exact ⟨0, q, by omega, rfl, Lib.hid (by simp), rfl⟩
            case round =>
              obtain ⟨k, p, hk, rfl, HQ, rfl⟩ := hrel
              by_cases hki : k < i
              · have hkk : (k : Int) < (i : Int) := by omega
                have hkN : (k : Int) < (N : Int) := by omega
                obtain ⟨ad2, y, hA2, had2, hy, hc2⟩ := zl_read H.out (show k < l.length by rw [← HN.out]; omega)
                injection hA2 with hA2
                rw [← hA2] at hc2
                have HY := Lib.hid hy
                clear hy hA2
                by_cases hyx : y = x
                · have hb2 : (y == x) = true := by simp [hyx]
                  have HF := NO.out (.inr (by
                    have h1 := HY.out
                    rw [hyx] at h1
                    exact List.mem_of_getElem? (i := k) (by rw [List.getElem?_take_of_lt hki]; exact h1)))
                  clear hyx
                  go_wp2_with fail
                  go_quiet (fail)
                  go_wp2_with fail
                  go_ret
                  exact ⟨by rw [HF.out]; rfl, _, World.drewN_drewN _ _ _⟩
                · have hb2 : (y == x) = false := by simp [hyx]
                  have HQ2 : Hid (x ∉ l.take (k + 1)) := Lib.hid (by
                    rw [List.take_add_one, HY.out]
                    intro h
                    rcases List.mem_append.1 h with h | h
                    · exact HQ.out h
                    · exact hyx (List.mem_singleton.1 (by simpa using h)).symm)
                  clear hyx
                  go_wp2_with fail
                  go_quiet (fail)
                  go_wp2_with fail
                  go_roundw
                  case rel => exact ⟨k + 1, _, by omega, by go_num, HQ2, rfl⟩
                  case measure => simp [intOf]; omega
              · obtain rfl : k = i := by omega
                have HP2 : Hid ((∀ x ∈ l.take (k + 1), 0 ≤ x ∧ x < n) ∧ (l.take (k + 1)).Nodup) := Lib.hid (by
                  rw [HTK.out]
                  refine ⟨fun z hz => ?_, ?_⟩
                  · rcases List.mem_append.1 hz with hz | hz
                    · exact HP.out.1 z hz
                    · rw [List.mem_singleton.1 hz]; omega
                  · rw [List.nodup_append]
                    exact ⟨HP.out.2, by simp, fun a ha b hb e => HQ.out (by rw [← List.mem_singleton.1 hb, ← e]; exact ha)⟩)
                go_wp2_with fail
                go_roundw
                case rel => exact ⟨k + 1, p, by omega, by go_num, HP2, rfl⟩
                case measure => simp [intOf]; omega
      · obtain rfl : i = N := by omega
        have HF : Hid (r = true) := Lib.hid (by
          rw [HR.out]
          have h1 := HP.out
          rw [HN.out, List.take_length] at h1
          exact decide_eq_true ⟨by rw [← HN.out]; exact HNI.out, h1.1, h1.2⟩)
        go_wp2_with fail
        go_ret
        exact ⟨by rw [HF.out]; rfl, q, rfl⟩
  · have hb : ((N : Int) != n) = true := by simp [hn]
    have HF : Hid (r = false) := Lib.hid (by rw [HR.out]; exact decide_eq_false fun hp => hn (by rw [HN.out]; exact hp.1))
    go_wp2_with fail
    go_ret
    exact ⟨by rw [HF.out]; rfl, 0, rfl⟩
set_option maxRecDepth 100000 in
set_option maxHeartbeats 8000000 in
theorem in_any (B B2 : Nat) (A A2 : Option Addr) (n c c2 : Nat) (L : List Way) (a : List Int) (w : World) (hmx : n ≤ 100000) (hn : n ≤ L.length) (hmy : ∀ x ∈ L, x.2.length ≤ 100000) (h : RowsIn w B A L.length L) (ha : Reads w B2 1 A2 a.length (ZL a)) :
    Calls Tryz.prog 70 #[.slice A n c, .slice A2 a.length c2] w (BoolPost w (decide (a ∈ (L.take n).map Prod.snd))) := by
  have H := Lib.hid h
  have HA := Lib.hid ha
  have HM := Lib.hid hmy
  obtain ⟨r, hr⟩ : ∃ r, r = decide (a ∈ (L.take n).map Prod.snd) := ⟨_, rfl⟩
  obtain ⟨na, hna⟩ : ∃ n, n = a.length := ⟨_, rfl⟩
  rw [← hr, ← hna]
  have HR := Lib.hid hr
  have HNA := Lib.hid hna
  clear h ha hmy hr hna
  go_enter Tryz.func70, Tryz.ntmps70
  go_wp2_with fail
  go_loopw [5] (fun iv wr => ∃ i q : Nat, i ≤ n ∧ iv = .int .i64 (i : Int) ∧ Hid (a ∉ (L.take i).map Prod.snd) ∧ wr = w.drewN q) (fun iv _ => n - (intOf iv).toNat)
  case atStart => exact ⟨0, 0, by omega, rfl, Lib.hid (by simp), rfl⟩
  case round =>
    obtain ⟨i, q, hi, rfl, HP, rfl⟩ := hrel
    by_cases hin : i < n
    · have hii : (i : Int) < (n : Int) := by omega
      obtain ⟨ad, hAd, hLi, hmem, y, _⟩ := H.out.at_ (k := i) (by omega)
      obtain ⟨x, hx⟩ : ∃ x, x = wayAt L i := ⟨_, rfl⟩
      rw [← hx] at hLi hmem y
      have he := H.out.each x hmem
      have hxl := HM.out x hmem
      have HEQ : Hid (Calls Tryz.prog 33 #[wayC x, .slice A2 na c2] (w.drewN q) (DrPost (w.drewN q) (decide (x.2 = a)))) := Lib.hid (by rw [HNA.out]; exact refInts_any x.2 a B B2 x.1.1 A2 x.1.2 c2 (w.drewN q) (by omega) (he.1.drewN q) (HA.out.drewN q))
      have HT : Hid ((L.take (i + 1)).map Prod.snd = (L.take i).map Prod.snd ++ [x.2]) := Lib.hid (by rw [List.take_add_one, hLi, List.map_append]; rfl)
      obtain ⟨⟨xa, xc⟩, xl⟩ := x
      unfold wayC at y HEQ
      dsimp only at y HEQ
      subst hAd
      clear hx hLi hmem he hxl
      by_cases hxa : xl = a
      · rw [decide_eq_true hxa] at HEQ
        have HF : Hid (r = true) := Lib.hid (by
          rw [HR.out]
          refine decide_eq_true ?_
          have h1 : a ∈ (L.take (i + 1)).map Prod.snd := by rw [HT.out]; simp [hxa]
          obtain ⟨z, hz, e⟩ := List.mem_map.1 h1
          exact List.mem_map.2 ⟨z, List.mem_of_mem_take (by rw [show L.take (i + 1) = (L.take n).take (i + 1) by rw [List.take_take, Nat.min_eq_left (by omega)]] at hz; exact hz), e⟩)
        clear hxa
        go_wp2_with fail
        refine HEQ.out.mono ?_
        rintro e w1 ⟨rfl, p, rfl⟩
        go_wp2_with fail
        go_ret
        exact ⟨by rw [HF.out]; rfl, below_drewN (Below.refl _ _) _⟩
      · rw [decide_eq_false hxa] at HEQ
        have HP2 : Hid (a ∉ (L.take (i + 1)).map Prod.snd) := Lib.hid (by
          rw [HT.out]
          intro h
          rcases List.mem_append.1 h with h | h
          · exact HP.out h
          · exact hxa (List.mem_singleton.1 h).symm)
        clear hxa
        go_wp2_with fail
        refine HEQ.out.mono ?_
        rintro e w1 ⟨rfl, p, rfl⟩
        go_wp2_with fail
        go_roundw
        case rel => exact ⟨i + 1, _, by omega, by go_num, HP2, rfl⟩
        case measure => simp [intOf]; omega
    · obtain rfl : i = n := by omega
      have HF : Hid (r = false) := Lib.hid (by rw [HR.out]; exact decide_eq_false HP.out)
      go_wp2_with fail
      go_ret
      exact ⟨by rw [HF.out]; rfl, below_drewN (Below.refl _ _) q⟩
set_option maxRecDepth 100000 in
set_option maxHeartbeats 8000000 in
theorem behind_any (B B2 : Nat) (A A2 : Option Addr) (c c2 : Nat) (a b : List Int) (w : World) (hmx : a.length ≤ 100000) (hB : B ≤ w.heap.size) (hB2 : B2 ≤ w.heap.size) (h : Reads w B 1 A a.length (ZL a)) (h2 : Reads w B2 1 A2 b.length (ZL b)) (hab : ∀ x ∈ a, 0 ≤ x ∧ x < (b.length : Int)) :
    Calls Tryz.prog 71 #[.slice A a.length c, .slice A2 b.length c2] w (IntsPost47 w (compL a b)) := by
  have H := Lib.hid (h.more hB)
  have H2 := Lib.hid (h2.more hB2)
  have HAB := Lib.hid hab
  obtain ⟨na, hna⟩ : ∃ n, n = a.length := ⟨_, rfl⟩
  obtain ⟨nb, hnb⟩ : ∃ n, n = b.length := ⟨_, rfl⟩
  rw [← hna, ← hnb]
  rw [← hna] at hmx
  have HNA := Lib.hid hna
  have HNB := Lib.hid hnb
  clear h h2 hab hna hnb
  obtain ⟨i0, hi0, hz0, hz1, hz2⟩ := info_parts int_infoC
  go_enter Tryz.func71, Tryz.ntmps71
  go_wp2_with fail
  go_loopw [5, 6] (fun ov iv wr => ∃ (i co : Nat) (Ao : Option Addr), i ≤ na ∧ ov = .slice Ao i co ∧ iv = .int .i64 (i : Int) ∧ Hid (wr.ownsRow w.heap.size 3 1 (.slice Ao i co) i (ZL (compL (a.take i) b))) ∧ Hid (Below w.heap.size w wr)) (fun _ iv _ => na - (intOf iv).toNat)
  case atStart => exact ⟨0, 0, none, by omega, rfl, rfl, Lib.hid (by simpa [compL, ZL] using World.ownsRow_nil _ _ _ _), Lib.hid (Below.refl _ _)⟩
  case round =>
    obtain ⟨i, co, Ao, hi, rfl, rfl, HOr, HBr⟩ := hrel
    obtain ⟨wE, hwE⟩ : ∃ wE : World, wE = wr := ⟨_, rfl⟩
    rw [← hwE] at HOr HBr ⊢
    clear hwE
    by_cases hin : i < na
    · have hii : (i : Int) < (na : Int) := by omega
      obtain ⟨ad, x, hA, _, hx, d1⟩ := zl_read (H.out.below HBr.out) (show i < a.length by rw [← HNA.out]; exact hin)
      have hxr := HAB.out x (List.mem_of_getElem? hx)
      obtain ⟨xn, rfl⟩ : ∃ q : Nat, x = (q : Int) := ⟨x.toNat, by omega⟩
      obtain ⟨ae, y, hA2, _, hy, d2⟩ := zl_read (H2.out.below HBr.out) (show xn < b.length by omega)
      have hxi : (xn : Int) < (nb : Int) := by have := HNB.out; omega
      have HT : Hid (compL (a.take (i + 1)) b = compL (a.take i) b ++ [y]) := Lib.hid (by
        unfold compL
        rw [List.take_add_one, hx, List.map_append]
        simp [List.getD, hy])
      subst hA hA2
      clear hx hy hxr
      go_wp2_with (at_builtin; go_must (refine wpList_append_sl _ rfl (.tmp 13) (.tmp 21) _ rfl w.heap.size 3 i0 _ 1 8 Tryz.underlying25 hi0 hz0 hz1 hz2 rfl (by omega) (.slice Ao i co) i (ZL (compL (a.take i) b)) rfl (own_up HOr.out _) (wE.heap.size + 1) (some ⟨wE.heap.size, 0, none⟩) 1 1 [.int .i64 y] rfl (reads_newN _ _ _ 1 1 rfl rfl) (by simp [Value.oneCell']) (by simp only [maxLen]; omega) (by omega) (bw_size (bw_alloc HBr.out _)) ?_); intro A5 c5 w5 hown5 hg5 hat5)
      have HO5 : Hid (w5.ownsRow w.heap.size 3 1 (.slice A5 (i + 1) c5) (i + 1) (ZL (compL (a.take (i + 1)) b))) := Lib.hid (by
        rw [HT.out]
        unfold ZL at hown5 ⊢
        rw [List.map_append]
        exact hown5)
      have HB5 : Hid (Below w.heap.size w w5) := Lib.hid (bw_grow (bw_alloc HBr.out _) hg5 fun x hx => (World.ownsRow.lt HOr.out x hx).1)
      go_roundw
      case rel => exact ⟨i + 1, c5, A5, by omega, rfl, by go_num, HO5, HB5⟩
      case measure => simp [intOf]; omega
    · obtain rfl : i = na := by omega
      have HF : Hid (IR wE w.heap.size Ao co (compL a b)) := Lib.hid (by
        have h1 := HOr.out
        rw [HNA.out, List.take_length] at h1
        unfold IR
        rw [show (compL a b).length = a.length from List.length_map _]
        exact h1)
      have HL : Hid (i = (compL a b).length) := Lib.hid (by rw [show (compL a b).length = a.length from List.length_map _]; exact HNA.out)
      go_wp2_with fail
      go_ret
      exact ⟨Ao, co, by rw [← HL.out]; rfl, HF.out, HBr.out⟩
set_option maxRecDepth 100000 in
set_option maxHeartbeats 8000000 in
theorem refGroup_any (n : Int) (A : Option Addr) (c : Nat) (L : List Way) (w : World) (hmx : L.length ≤ 100000) (hcap : L.length ≤ c) (hmy : ∀ x ∈ L, x.2.length ≤ 100000) (h : RowsIn w w.heap.size A L.length L) :
    Calls Tryz.prog 32 #[.int .i64 n, .slice A L.length c] w (BoolPost w (decide (GroupI n (L.map Prod.snd)))) := by
  have H := Lib.hid h
  have HM := Lib.hid hmy
  obtain ⟨r, hr⟩ : ∃ r, r = decide (GroupI n (L.map Prod.snd)) := ⟨_, rfl⟩
  obtain ⟨N, hN⟩ : ∃ N, N = L.length := ⟨_, rfl⟩
  rw [← hr, ← hN]
  rw [← hN] at hmx hcap
  have HN := Lib.hid hN
  have HR := Lib.hid hr
  have NO : Hid (¬ GroupI n (L.map Prod.snd) → r = false) := Lib.hid fun h => by rw [hr]; exact decide_eq_false h
  clear h hmy hr hN
  go_enter Tryz.func32, Tryz.ntmps32
  by_cases hn0 : n < 0
  · have HF : Hid (r = false) := Lib.hid (NO.out fun hg => by have := hg.1; omega)
    go_wp2_with fail
    go_ret
    exact ⟨by rw [HF.out]; rfl, Below.refl _ _⟩
  · by_cases hN0 : N = 0
    · have hz : ((N : Int) == 0) = true := by simp [hN0]
      have HF : Hid (r = false) := Lib.hid (NO.out fun hg => hg.2.1 (by have := HN.out; rw [hN0] at this; simp [List.length_eq_zero_iff.1 this.symm]))
      clear hN0
      go_wp2_with fail
      go_ret
      exact ⟨by rw [HF.out]; rfl, Below.refl _ _⟩
    · have hz : ((N : Int) == 0) = false := by simp [hN0]
      have HNP : Hid (0 < N) := Lib.hid (by omega)
      clear hN0
      go_wp2_with fail
      go_loopw [5] (fun iv wr => ∃ i : Nat, i ≤ N ∧ iv = .int .i64 (i : Int) ∧ Hid ((∀ x ∈ L.take i, PermI n x.2) ∧ ((L.take i).map Prod.snd).Nodup) ∧ Hid (Below w.heap.size w wr)) (fun iv _ => N - (intOf iv).toNat)
      case atStart => exact ⟨0, by omega, rfl, Lib.hid ⟨fun x hx => by simp at hx, by simp⟩, Lib.hid (Below.refl _ _)⟩
      case round =>
        obtain ⟨i, hi, rfl, HP, HBr⟩ := hrel
        obtain ⟨wE, hwE⟩ : ∃ wE : World, wE = wr := ⟨_, rfl⟩
        rw [← hwE] at HBr ⊢
        clear hwE
        by_cases hiN : i < N
        · have hii : (i : Int) < (N : Int) := by omega
          have hic : (i : Int) ≤ (c : Int) := by omega
          obtain ⟨ad, hAd, hLi, hmem, y, hadb⟩ := (H.out.below HBr.out).at_ (k := i) (by rw [← HN.out]; exact hiN)
          obtain ⟨x, hx⟩ : ∃ x, x = wayAt L i := ⟨_, rfl⟩
          rw [← hx] at hLi hmem y
          have HT : Hid (L.take (i + 1) = L.take i ++ [x]) := Lib.hid (by rw [List.take_add_one, hLi]; rfl)
          have HXM := Lib.hid hmem
          obtain ⟨⟨xa, xc⟩, xl⟩ := x
          obtain ⟨nx, hnx⟩ : ∃ n, n = xl.length := ⟨_, rfl⟩
          have hxl := HM.out _ hmem
          have HRN : Hid (∀ W, Below wE.heap.size wE W → Calls Tryz.prog 69 #[.int .i64 n, .slice xa nx xc] W (BoolPost W (decide (PermI n xl)))) := Lib.hid fun W hW => by
            rw [hnx]
            refine (renum_any n w.heap.size xa xc xl W (by dsimp only at hxl; omega) ((H.out.each _ hmem).1.below (HBr.out.trans (hW.mono HBr.out.size)))).mono ?_
            rintro e w' ⟨he, q, rfl⟩
            exact ⟨he, below_drewN (Below.refl _ _) q⟩
          have HIN : Hid (∀ W, Below wE.heap.size wE W → Calls Tryz.prog 70 #[.slice A i c, .slice xa nx xc] W (BoolPost W (decide (xl ∈ (L.take i).map Prod.snd)))) := Lib.hid fun W hW => by
            rw [hnx]
            have hB := HBr.out.trans (hW.mono HBr.out.size)
            exact in_any w.heap.size w.heap.size A xa i c xc L xl W (by omega) (by rw [← HN.out]; omega) HM.out (H.out.below hB) ((H.out.each _ hmem).1.below hB)
          have CAwE : Hid (CellQ wE (ad.add i) (.slice xa nx xc)) := Lib.hid ⟨by rw [hnx]; exact y, by rw [block_of_add]; exact Nat.lt_of_lt_of_le hadb HBr.out.size⟩
          have HBwE : Hid (Below wE.heap.size wE wE) := Lib.hid (Below.refl _ _)
          subst hAd
          clear y hx hLi hmem hadb hnx hxl
          by_cases hp : PermI n xl
          · rw [decide_eq_true hp] at HRN
            by_cases hin : xl ∈ (L.take i).map Prod.snd
            · rw [decide_eq_true hin] at HIN
              have HF : Hid (r = false) := Lib.hid (NO.out fun hg => by
                have hnd := hg.2.2.2.1
                have h1 : (L.map Prod.snd) = (L.take (i + 1)).map Prod.snd ++ (L.drop (i + 1)).map Prod.snd := by rw [← List.map_append, List.take_append_drop]
                rw [h1] at hnd
                have h2 := (List.nodup_append.1 hnd).1
                rw [HT.out, List.map_append] at h2
                exact (List.nodup_append.1 h2).2.2 xl hin xl (by simp) rfl)
              clear hin hp
              go_upto_region 6 with (fail)
              refine wp_region_held_drew (S := fun w' => w'.cell? (ad.add i) = some (.slice xa nx xc)) (by kernel_rfl) (CAwE.out.drew.c) (fun hHeld => ?_)
              refine held_take (i := 0) (v := ?v9) rfl (by kernel_rfl) (by kernel_rfl) (by kernel_rfl) (fun _ _ _ h => h) (Or.inl ⟨by rfl, ?hy9⟩) (by assumption) ?rest9
              case hy9 => (intro w hSw; (try dsimp only at hSw); go_simp; try with_reducible rfl)
              (try simp only [Act.put, List.setIfInBounds_toArray, List.set_cons_zero, List.set_cons_succ])
              refine held_take (i := 1) (v := ?v10) rfl (by kernel_rfl) (by kernel_rfl) (by kernel_rfl) (fun _ _ _ h => h) (Or.inl ⟨by rfl, ?hy10⟩) (by assumption) ?rest10
              case hy10 => (intro w hSw; (try dsimp only at hSw); go_simp; try with_reducible rfl)
              (try simp only [Act.put, List.setIfInBounds_toArray, List.set_cons_zero, List.set_cons_succ])
              refine held_take (i := 2) (v := ?v11) rfl (by kernel_rfl) (by kernel_rfl) (by kernel_rfl) (fun _ _ _ h => h) (Or.inl ⟨by rfl, ?hy11⟩) (by assumption) ?rest11
              case hy11 => (intro w hSw; (try dsimp only at hSw); go_simp; try with_reducible rfl)
              (try simp only [Act.put, List.setIfInBounds_toArray, List.set_cons_zero, List.set_cons_succ])
              refine held_take (i := 3) (v := ?v12) rfl (by kernel_rfl) (by kernel_rfl) (by kernel_rfl) (fun _ _ _ h => h) (Or.inl ⟨by rfl, ?hy12⟩) (by assumption) ?rest12
              case hy12 => (intro w hSw; (try dsimp only at hSw); go_simp; try with_reducible rfl)
              (try simp only [Act.put, List.setIfInBounds_toArray, List.set_cons_zero, List.set_cons_succ])
              refine held_take (i := 4) (v := ?v13) rfl (by kernel_rfl) (by kernel_rfl) (by kernel_rfl) (fun _ _ _ h => h) (Or.inl ⟨by rfl, ?hy13⟩) (by assumption) ?rest13
              case hy13 => (intro w hSw; (try dsimp only at hSw); go_simp; try with_reducible rfl)
              (try simp only [Act.put, List.setIfInBounds_toArray, List.set_cons_zero, List.set_cons_succ])
              refine wpAnyH_ready (rs := [5]) (by kernel_rfl) (by simp) ?_
              refine held_cons rfl (fun K hK => ?_) ?_
              · go_simp
                go_wp2_with (go_at_call 69; refine (HRN.out wE.drew (bw_drew HBwE.out)).mono ?_; rintro e v3 ⟨rfl, hb⟩)
                have CAv3 := Lib.hid (CAwE.out.drew.below hb)
                have HBv3 := Lib.hid (bw_call (bw_drew HBwE.out) hb)
                clear hb
                refine hK.out _ _ ?_ (fun hHeld => ?_)
                · exact (CAv3.out.c)
                clear hK K
                (try simp only [Act.put, List.setIfInBounds_toArray, List.set_cons_zero, List.set_cons_succ])
                refine held_take (i := 6) (v := ?v14) rfl (by kernel_rfl) (by kernel_rfl) (by kernel_rfl) (fun _ _ _ h => h) (Or.inl ⟨by rfl, ?hy14⟩) (by assumption) ?rest14
                case hy14 => (intro w hSw; (try dsimp only at hSw); go_simp; try with_reducible rfl)
                (try simp only [Act.put, List.setIfInBounds_toArray, List.set_cons_zero, List.set_cons_succ])
                refine held_take (i := 7) (v := ?v15) rfl (by kernel_rfl) (by kernel_rfl) (by kernel_rfl) (fun _ _ _ h => h) (Or.inl ⟨by rfl, ?hy15⟩) (by assumption) ?rest15
                case hy15 => (intro w hSw; (try dsimp only at hSw); go_simp; try with_reducible rfl)
                (try simp only [Act.put, List.setIfInBounds_toArray, List.set_cons_zero, List.set_cons_succ])
                refine held_take (i := 8) (v := ?v16) rfl (by kernel_rfl) (by kernel_rfl) (by kernel_rfl) (fun _ _ _ h => h) (Or.inl ⟨by rfl, ?hy16⟩) (by assumption) ?rest16
                case hy16 => (intro w hSw; (try dsimp only at hSw); go_simp; try with_reducible rfl)
                (try simp only [Act.put, List.setIfInBounds_toArray, List.set_cons_zero, List.set_cons_succ])
                refine held_take (i := 9) (v := ?v17) rfl (by kernel_rfl) (by kernel_rfl) (by kernel_rfl) (fun _ _ _ h => h) (Or.inl ⟨by rfl, ?hy17⟩) (by assumption) ?rest17
                case hy17 => (intro w hSw; (try dsimp only at hSw); go_simp; try with_reducible rfl)
                (try simp only [Act.put, List.setIfInBounds_toArray, List.set_cons_zero, List.set_cons_succ])
                refine held_take (i := 10) (v := ?v18) rfl (by kernel_rfl) (by kernel_rfl) (by kernel_rfl) (fun _ _ _ h => h) (Or.inl ⟨by rfl, ?hy18⟩) (by assumption) ?rest18
                case hy18 => (intro w hSw; (try dsimp only at hSw); go_simp; try with_reducible rfl)
                (try simp only [Act.put, List.setIfInBounds_toArray, List.set_cons_zero, List.set_cons_succ])
                refine held_take (i := 11) (v := ?v19) rfl (by kernel_rfl) (by kernel_rfl) (by kernel_rfl) (fun _ _ _ h => h) (Or.inl ⟨by rfl, ?hy19⟩) (by assumption) ?rest19
                case hy19 => (intro w hSw; (try dsimp only at hSw); go_simp; try with_reducible rfl)
                (try simp only [Act.put, List.setIfInBounds_toArray, List.set_cons_zero, List.set_cons_succ])
                refine held_take (i := 12) (v := ?v20) rfl (by kernel_rfl) (by kernel_rfl) (by kernel_rfl) (fun _ _ _ h => h) (Or.inl ⟨by rfl, ?hy20⟩) (by assumption) ?rest20
                case hy20 => (intro w hSw; (try dsimp only at hSw); go_simp; try with_reducible rfl)
                (try simp only [Act.put, List.setIfInBounds_toArray, List.set_cons_zero, List.set_cons_succ])
                refine held_take (i := 13) (v := ?v21) rfl (by kernel_rfl) (by kernel_rfl) (by kernel_rfl) (fun _ _ _ h => h) (Or.inl ⟨by rfl, ?hy21⟩) (by assumption) ?rest21
                case hy21 => (intro w hSw; (try dsimp only at hSw); go_simp; try with_reducible rfl)
                (try simp only [Act.put, List.setIfInBounds_toArray, List.set_cons_zero, List.set_cons_succ])
                refine held_take (i := 14) (v := ?v22) rfl (by kernel_rfl) (by kernel_rfl) (by kernel_rfl) (fun _ _ _ h => h) (Or.inl ⟨by rfl, ?hy22⟩) (by assumption) ?rest22
                case hy22 => (intro w hSw; (try dsimp only at hSw); go_simp; try with_reducible rfl)
                (try simp only [Act.put, List.setIfInBounds_toArray, List.set_cons_zero, List.set_cons_succ])
                refine wpAnyH_ready (rs := [15]) (by kernel_rfl) (by simp) ?_
                refine held_cons rfl (fun K hK => ?_) ?_
                · go_simp
                  go_wp2_with (go_at_call 70; refine (HIN.out v3 HBv3.out).mono ?_; rintro e v4 ⟨rfl, hb⟩)
                  have CAv4 := Lib.hid (CAv3.out.below hb)
                  have HBv4 := Lib.hid (bw_call HBv3.out hb)
                  clear hb CAv3 HBv3
                  refine hK.out _ _ ?_ (fun hHeld => ?_)
                  · exact (CAv4.out.c)
                  clear hK K
                  (try simp only [Act.put, List.setIfInBounds_toArray, List.set_cons_zero, List.set_cons_succ])
                  refine held_take (i := 16) (v := ?v23) rfl (by kernel_rfl) (by kernel_rfl) (by kernel_rfl) (fun _ _ _ h => h) (Or.inl ⟨by rfl, ?hy23⟩) (by assumption) ?rest23
                  case hy23 => (intro w hSw; (try dsimp only at hSw); go_simp; try with_reducible rfl)
                  (try simp only [Act.put, List.setIfInBounds_toArray, List.set_cons_zero, List.set_cons_succ])
                  refine wpAnyH_done (by kernel_rfl) ?_ _
                  go_wp2_with fail
                  go_ret
                  exact ⟨by rw [HF.out]; rfl, HBr.out.trans (HBv4.out.mono HBr.out.size)⟩
                exact AllReadyH.nil
              exact AllReadyH.nil
            · rw [decide_eq_false hin] at HIN
              have HP2 : Hid ((∀ x ∈ L.take (i + 1), PermI n x.2) ∧ ((L.take (i + 1)).map Prod.snd).Nodup) := Lib.hid (by
                rw [HT.out]
                refine ⟨fun z hz => ?_, ?_⟩
                · rcases List.mem_append.1 hz with hz | hz
                  · exact HP.out.1 z hz
                  · rw [List.mem_singleton.1 hz]; exact hp
                · rw [List.map_append, List.nodup_append]
                  refine ⟨HP.out.2, by simp, fun a ha b hb e => hin ?_⟩
                  have h1 : b = xl := by simpa using hb
                  rw [← h1, ← e]
                  exact ha)
              clear hin hp
              go_upto_region 6 with (fail)
              refine wp_region_held_drew (S := fun w' => w'.cell? (ad.add i) = some (.slice xa nx xc)) (by kernel_rfl) (CAwE.out.drew.c) (fun hHeld => ?_)
              refine held_take (i := 0) (v := ?v24) rfl (by kernel_rfl) (by kernel_rfl) (by kernel_rfl) (fun _ _ _ h => h) (Or.inl ⟨by rfl, ?hy24⟩) (by assumption) ?rest24
              case hy24 => (intro w hSw; (try dsimp only at hSw); go_simp; try with_reducible rfl)
              (try simp only [Act.put, List.setIfInBounds_toArray, List.set_cons_zero, List.set_cons_succ])
              refine held_take (i := 1) (v := ?v25) rfl (by kernel_rfl) (by kernel_rfl) (by kernel_rfl) (fun _ _ _ h => h) (Or.inl ⟨by rfl, ?hy25⟩) (by assumption) ?rest25
              case hy25 => (intro w hSw; (try dsimp only at hSw); go_simp; try with_reducible rfl)
              (try simp only [Act.put, List.setIfInBounds_toArray, List.set_cons_zero, List.set_cons_succ])
              refine held_take (i := 2) (v := ?v26) rfl (by kernel_rfl) (by kernel_rfl) (by kernel_rfl) (fun _ _ _ h => h) (Or.inl ⟨by rfl, ?hy26⟩) (by assumption) ?rest26
              case hy26 => (intro w hSw; (try dsimp only at hSw); go_simp; try with_reducible rfl)
              (try simp only [Act.put, List.setIfInBounds_toArray, List.set_cons_zero, List.set_cons_succ])
              refine held_take (i := 3) (v := ?v27) rfl (by kernel_rfl) (by kernel_rfl) (by kernel_rfl) (fun _ _ _ h => h) (Or.inl ⟨by rfl, ?hy27⟩) (by assumption) ?rest27
              case hy27 => (intro w hSw; (try dsimp only at hSw); go_simp; try with_reducible rfl)
              (try simp only [Act.put, List.setIfInBounds_toArray, List.set_cons_zero, List.set_cons_succ])
              refine held_take (i := 4) (v := ?v28) rfl (by kernel_rfl) (by kernel_rfl) (by kernel_rfl) (fun _ _ _ h => h) (Or.inl ⟨by rfl, ?hy28⟩) (by assumption) ?rest28
              case hy28 => (intro w hSw; (try dsimp only at hSw); go_simp; try with_reducible rfl)
              (try simp only [Act.put, List.setIfInBounds_toArray, List.set_cons_zero, List.set_cons_succ])
              refine wpAnyH_ready (rs := [5]) (by kernel_rfl) (by simp) ?_
              refine held_cons rfl (fun K hK => ?_) ?_
              · go_simp
                go_wp2_with (go_at_call 69; refine (HRN.out wE.drew (bw_drew HBwE.out)).mono ?_; rintro e v3 ⟨rfl, hb⟩)
                have CAv3 := Lib.hid (CAwE.out.drew.below hb)
                have HBv3 := Lib.hid (bw_call (bw_drew HBwE.out) hb)
                clear hb
                refine hK.out _ _ ?_ (fun hHeld => ?_)
                · exact (CAv3.out.c)
                clear hK K
                (try simp only [Act.put, List.setIfInBounds_toArray, List.set_cons_zero, List.set_cons_succ])
                refine held_take (i := 6) (v := ?v29) rfl (by kernel_rfl) (by kernel_rfl) (by kernel_rfl) (fun _ _ _ h => h) (Or.inl ⟨by rfl, ?hy29⟩) (by assumption) ?rest29
                case hy29 => (intro w hSw; (try dsimp only at hSw); go_simp; try with_reducible rfl)
                (try simp only [Act.put, List.setIfInBounds_toArray, List.set_cons_zero, List.set_cons_succ])
                refine held_take (i := 7) (v := ?v30) rfl (by kernel_rfl) (by kernel_rfl) (by kernel_rfl) (fun _ _ _ h => h) (Or.inl ⟨by rfl, ?hy30⟩) (by assumption) ?rest30
                case hy30 => (intro w hSw; (try dsimp only at hSw); go_simp; try with_reducible rfl)
                (try simp only [Act.put, List.setIfInBounds_toArray, List.set_cons_zero, List.set_cons_succ])
                refine held_take (i := 8) (v := ?v31) rfl (by kernel_rfl) (by kernel_rfl) (by kernel_rfl) (fun _ _ _ h => h) (Or.inl ⟨by rfl, ?hy31⟩) (by assumption) ?rest31
                case hy31 => (intro w hSw; (try dsimp only at hSw); go_simp; try with_reducible rfl)
                (try simp only [Act.put, List.setIfInBounds_toArray, List.set_cons_zero, List.set_cons_succ])
                refine held_take (i := 9) (v := ?v32) rfl (by kernel_rfl) (by kernel_rfl) (by kernel_rfl) (fun _ _ _ h => h) (Or.inl ⟨by rfl, ?hy32⟩) (by assumption) ?rest32
                case hy32 => (intro w hSw; (try dsimp only at hSw); go_simp; try with_reducible rfl)
                (try simp only [Act.put, List.setIfInBounds_toArray, List.set_cons_zero, List.set_cons_succ])
                refine held_take (i := 10) (v := ?v33) rfl (by kernel_rfl) (by kernel_rfl) (by kernel_rfl) (fun _ _ _ h => h) (Or.inl ⟨by rfl, ?hy33⟩) (by assumption) ?rest33
                case hy33 => (intro w hSw; (try dsimp only at hSw); go_simp; try with_reducible rfl)
                (try simp only [Act.put, List.setIfInBounds_toArray, List.set_cons_zero, List.set_cons_succ])
                refine held_take (i := 11) (v := ?v34) rfl (by kernel_rfl) (by kernel_rfl) (by kernel_rfl) (fun _ _ _ h => h) (Or.inl ⟨by rfl, ?hy34⟩) (by assumption) ?rest34
                case hy34 => (intro w hSw; (try dsimp only at hSw); go_simp; try with_reducible rfl)
                (try simp only [Act.put, List.setIfInBounds_toArray, List.set_cons_zero, List.set_cons_succ])
                refine held_take (i := 12) (v := ?v35) rfl (by kernel_rfl) (by kernel_rfl) (by kernel_rfl) (fun _ _ _ h => h) (Or.inl ⟨by rfl, ?hy35⟩) (by assumption) ?rest35
                case hy35 => (intro w hSw; (try dsimp only at hSw); go_simp; try with_reducible rfl)
                (try simp only [Act.put, List.setIfInBounds_toArray, List.set_cons_zero, List.set_cons_succ])
                refine held_take (i := 13) (v := ?v36) rfl (by kernel_rfl) (by kernel_rfl) (by kernel_rfl) (fun _ _ _ h => h) (Or.inl ⟨by rfl, ?hy36⟩) (by assumption) ?rest36
                case hy36 => (intro w hSw; (try dsimp only at hSw); go_simp; try with_reducible rfl)
                (try simp only [Act.put, List.setIfInBounds_toArray, List.set_cons_zero, List.set_cons_succ])
                refine held_take (i := 14) (v := ?v37) rfl (by kernel_rfl) (by kernel_rfl) (by kernel_rfl) (fun _ _ _ h => h) (Or.inl ⟨by rfl, ?hy37⟩) (by assumption) ?rest37
                case hy37 => (intro w hSw; (try dsimp only at hSw); go_simp; try with_reducible rfl)
                (try simp only [Act.put, List.setIfInBounds_toArray, List.set_cons_zero, List.set_cons_succ])
                refine wpAnyH_ready (rs := [15]) (by kernel_rfl) (by simp) ?_
                refine held_cons rfl (fun K hK => ?_) ?_
                · go_simp
                  go_wp2_with (go_at_call 70; refine (HIN.out v3 HBv3.out).mono ?_; rintro e v4 ⟨rfl, hb⟩)
                  have CAv4 := Lib.hid (CAv3.out.below hb)
                  have HBv4 := Lib.hid (bw_call HBv3.out hb)
                  clear hb CAv3 HBv3
                  refine hK.out _ _ ?_ (fun hHeld => ?_)
                  · exact (CAv4.out.c)
                  clear hK K
                  (try simp only [Act.put, List.setIfInBounds_toArray, List.set_cons_zero, List.set_cons_succ])
                  refine held_take (i := 16) (v := ?v38) rfl (by kernel_rfl) (by kernel_rfl) (by kernel_rfl) (fun _ _ _ h => h) (Or.inl ⟨by rfl, ?hy38⟩) (by assumption) ?rest38
                  case hy38 => (intro w hSw; (try dsimp only at hSw); go_simp; try with_reducible rfl)
                  (try simp only [Act.put, List.setIfInBounds_toArray, List.set_cons_zero, List.set_cons_succ])
                  refine wpAnyH_done (by kernel_rfl) ?_ _
                  have HBn : Hid (Below w.heap.size w v4) := Lib.hid (HBr.out.trans (HBv4.out.mono HBr.out.size))
                  go_wp2_with fail
                  go_roundw
                  case rel => exact ⟨i + 1, by omega, by go_num, HP2, HBn⟩
                  case measure => simp [intOf]; omega
                exact AllReadyH.nil
              exact AllReadyH.nil
          · rw [decide_eq_false hp] at HRN
            have HF : Hid (r = false) := Lib.hid (NO.out fun hg => hp (hg.2.2.1 _ (List.mem_map_of_mem (f := Prod.snd) HXM.out)))
            clear hp
            go_upto_region 6 with (fail)
            refine wp_region_held_drew (S := fun w' => w'.cell? (ad.add i) = some (.slice xa nx xc)) (by kernel_rfl) (CAwE.out.drew.c) (fun hHeld => ?_)
            refine held_take (i := 0) (v := ?v1) rfl (by kernel_rfl) (by kernel_rfl) (by kernel_rfl) (fun _ _ _ h => h) (Or.inl ⟨by rfl, ?hy1⟩) (by assumption) ?rest1
            case hy1 => (intro w hSw; (try dsimp only at hSw); go_simp; try with_reducible rfl)
            (try simp only [Act.put, List.setIfInBounds_toArray, List.set_cons_zero, List.set_cons_succ])
            refine held_take (i := 1) (v := ?v2) rfl (by kernel_rfl) (by kernel_rfl) (by kernel_rfl) (fun _ _ _ h => h) (Or.inl ⟨by rfl, ?hy2⟩) (by assumption) ?rest2
            case hy2 => (intro w hSw; (try dsimp only at hSw); go_simp; try with_reducible rfl)
            (try simp only [Act.put, List.setIfInBounds_toArray, List.set_cons_zero, List.set_cons_succ])
            refine held_take (i := 2) (v := ?v3) rfl (by kernel_rfl) (by kernel_rfl) (by kernel_rfl) (fun _ _ _ h => h) (Or.inl ⟨by rfl, ?hy3⟩) (by assumption) ?rest3
            case hy3 => (intro w hSw; (try dsimp only at hSw); go_simp; try with_reducible rfl)
            (try simp only [Act.put, List.setIfInBounds_toArray, List.set_cons_zero, List.set_cons_succ])
            refine held_take (i := 3) (v := ?v4) rfl (by kernel_rfl) (by kernel_rfl) (by kernel_rfl) (fun _ _ _ h => h) (Or.inl ⟨by rfl, ?hy4⟩) (by assumption) ?rest4
            case hy4 => (intro w hSw; (try dsimp only at hSw); go_simp; try with_reducible rfl)
            (try simp only [Act.put, List.setIfInBounds_toArray, List.set_cons_zero, List.set_cons_succ])
            refine held_take (i := 4) (v := ?v5) rfl (by kernel_rfl) (by kernel_rfl) (by kernel_rfl) (fun _ _ _ h => h) (Or.inl ⟨by rfl, ?hy5⟩) (by assumption) ?rest5
            case hy5 => (intro w hSw; (try dsimp only at hSw); go_simp; try with_reducible rfl)
            (try simp only [Act.put, List.setIfInBounds_toArray, List.set_cons_zero, List.set_cons_succ])
            refine wpAnyH_ready (rs := [5]) (by kernel_rfl) (by simp) ?_
            refine held_cons rfl (fun K hK => ?_) ?_
            · go_simp
              go_wp2_with (go_at_call 69; refine (HRN.out wE.drew (bw_drew HBwE.out)).mono ?_; rintro e v3 ⟨rfl, hb⟩)
              have CAv3 := Lib.hid (CAwE.out.drew.below hb)
              have HBv3 := Lib.hid (bw_call (bw_drew HBwE.out) hb)
              clear hb
              refine hK.out _ _ ?_ (fun hHeld => ?_)
              · exact (CAv3.out.c)
              clear hK K
              (try simp only [Act.put, List.setIfInBounds_toArray, List.set_cons_zero, List.set_cons_succ])
              refine held_take (i := 6) (v := ?v6) rfl (by kernel_rfl) (by kernel_rfl) (by kernel_rfl) (fun _ _ _ h => h) (Or.inl ⟨by rfl, ?hy6⟩) (by assumption) ?rest6
              case hy6 => (intro w hSw; (try dsimp only at hSw); go_simp; try with_reducible rfl)
              (try simp only [Act.put, List.setIfInBounds_toArray, List.set_cons_zero, List.set_cons_succ])
              refine held_take (i := 7) (v := ?v7) rfl (by kernel_rfl) (by kernel_rfl) (by kernel_rfl) (fun _ _ _ h => h) (Or.inl ⟨by rfl, ?hy7⟩) (by assumption) ?rest7
              case hy7 => (intro w hSw; (try dsimp only at hSw); go_simp; try with_reducible rfl)
              (try simp only [Act.put, List.setIfInBounds_toArray, List.set_cons_zero, List.set_cons_succ])
              refine held_take (i := 8) rfl (by kernel_rfl) (by kernel_rfl) (by kernel_rfl) (fun _ _ _ h => h) (Or.inr ⟨by rfl, rfl⟩) (by assumption) ?_
              (try simp only [Act.put, List.setIfInBounds_toArray, List.set_cons_zero, List.set_cons_succ])
              refine held_take (i := 9) rfl (by kernel_rfl) (by kernel_rfl) (by kernel_rfl) (fun _ _ _ h => h) (Or.inr ⟨by rfl, rfl⟩) (by assumption) ?_
              (try simp only [Act.put, List.setIfInBounds_toArray, List.set_cons_zero, List.set_cons_succ])
              refine held_take (i := 10) rfl (by kernel_rfl) (by kernel_rfl) (by kernel_rfl) (fun _ _ _ h => h) (Or.inr ⟨by rfl, rfl⟩) (by assumption) ?_
              (try simp only [Act.put, List.setIfInBounds_toArray, List.set_cons_zero, List.set_cons_succ])
              refine held_take (i := 11) rfl (by kernel_rfl) (by kernel_rfl) (by kernel_rfl) (fun _ _ _ h => h) (Or.inr ⟨by rfl, rfl⟩) (by assumption) ?_
              (try simp only [Act.put, List.setIfInBounds_toArray, List.set_cons_zero, List.set_cons_succ])
              refine held_take (i := 12) rfl (by kernel_rfl) (by kernel_rfl) (by kernel_rfl) (fun _ _ _ h => h) (Or.inr ⟨by rfl, rfl⟩) (by assumption) ?_
              (try simp only [Act.put, List.setIfInBounds_toArray, List.set_cons_zero, List.set_cons_succ])
              refine held_take (i := 13) rfl (by kernel_rfl) (by kernel_rfl) (by kernel_rfl) (fun _ _ _ h => h) (Or.inr ⟨by rfl, rfl⟩) (by assumption) ?_
              (try simp only [Act.put, List.setIfInBounds_toArray, List.set_cons_zero, List.set_cons_succ])
              refine held_take (i := 14) rfl (by kernel_rfl) (by kernel_rfl) (by kernel_rfl) (fun _ _ _ h => h) (Or.inr ⟨by rfl, rfl⟩) (by assumption) ?_
              (try simp only [Act.put, List.setIfInBounds_toArray, List.set_cons_zero, List.set_cons_succ])
              refine held_take (i := 15) rfl (by kernel_rfl) (by kernel_rfl) (by kernel_rfl) (fun _ _ _ h => h) (Or.inr ⟨by rfl, rfl⟩) (by assumption) ?_
              (try simp only [Act.put, List.setIfInBounds_toArray, List.set_cons_zero, List.set_cons_succ])
              refine held_take (i := 16) (v := ?v8) rfl (by kernel_rfl) (by kernel_rfl) (by kernel_rfl) (fun _ _ _ h => h) (Or.inl ⟨by rfl, ?hy8⟩) (by assumption) ?rest8
              case hy8 => (intro w hSw; (try dsimp only at hSw); go_simp; try with_reducible rfl)
              (try simp only [Act.put, List.setIfInBounds_toArray, List.set_cons_zero, List.set_cons_succ])
              refine wpAnyH_done (by kernel_rfl) ?_ _
              go_wp2_with fail
              go_ret
              exact ⟨by rw [HF.out]; rfl, HBr.out.trans (HBv3.out.mono HBr.out.size)⟩
            exact AllReadyH.nil
        · have hii : ¬ (i : Int) < (N : Int) := by omega
          have HPA : Hid ((∀ x ∈ L, PermI n x.2) ∧ (L.map Prod.snd).Nodup) := Lib.hid (by
            have h1 := HP.out
            rw [List.take_of_length_le (by have := HN.out; omega)] at h1
            exact h1)
          have HBE := HBr
          clear HP HBr
          go_wp2_with fail
          go_loopw [6] (fun iv wr => ∃ i : Nat, i ≤ N ∧ iv = .int .i64 (i : Int) ∧ Hid (∀ p, p < i → ∀ y ∈ L, compL (wayAt L p).2 y.2 ∈ L.map Prod.snd) ∧ Hid (Below w.heap.size w wr)) (fun iv _ => N - (intOf iv).toNat)
          case atStart => exact ⟨0, by omega, rfl, Lib.hid (fun p hp => by omega), HBE⟩
          case round =>
            clear HBE
            obtain ⟨i, hi, rfl, HI, HBr⟩ := hrel
            obtain ⟨wF, hwF⟩ : ∃ wF : World, wF = wr := ⟨_, rfl⟩
            rw [← hwF] at HBr ⊢
            clear hwF
            by_cases hiN : i < N
            · have hii : (i : Int) < (N : Int) := by omega
              go_wp2_with fail
              go_loopw [7] (fun kv wr => ∃ k : Nat, k ≤ N ∧ kv = .int .i64 (k : Int) ∧ Hid (∀ p, p < k → compL (wayAt L i).2 (wayAt L p).2 ∈ L.map Prod.snd) ∧ Hid (Below w.heap.size w wr)) (fun kv _ => N - (intOf kv).toNat)
              case atStart => exact ⟨0, by omega, rfl, Lib.hid (fun p hp => by omega), HBr⟩
              case round =>
                clear HBr
                obtain ⟨k, hk, rfl, HK, HBr⟩ := hrel
                obtain ⟨wE, hwE⟩ : ∃ wE : World, wE = wr := ⟨_, rfl⟩
                rw [← hwE] at HBr ⊢
                clear hwE
                by_cases hkN : k < N
                · have hkk : (k : Int) < (N : Int) := by omega
                  obtain ⟨ad, hAd, hLi, hma, ya, hadb⟩ := (H.out.below HBr.out).at_ (k := i) (by rw [← HN.out]; exact hiN)
                  obtain ⟨ad2, hAd2, hLk, hmb, yb, _⟩ := (H.out.below HBr.out).at_ (k := k) (by rw [← HN.out]; exact hkN)
                  rw [hAd] at hAd2
                  injection hAd2 with hAd2
                  rw [← hAd2] at yb
                  obtain ⟨a, ha⟩ : ∃ a, a = wayAt L i := ⟨_, rfl⟩
                  obtain ⟨b, hb⟩ : ∃ b, b = wayAt L k := ⟨_, rfl⟩
                  rw [← ha] at hma ya
                  rw [← hb] at hmb yb
                  have hpa := HPA.out.1 a hma
                  have hpb := HPA.out.1 b hmb
                  have hla := HM.out a hma
                  have hea := H.out.each a hma
                  have heb := H.out.each b hmb
                  have HAI : Hid ((wayAt L i).2 = a.2 ∧ (wayAt L k).2 = b.2) := Lib.hid ⟨by rw [ha], by rw [hb]⟩
                  have HMA := Lib.hid hma
                  have HMB := Lib.hid hmb
                  obtain ⟨⟨Aa, ca⟩, la⟩ := a
                  obtain ⟨⟨Ab, cb⟩, lb⟩ := b
                  obtain ⟨na, hna⟩ : ∃ n, n = la.length := ⟨_, rfl⟩
                  obtain ⟨nb, hnb⟩ : ∃ n, n = lb.length := ⟨_, rfl⟩
                  have hcl : (compL la lb).length = na := by unfold compL; rw [List.length_map]; exact hna.symm
                  have HBH : Hid (∀ W, Below wE.heap.size wE W → Calls Tryz.prog 71 #[.slice Aa na ca, .slice Ab nb cb] W fun e w' => ∃ (A3 : Option Addr) (c3 : Nat), e = .returned (.slice A3 na c3) ∧ Hid (IR w' w.heap.size A3 c3 (compL la lb)) ∧ Below W.heap.size W w') := Lib.hid fun W hW => by
                    rw [hna, hnb]
                    have hB := HBr.out.trans (hW.mono HBr.out.size)
                    refine (behind_any w.heap.size w.heap.size Aa Ab ca cb la lb W hla hB.size hB.size (hea.1.below hB) (heb.1.below hB) fun x hx => ?_).mono ?_
                    · have h1 := hpa.2.1 x hx
                      have h2 := hpb.1
                      dsimp only at h2
                      omega
                    · rintro e w' ⟨A3, c3, rfl, h1, h2⟩
                      exact ⟨A3, c3, by rw [hcl, hna], Lib.hid (own_low h1 hB.size), h2⟩
                  have HIN : Hid (∀ W A3 c3, Below wE.heap.size wE W → IR W w.heap.size A3 c3 (compL la lb) → Calls Tryz.prog 70 #[.slice A N c, .slice A3 na c3] W (BoolPost W (decide (compL la lb ∈ L.map Prod.snd)))) := Lib.hid fun W A3 c3 hW hI => by
                    have hB := HBr.out.trans (hW.mono HBr.out.size)
                    have := in_any w.heap.size W.heap.size A A3 N c c3 L (compL la lb) W (by omega) (by rw [← HN.out]; exact Nat.le_refl _) HM.out (H.out.below hB) (IR.reads hI)
                    rw [hcl, List.take_of_length_le (by have := HN.out; omega)] at this
                    exact this
                  have CAwE : Hid (CellQ wE (ad.add i) (.slice Aa na ca)) := Lib.hid ⟨by rw [hna]; exact ya, by rw [block_of_add]; exact Nat.lt_of_lt_of_le hadb HBr.out.size⟩
                  have CBwE : Hid (CellQ wE (ad.add k) (.slice Ab nb cb)) := Lib.hid ⟨by rw [hnb]; exact yb, by rw [block_of_add]; exact Nat.lt_of_lt_of_le hadb HBr.out.size⟩
                  have HBwE : Hid (Below wE.heap.size wE wE) := Lib.hid (Below.refl _ _)
                  obtain ⟨bb, hbb⟩ : ∃ b, b = decide (compL la lb ∈ L.map Prod.snd) := ⟨_, rfl⟩
                  rw [← hbb] at HIN
                  have HBB := Lib.hid hbb
                  subst hAd
                  clear ya yb ha hb hLi hLk hma hmb hadb hpa hpb hla hea heb hna hnb hcl hAd2 hbb
                  go_upto_region 14 with (fail)
                  cases bb with
                  | true =>
                    have HK2 : Hid (∀ p, p < k + 1 → compL (wayAt L i).2 (wayAt L p).2 ∈ L.map Prod.snd) := Lib.hid fun p hp => by
                      rcases Nat.lt_or_ge p k with h | h
                      · exact HK.out p h
                      · obtain rfl : p = k := by omega
                        rw [HAI.out.1, HAI.out.2]
                        exact of_decide_eq_true HBB.out.symm
                    refine wp_region_held_drew (S := fun w' => w'.cell? (ad.add i) = some (.slice Aa na ca) ∧ w'.cell? (ad.add k) = some (.slice Ab nb cb)) (by kernel_rfl) ⟨(CAwE.out.drew.c), (CBwE.out.drew.c)⟩ (fun hHeld => ?_)
                    refine held_take (i := 0) (v := ?v49) rfl (by kernel_rfl) (by kernel_rfl) (by kernel_rfl) (fun _ _ _ h => h) (Or.inl ⟨by rfl, ?hy49⟩) (by assumption) ?rest49
                    case hy49 => (intro w hSw; (try dsimp only at hSw); go_simp; try with_reducible rfl)
                    (try simp only [Act.put, List.setIfInBounds_toArray, List.set_cons_zero, List.set_cons_succ])
                    refine held_take (i := 1) (v := ?v50) rfl (by kernel_rfl) (by kernel_rfl) (by kernel_rfl) (fun _ _ _ h => h) (Or.inl ⟨by rfl, ?hy50⟩) (by assumption) ?rest50
                    case hy50 => (intro w hSw; (try dsimp only at hSw); go_simp; try with_reducible rfl)
                    (try simp only [Act.put, List.setIfInBounds_toArray, List.set_cons_zero, List.set_cons_succ])
                    refine held_take (i := 2) (v := ?v51) rfl (by kernel_rfl) (by kernel_rfl) (by kernel_rfl) (fun _ _ _ h => h) (Or.inl ⟨by rfl, ?hy51⟩) (by assumption) ?rest51
                    case hy51 => (intro w hSw; (try dsimp only at hSw); go_simp; try with_reducible rfl)
                    (try simp only [Act.put, List.setIfInBounds_toArray, List.set_cons_zero, List.set_cons_succ])
                    refine held_take (i := 3) (v := ?v52) rfl (by kernel_rfl) (by kernel_rfl) (by kernel_rfl) (fun _ _ _ h => h) (Or.inl ⟨by rfl, ?hy52⟩) (by assumption) ?rest52
                    case hy52 => (intro w hSw; (try dsimp only at hSw); go_simp; try with_reducible rfl)
                    (try simp only [Act.put, List.setIfInBounds_toArray, List.set_cons_zero, List.set_cons_succ])
                    refine held_take (i := 4) (v := ?v53) rfl (by kernel_rfl) (by kernel_rfl) (by kernel_rfl) (fun _ _ _ h => h) (Or.inl ⟨by rfl, ?hy53⟩) (by assumption) ?rest53
                    case hy53 => (intro w hSw; (try dsimp only at hSw); go_simp; try with_reducible rfl)
                    (try simp only [Act.put, List.setIfInBounds_toArray, List.set_cons_zero, List.set_cons_succ])
                    refine held_take (i := 5) (v := ?v54) rfl (by kernel_rfl) (by kernel_rfl) (by kernel_rfl) (fun _ _ _ h => h) (Or.inl ⟨by rfl, ?hy54⟩) (by assumption) ?rest54
                    case hy54 => (intro w hSw; (try dsimp only at hSw); go_simp; try with_reducible rfl)
                    (try simp only [Act.put, List.setIfInBounds_toArray, List.set_cons_zero, List.set_cons_succ])
                    refine held_take (i := 6) (v := ?v55) rfl (by kernel_rfl) (by kernel_rfl) (by kernel_rfl) (fun _ _ _ h => h) (Or.inl ⟨by rfl, ?hy55⟩) (by assumption) ?rest55
                    case hy55 => (intro w hSw; (try dsimp only at hSw); go_simp; try with_reducible rfl)
                    (try simp only [Act.put, List.setIfInBounds_toArray, List.set_cons_zero, List.set_cons_succ])
                    refine held_take (i := 7) (v := ?v56) rfl (by kernel_rfl) (by kernel_rfl) (by kernel_rfl) (fun _ _ _ h => h) (Or.inl ⟨by rfl, ?hy56⟩) (by assumption) ?rest56
                    case hy56 => (intro w hSw; (try dsimp only at hSw); go_simp; try with_reducible rfl)
                    (try simp only [Act.put, List.setIfInBounds_toArray, List.set_cons_zero, List.set_cons_succ])
                    refine held_take (i := 8) (v := ?v57) rfl (by kernel_rfl) (by kernel_rfl) (by kernel_rfl) (fun _ _ _ h => h) (Or.inl ⟨by rfl, ?hy57⟩) (by assumption) ?rest57
                    case hy57 => (intro w hSw; (try dsimp only at hSw); go_simp; try with_reducible rfl)
                    (try simp only [Act.put, List.setIfInBounds_toArray, List.set_cons_zero, List.set_cons_succ])
                    refine wpAnyH_ready (rs := [9]) (by kernel_rfl) (by simp) ?_
                    refine held_cons rfl (fun K hK => ?_) ?_
                    · go_simp
                      go_wp2_with (go_at_call 71; refine (HBH.out wE.drew (bw_drew HBwE.out)).mono ?_; rintro e v3 ⟨A3, c3, rfl, hi3, hb⟩)
                      have CAv3 := Lib.hid (CAwE.out.drew.below hb)
                      have CBv3 := Lib.hid (CBwE.out.drew.below hb)
                      have HI3v3 : Hid (IR v3 w.heap.size A3 c3 (compL la lb)) := Lib.hid (hi3.out)
                      have HBv3 := Lib.hid (bw_call (bw_drew HBwE.out) hb)
                      clear hb
                      refine hK.out _ _ ?_ (fun hHeld => ?_)
                      · exact ⟨(CAv3.out.c), (CBv3.out.c)⟩
                      clear hK K
                      (try simp only [Act.put, List.setIfInBounds_toArray, List.set_cons_zero, List.set_cons_succ])
                      refine wpAnyH_ready (rs := [10]) (by kernel_rfl) (by simp) ?_
                      refine held_cons rfl (fun K hK => ?_) ?_
                      · go_simp
                        go_wp2_with (go_at_call 70; refine (HIN.out v3 A3 c3 HBv3.out HI3v3.out).mono ?_; rintro e v4 ⟨rfl, hb⟩)
                        have CAv4 := Lib.hid (CAv3.out.below hb)
                        have CBv4 := Lib.hid (CBv3.out.below hb)
                        have HI3v4 := Lib.hid (HI3v3.out.below hb)
                        have HBv4 := Lib.hid (bw_call HBv3.out hb)
                        clear hb CAv3 CBv3 HI3v3 HBv3
                        refine hK.out _ _ ?_ (fun hHeld => ?_)
                        · exact ⟨(CAv4.out.c), (CBv4.out.c)⟩
                        clear hK K
                        (try simp only [Act.put, List.setIfInBounds_toArray, List.set_cons_zero, List.set_cons_succ])
                        refine held_take (i := 11) (v := ?v58) rfl (by kernel_rfl) (by kernel_rfl) (by kernel_rfl) (fun _ _ _ h => h) (Or.inl ⟨by rfl, ?hy58⟩) (by assumption) ?rest58
                        case hy58 => (intro w hSw; (try dsimp only at hSw); go_simp; try with_reducible rfl)
                        (try simp only [Act.put, List.setIfInBounds_toArray, List.set_cons_zero, List.set_cons_succ])
                        refine wpAnyH_done (by kernel_rfl) ?_ _
                        have HBn : Hid (Below w.heap.size w v4) := Lib.hid (HBr.out.trans (HBv4.out.mono HBr.out.size))
                        go_wp2_with fail
                        go_roundw
                        case rel => exact ⟨k + 1, by omega, by go_num, HK2, HBn⟩
                        case measure => simp [intOf]; omega
                      exact AllReadyH.nil
                    exact AllReadyH.nil
                  | false =>
                    have HF : Hid (r = false) := Lib.hid (NO.out fun hg => (of_decide_eq_false HBB.out.symm) (hg.2.2.2.2 la (List.mem_map_of_mem (f := Prod.snd) HMA.out) lb (List.mem_map_of_mem (f := Prod.snd) HMB.out)))
                    refine wp_region_held_drew (S := fun w' => w'.cell? (ad.add i) = some (.slice Aa na ca) ∧ w'.cell? (ad.add k) = some (.slice Ab nb cb)) (by kernel_rfl) ⟨(CAwE.out.drew.c), (CBwE.out.drew.c)⟩ (fun hHeld => ?_)
                    refine held_take (i := 0) (v := ?v39) rfl (by kernel_rfl) (by kernel_rfl) (by kernel_rfl) (fun _ _ _ h => h) (Or.inl ⟨by rfl, ?hy39⟩) (by assumption) ?rest39
                    case hy39 => (intro w hSw; (try dsimp only at hSw); go_simp; try with_reducible rfl)
                    (try simp only [Act.put, List.setIfInBounds_toArray, List.set_cons_zero, List.set_cons_succ])
                    refine held_take (i := 1) (v := ?v40) rfl (by kernel_rfl) (by kernel_rfl) (by kernel_rfl) (fun _ _ _ h => h) (Or.inl ⟨by rfl, ?hy40⟩) (by assumption) ?rest40
                    case hy40 => (intro w hSw; (try dsimp only at hSw); go_simp; try with_reducible rfl)
                    (try simp only [Act.put, List.setIfInBounds_toArray, List.set_cons_zero, List.set_cons_succ])
                    refine held_take (i := 2) (v := ?v41) rfl (by kernel_rfl) (by kernel_rfl) (by kernel_rfl) (fun _ _ _ h => h) (Or.inl ⟨by rfl, ?hy41⟩) (by assumption) ?rest41
                    case hy41 => (intro w hSw; (try dsimp only at hSw); go_simp; try with_reducible rfl)
                    (try simp only [Act.put, List.setIfInBounds_toArray, List.set_cons_zero, List.set_cons_succ])
                    refine held_take (i := 3) (v := ?v42) rfl (by kernel_rfl) (by kernel_rfl) (by kernel_rfl) (fun _ _ _ h => h) (Or.inl ⟨by rfl, ?hy42⟩) (by assumption) ?rest42
                    case hy42 => (intro w hSw; (try dsimp only at hSw); go_simp; try with_reducible rfl)
                    (try simp only [Act.put, List.setIfInBounds_toArray, List.set_cons_zero, List.set_cons_succ])
                    refine held_take (i := 4) (v := ?v43) rfl (by kernel_rfl) (by kernel_rfl) (by kernel_rfl) (fun _ _ _ h => h) (Or.inl ⟨by rfl, ?hy43⟩) (by assumption) ?rest43
                    case hy43 => (intro w hSw; (try dsimp only at hSw); go_simp; try with_reducible rfl)
                    (try simp only [Act.put, List.setIfInBounds_toArray, List.set_cons_zero, List.set_cons_succ])
                    refine held_take (i := 5) (v := ?v44) rfl (by kernel_rfl) (by kernel_rfl) (by kernel_rfl) (fun _ _ _ h => h) (Or.inl ⟨by rfl, ?hy44⟩) (by assumption) ?rest44
                    case hy44 => (intro w hSw; (try dsimp only at hSw); go_simp; try with_reducible rfl)
                    (try simp only [Act.put, List.setIfInBounds_toArray, List.set_cons_zero, List.set_cons_succ])
                    refine held_take (i := 6) (v := ?v45) rfl (by kernel_rfl) (by kernel_rfl) (by kernel_rfl) (fun _ _ _ h => h) (Or.inl ⟨by rfl, ?hy45⟩) (by assumption) ?rest45
                    case hy45 => (intro w hSw; (try dsimp only at hSw); go_simp; try with_reducible rfl)
                    (try simp only [Act.put, List.setIfInBounds_toArray, List.set_cons_zero, List.set_cons_succ])
                    refine held_take (i := 7) (v := ?v46) rfl (by kernel_rfl) (by kernel_rfl) (by kernel_rfl) (fun _ _ _ h => h) (Or.inl ⟨by rfl, ?hy46⟩) (by assumption) ?rest46
                    case hy46 => (intro w hSw; (try dsimp only at hSw); go_simp; try with_reducible rfl)
                    (try simp only [Act.put, List.setIfInBounds_toArray, List.set_cons_zero, List.set_cons_succ])
                    refine held_take (i := 8) (v := ?v47) rfl (by kernel_rfl) (by kernel_rfl) (by kernel_rfl) (fun _ _ _ h => h) (Or.inl ⟨by rfl, ?hy47⟩) (by assumption) ?rest47
                    case hy47 => (intro w hSw; (try dsimp only at hSw); go_simp; try with_reducible rfl)
                    (try simp only [Act.put, List.setIfInBounds_toArray, List.set_cons_zero, List.set_cons_succ])
                    refine wpAnyH_ready (rs := [9]) (by kernel_rfl) (by simp) ?_
                    refine held_cons rfl (fun K hK => ?_) ?_
                    · go_simp
                      go_wp2_with (go_at_call 71; refine (HBH.out wE.drew (bw_drew HBwE.out)).mono ?_; rintro e v3 ⟨A3, c3, rfl, hi3, hb⟩)
                      have CAv3 := Lib.hid (CAwE.out.drew.below hb)
                      have CBv3 := Lib.hid (CBwE.out.drew.below hb)
                      have HI3v3 : Hid (IR v3 w.heap.size A3 c3 (compL la lb)) := Lib.hid (hi3.out)
                      have HBv3 := Lib.hid (bw_call (bw_drew HBwE.out) hb)
                      clear hb
                      refine hK.out _ _ ?_ (fun hHeld => ?_)
                      · exact ⟨(CAv3.out.c), (CBv3.out.c)⟩
                      clear hK K
                      (try simp only [Act.put, List.setIfInBounds_toArray, List.set_cons_zero, List.set_cons_succ])
                      refine wpAnyH_ready (rs := [10]) (by kernel_rfl) (by simp) ?_
                      refine held_cons rfl (fun K hK => ?_) ?_
                      · go_simp
                        go_wp2_with (go_at_call 70; refine (HIN.out v3 A3 c3 HBv3.out HI3v3.out).mono ?_; rintro e v4 ⟨rfl, hb⟩)
                        have CAv4 := Lib.hid (CAv3.out.below hb)
                        have CBv4 := Lib.hid (CBv3.out.below hb)
                        have HI3v4 := Lib.hid (HI3v3.out.below hb)
                        have HBv4 := Lib.hid (bw_call HBv3.out hb)
                        clear hb CAv3 CBv3 HI3v3 HBv3
                        refine hK.out _ _ ?_ (fun hHeld => ?_)
                        · exact ⟨(CAv4.out.c), (CBv4.out.c)⟩
                        clear hK K
                        (try simp only [Act.put, List.setIfInBounds_toArray, List.set_cons_zero, List.set_cons_succ])
                        refine held_take (i := 11) (v := ?v48) rfl (by kernel_rfl) (by kernel_rfl) (by kernel_rfl) (fun _ _ _ h => h) (Or.inl ⟨by rfl, ?hy48⟩) (by assumption) ?rest48
                        case hy48 => (intro w hSw; (try dsimp only at hSw); go_simp; try with_reducible rfl)
                        (try simp only [Act.put, List.setIfInBounds_toArray, List.set_cons_zero, List.set_cons_succ])
                        refine wpAnyH_done (by kernel_rfl) ?_ _
                        go_wp2_with fail
                        go_ret
                        exact ⟨by rw [HF.out]; rfl, HBr.out.trans (HBv4.out.mono HBr.out.size)⟩
                      exact AllReadyH.nil
                    exact AllReadyH.nil
                · have hkk : ¬ (k : Int) < (N : Int) := by omega
                  have HI2 : Hid (∀ p, p < i + 1 → ∀ y ∈ L, compL (wayAt L p).2 y.2 ∈ L.map Prod.snd) := Lib.hid fun p hp y hy => by
                    rcases Nat.lt_or_ge p i with h | h
                    · exact HI.out p h y hy
                    · obtain rfl : p = i := by omega
                      obtain ⟨q, hq, rfl⟩ := List.getElem_of_mem hy
                      have := HK.out q (by have := HN.out; omega)
                      simpa [wayAt, List.getD, List.getElem?_eq_getElem hq] using this
                  go_wp2_with fail
                  go_roundw
                  case rel => exact ⟨i + 1, by omega, by go_num, HI2, HBr⟩
                  case measure => simp [intOf]; omega
            · have hii : ¬ (i : Int) < (N : Int) := by omega
              have HF : Hid (r = true) := Lib.hid (by
                rw [HR.out]
                refine decide_eq_true ⟨by omega, ?_, fun a ha => ?_, HPA.out.2, fun a ha b hb => ?_⟩
                · intro e
                  have h1 := congrArg List.length e
                  have h2 := HN.out
                  have h3 := HNP.out
                  simp at h1
                  rw [h1] at h2
                  simp at h2
                  omega
                · obtain ⟨x, hx, rfl⟩ := List.mem_map.1 ha
                  exact HPA.out.1 x hx
                · obtain ⟨x, hx, rfl⟩ := List.mem_map.1 ha
                  obtain ⟨y, hy, rfl⟩ := List.mem_map.1 hb
                  obtain ⟨q, hq, rfl⟩ := List.getElem_of_mem hx
                  have := HI.out q (by have := HN.out; omega) y hy
                  simpa [wayAt, List.getD, List.getElem?_eq_getElem hq] using this)
              go_wp2_with fail
              go_ret
              exact ⟨by rw [HF.out]; rfl, HBr.out⟩
end Go.Proofs.YtiajlmajenabiaaGreat
