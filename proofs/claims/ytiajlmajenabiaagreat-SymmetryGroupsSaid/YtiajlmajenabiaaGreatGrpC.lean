/- symmetry.Group, walked: of few rows. No condition but sizes. -/
import Derived.Test.YtiajlmajenabiaaGreatGr47
import Derived.Test.YtiajlmajenabiaaGreatCornerB
namespace Go.Proofs.YtiajlmajenabiaaGreat
open Go.RowKit

set_option linter.unusedSimpArgs false
set_option linter.unusedVariables false
def compL (a b : List Int) : List Int := a.map fun x => b.getD x.toNat 0
/-- Renumberings that are a group. -/
def GroupI (n : Int) (l : List (List Int)) : Prop := 0 ≤ n ∧ l ≠ [] ∧ (∀ a ∈ l, PermI n a) ∧ l.Nodup ∧ ∀ a ∈ l, ∀ b ∈ l, compL a b ∈ l
instance (n : Int) (l : List (List Int)) : Decidable (GroupI n l) := by unfold GroupI; exact inferInstance
theorem held_of {w W0 : World} {g : Nat} {L M : List Way} (hL : ∀ y ∈ L, Reads w w.heap.size 1 y.1.1 y.2.length (ZL y.2) ∧ y.2.length ≤ maxLen) (hb : Below w.heap.size w W0) (hg : w.heap.size ≤ g)
    (hM : ∀ x ∈ M, ∀ W, Only (fun i => i = g) W0 W → Reads W W.heap.size 1 x.1.1 x.2.length (ZL x.2)) : Held g L M W0 := fun y hy x hx W hW => by
  have h1 : Below w.heap.size w W := hb.trans (hW.below hb.size fun k hk e => by omega)
  exact cmpR_reads W _ _ y.1.1 x.1.1 y.1.2 x.1.2 y.2 x.2 ((hL y hy).1.below h1) (hM x hx W hW) (hL y hy).2
theorem values_any (A : Option Addr) (n c : Nat) (w : World) : Calls Tryz.prog 66 #[.slice A n c] w fun e w' => e = .returned (.func (.func 97) #[] #[.pointer (some ⟨w.heap.size, 0, none⟩)]) ∧ w' = w.alloc (.cells #[.slice A n c] 33) := by
  go_enter Tryz.func66, Tryz.ntmps66
  go_wp2_with fail
  go_ret
  exact ⟨rfl, rfl⟩
theorem row_at {W : World} {B g n c : Nat} {L : List Way} (h : W.ownsRow B 25 1 (.slice (some ⟨g, 0, none⟩) n c) n (L.map wayC)) {k : Nat} (hk : k < L.length) : W.cell? ⟨g, k, none⟩ = some (wayC (wayAt L k)) := by
  have := World.ownsRow.cells h (g := g) rfl k (wayC (wayAt L k)) (by rw [List.getElem?_map, List.getElem?_eq_getElem hk]; simp [wayAt, List.getD, List.getElem?_eq_getElem hk])
  rw [show (⟨g, 0, none⟩ : Addr).add k = ⟨g, k, none⟩ by unfold Addr.add; split <;> simp_all] at this
  exact this
theorem sorted_nd {L : List Way} (hs : SortedW L) (hne : ∀ i, i + 1 < L.length → (wayAt L (i + 1)).2 ≠ (wayAt L i).2) : (L.map Prod.snd).Nodup := by
  have key : ∀ i (hi : i < L.length), wayAt L i = L[i] := fun i hi => by simp [wayAt, List.getD, List.getElem?_eq_getElem hi]
  have hpw := List.pairwise_iff_getElem.1 hs
  have hlt : ∀ d i, i + d + 1 < L.length → ltL (wayAt L i).2 (wayAt L (i + d + 1)).2 := by
    intro d
    induction d with
    | zero =>
      intro i hi
      have h1 := hpw i (i + 1) (by omega) hi (by omega)
      rw [← key i (by omega), ← key (i + 1) hi] at h1
      rcases ltL_tri (wayAt L i).2 (wayAt L (i + 1)).2 with h | h | h
      · exact h
      · exact absurd h.symm (hne i hi)
      · exact absurd h h1
    | succ d ih =>
      intro i hi
      have h1 := ih i (by omega)
      have h2 := hpw (i + d + 1) (i + (d + 1) + 1) (by omega) hi (by omega)
      rw [← key (i + d + 1) (by omega), ← key (i + (d + 1) + 1) hi] at h2
      rcases ltL_tri (wayAt L (i + d + 1)).2 (wayAt L (i + (d + 1) + 1)).2 with h | h | h
      · exact ltL_trans h1 h
      · rw [← h]; exact h1
      · exact absurd h h2
  unfold List.Nodup
  rw [List.pairwise_map, List.pairwise_iff_getElem]
  intro i j hi hj hij e
  have h1 := hlt (j - i - 1) i (by omega)
  rw [show i + (j - i - 1) + 1 = j by omega, key i hi, key j hj, e] at h1
  exact ltL_irr _ h1
attribute [local irreducible] Blk World.alloc World.setCell World.cell? World.frozen? MapV MapI
set_option maxRecDepth 100000 in
set_option maxHeartbeats 8000000 in
theorem group_any (n : Int) (A : Option Addr) (c : Nat) (L : List Way) (w : World) (hmx : L.length ≤ 100000) (hmy : ∀ x ∈ L, x.2.length ≤ 100000) (h : RowsIn w w.heap.size A L.length L) :
    Calls Tryz.prog 31 #[.int .i64 n, .slice A L.length c] w (BoolPost w (decide (GroupI n (L.map Prod.snd)))) := by
  have H := Lib.hid h
  have HM := Lib.hid hmy
  obtain ⟨r, hr⟩ : ∃ r, r = decide (GroupI n (L.map Prod.snd)) := ⟨_, rfl⟩
  obtain ⟨N, hN⟩ : ∃ N, N = L.length := ⟨_, rfl⟩
  rw [← hr, ← hN]
  rw [← hN] at hmx
  have HN := Lib.hid hN
  have HR := Lib.hid hr
  have NO : Hid (¬ GroupI n (L.map Prod.snd) → r = false) := Lib.hid fun h => by rw [hr]; exact decide_eq_false h
  clear h hmy hr hN
  obtain ⟨i0, hi0, hz0, hz1, hz2⟩ := info_parts int_infoC
  go_enter Tryz.func31, Tryz.ntmps31
  go_upto_region 1 with (fail)
  obtain ⟨wA, hwA⟩ : ∃ U, U = w.alloc (.cells #[.int .i64 n] 3) := ⟨_, rfl⟩
  have K2A : Hid (Blk wA w.heap.size 3 #[.int .i64 n]) := by subst hwA; exact Lib.hid (Blk.new _ _ _)
  have HBA : Hid (Below w.heap.size w wA) := by subst hwA; exact Lib.hid (bw_alloc (Below.refl _ _) _)
  rw [← hwA]
  obtain ⟨b2, hb2⟩ : ∃ b, b = w.heap.size := ⟨_, rfl⟩
  have HG2 : Hid (w.heap.size ≤ b2) := Lib.hid (by omega)
  rw [← hb2] at K2A
  simp only [← hb2]
  have p0 : wA.cell? ⟨b2, 0, none⟩ = some (.int .i64 n) := K2A.out.cell 0
  clear hwA hb2
  by_cases hn0 : n < 0
  · have HF : Hid (r = false) := Lib.hid (NO.out fun hg => by have := hg.1; omega)
    go_wp2_with fail
    go_ret
    exact ⟨by rw [HF.out]; rfl, HBA.out⟩
  · by_cases hN0 : N = 0
    · have hz : ((N : Int) == 0) = true := by simp [hN0]
      have HF : Hid (r = false) := Lib.hid (NO.out fun hg => hg.2.1 (by have := HN.out; rw [hN0] at this; simp [List.length_eq_zero_iff.1 this.symm]))
      clear hN0
      go_wp2_with fail
      go_ret
      exact ⟨by rw [HF.out]; rfl, HBA.out⟩
    · have hz : ((N : Int) == 0) = false := by simp [hN0]
      have HNP : Hid (0 < N) := Lib.hid (by omega)
      have HBD : Hid (Calls Tryz.prog 62 #[.slice A N c, .func (.func 63) #[] #[.pointer (some ⟨b2, 0, none⟩)]] wA (BoolPost wA (decide (¬ ∀ x ∈ L, PermI n x.2)))) := Lib.hid (by
        have := hasBad_any n b2 A c L wA K2A.out.lt p0 (by have := HN.out; omega) (fun x hx => by have := HM.out x hx; omega) ((H.out.below HBA.out).more HBA.out.size)
        rw [← HN.out] at this
        exact this)
      clear hN0
      by_cases hpm : ∀ x ∈ L, PermI n x.2
      · rw [decide_eq_false (fun h => h hpm)] at HBD
        have HPM := Lib.hid hpm
        clear hpm
        go_wp2_with fail
        refine HBD.out.mono ?_
        rintro e w1 ⟨rfl, hb⟩
        have K21 := Lib.hid (K2A.out.below hb K2A.out.lt)
        have HB1 := Lib.hid (bw_call HBA.out hb)
        clear hb HBD K2A HBA p0
        go_upto_region 3 with (fail)
        have HVA := Lib.hid (values_any A N c w1)
        obtain ⟨wV, hwV⟩ : ∃ U, U = w1.alloc (.cells #[.slice A N c] 33) := ⟨_, rfl⟩
        have KVV : Hid (Blk wV w1.heap.size 33 #[.slice A N c]) := by subst hwV; exact Lib.hid (Blk.new _ _ _)
        have HBV : Hid (Below w.heap.size w wV) := by subst hwV; exact Lib.hid (bw_alloc HB1.out _)
        have K2V : Hid (Blk wV b2 3 #[.int .i64 n]) := by subst hwV; exact Lib.hid (K21.out.alloc _)
        rw [← hwV] at HVA
        have HSO : Hid (Calls Tryz.prog 65 #[.func (.func 97) #[] #[.pointer (some ⟨w1.heap.size, 0, none⟩)], .func (.func 55) #[] #[]] wV (SortedRPost wV L)) := Lib.hid (by
          refine sortedR_any w.heap.size w1.heap.size c A L wV HBV.out.size (by have := HN.out; omega) (by have := HN.out; have := HNP.out; omega) ⟨⟨w, rfl, H.out.row, HBV.out⟩, by rw [← HN.out]; exact KVV.out.cell 0, KVV.out.lt⟩ fun g hg W hW => held_of (fun y hy => ⟨(H.out.each y hy).1, (H.out.each y hy).2.2⟩) (bw_call HBV.out hW) (Nat.le_trans HBV.out.size hg) fun x hx W' hW' => ?_
          have h1 : Below w.heap.size w W' := (bw_call HBV.out hW).trans (hW'.below (bw_call HBV.out hW).size fun k hk e => by have := HBV.out.size; omega)
          exact ((H.out.each x hx).1.below h1).more h1.size)
        clear hwV
        go_wp2_with fail
        refine HVA.out.mono ?_
        rintro e w1' ⟨rfl, hw⟩
        subst hw
        go_wp2_with fail
        refine HSO.out.mono ?_
        rintro e wS ⟨g, cg, L', rfl, hp, hs, ho, hb⟩
        have hl' : L'.length = L.length := hp.length_eq
        have K2S := Lib.hid (K2V.out.below hb K2V.out.lt)
        have HBS := Lib.hid (bw_call HBV.out hb)
        have HOS : Hid (wS.ownsRow w.heap.size 25 1 (.slice (some ⟨g, 0, none⟩) N cg) N (L'.map wayC)) := Lib.hid (by have := own_low ho HBV.out.size; rw [← HN.out] at this; exact this)
        have HPE := Lib.hid hp
        have HSS := Lib.hid hs
        have HL' : Hid (N = L'.length) := Lib.hid (by rw [hl']; exact HN.out)
        have HCO : Hid (∀ x ∈ L', ∀ W, Below w.heap.size w W → Reads W w.heap.size 1 x.1.1 x.2.length (ZL x.2) ∧ x.2.length ≤ 100000) := Lib.hid fun x hx W hW => ⟨(H.out.each x (hp.mem_iff.1 hx)).1.below hW, HM.out x (hp.mem_iff.1 hx)⟩
        rw [← HN.out]
        clear hp hs ho hb hl' HVA HSO KVV HBV K2V K21 HB1
        go_wp2_with fail
        go_loopw [6] (fun iv wr => ∃ j : Nat, j + 1 ≤ N ∧ iv = .int .i64 ((j : Int) + 1) ∧ Hid (∀ i, i + 1 ≤ j → (wayAt L' (i + 1)).2 ≠ (wayAt L' i).2) ∧ Hid (Below wS.heap.size wS wr)) (fun iv _ => N + 1 - (intOf iv).toNat)
        case atStart => exact ⟨0, by have := HNP.out; omega, by go_num, Lib.hid (fun i hi => by omega), Lib.hid (Below.refl _ _)⟩
        case round =>
          obtain ⟨j, hj, rfl, HD, HBr⟩ := hrel
          obtain ⟨wE, hwE⟩ : ∃ wE : World, wE = wr := ⟨_, rfl⟩
          rw [← hwE] at HBr ⊢
          clear hwE
          have u1 : IntKind.i64.wrap ((j : Int) + 1 + 1) = (j : Int) + 1 + 1 := by rw [IntKind.wrap_i64]; omega
          by_cases hjN : j + 1 < N
          · have hji : (j : Int) + 1 < (N : Int) := by omega
            have u2 : IntKind.i64.wrap (j : Int) = (j : Int) := by rw [IntKind.wrap_i64]; omega
            have e1 : (j : Int) + 1 - 1 = (j : Int) := by omega
            have e0 : ((j : Int) + 1).toNat = j + 1 := by omega
            have h0 : (0 : Int) ≤ (j : Int) + 1 := by omega
            have hjj : (j : Int) < (N : Int) := by omega
            have hoE : wE.ownsRow w.heap.size 25 1 (.slice (some ⟨g, 0, none⟩) N cg) N (L'.map wayC) := own_same HOS.out fun q hq => HBr.out.block q (World.ownsRow.lt HOS.out q hq).2
            have hlg : g < wE.heap.size := (World.ownsRow.lt hoE g rfl).2
            have y1 := row_at hoE (k := j + 1) (by rw [← HL'.out]; exact hjN)
            have y0 := row_at hoE (k := j) (by rw [← HL'.out]; omega)
            have hm1 := wayAt_mem (L := L') (i := j + 1) (by rw [← HL'.out]; exact hjN)
            have hm0 := wayAt_mem (L := L') (i := j) (by rw [← HL'.out]; omega)
            obtain ⟨x1, hx1⟩ : ∃ x, x = wayAt L' (j + 1) := ⟨_, rfl⟩
            obtain ⟨x0, hx0⟩ : ∃ x, x = wayAt L' j := ⟨_, rfl⟩
            rw [← hx1] at y1 hm1
            rw [← hx0] at y0 hm0
            obtain ⟨⟨A1, c1⟩, l1⟩ := x1
            obtain ⟨⟨A0, c0⟩, l0⟩ := x0
            obtain ⟨n1, hn1⟩ : ∃ n, n = l1.length := ⟨_, rfl⟩
            obtain ⟨n0, hn0'⟩ : ∃ n, n = l0.length := ⟨_, rfl⟩
            unfold wayC at y1 y0
            dsimp only at y1 y0
            rw [← hn1] at y1
            rw [← hn0'] at y0
            have CAwE : Hid (CellQ wE ⟨g, j + 1, none⟩ (.slice A1 n1 c1)) := Lib.hid ⟨y1, hlg⟩
            have CBwE : Hid (CellQ wE ⟨g, j, none⟩ (.slice A0 n0 c0)) := Lib.hid ⟨y0, hlg⟩
            obtain ⟨b, hb⟩ : ∃ b, b = decide (l1 = l0) := ⟨_, rfl⟩
            have HEQ : Hid (∀ W, Below wE.heap.size wE W → Calls Tryz.prog 67 #[.slice A1 n1 c1, .slice A0 n0 c0] W (BoolPost W b)) := Lib.hid fun W hW => by
              have hB : Below w.heap.size w W := HBS.out.trans ((HBr.out.trans (hW.mono HBr.out.size)).mono HBS.out.size)
              rw [hn1, hn0', hb]
              refine (eqInts_any l1 l0 w.heap.size w.heap.size A1 A0 c1 c0 W (by have := (HCO.out _ hm1 W hB).2; dsimp only at this; omega) (HCO.out _ hm1 W hB).1 (HCO.out _ hm0 W hB).1).mono ?_
              rintro e w' ⟨he, q, rfl⟩
              exact ⟨he, below_drewN (Below.refl _ _) q⟩
            have HBwE : Hid (Below wE.heap.size wE wE) := Lib.hid (Below.refl _ _)
            have HB2 := Lib.hid hb
            have HX : Hid ((wayAt L' (j + 1)).2 = l1 ∧ (wayAt L' j).2 = l0) := Lib.hid (by rw [← hx1, ← hx0]; exact ⟨rfl, rfl⟩)
            clear hoE y1 y0 hm1 hm0 hx1 hx0 hn1 hn0' hb
            go_upto_region 7 with (fail)
            cases b with
            | true =>
              have HF : Hid (r = false) := Lib.hid (NO.out fun hg => by
                have hnd := (HPE.out.map Prod.snd).nodup_iff.2 hg.2.2.2.1
                have h1 := of_decide_eq_true HB2.out.symm
                have ha : j < L'.length := by rw [← HL'.out]; omega
                have hb : j + 1 < L'.length := by rw [← HL'.out]; omega
                have h2 := List.pairwise_iff_getElem.1 hnd j (j + 1) (by simpa using ha) (by simpa using hb) (by omega)
                refine h2 ?_
                rw [List.getElem_map, List.getElem_map]
                have e2 := HX.out
                simp only [wayAt, List.getD, List.getElem?_eq_getElem ha, List.getElem?_eq_getElem hb, Option.getD_some] at e2
                rw [e2.1, e2.2, h1])
              refine wp_region_held_drew (S := fun w' => w'.cell? ⟨g, j + 1, none⟩ = some (.slice A1 n1 c1) ∧ w'.cell? ⟨g, j, none⟩ = some (.slice A0 n0 c0)) (by kernel_rfl) ⟨(CAwE.out.drew.c), (CBwE.out.drew.c)⟩ (fun hHeld => ?_)
              refine held_take (i := 0) (v := ?v1) rfl (by kernel_rfl) (by kernel_rfl) (by kernel_rfl) (fun _ _ _ h => h) (Or.inl ⟨by rfl, ?hy1⟩) (by assumption) ?rest1
              case hy1 => (intro w hSw; (try dsimp only at hSw); go_simp; try with_reducible rfl)
              (try simp only [Act.put, List.setIfInBounds_toArray, List.set_cons_zero, List.set_cons_succ])
              refine held_take (i := 1) (v := ?v2) rfl (by kernel_rfl) (by kernel_rfl) (by kernel_rfl) (fun _ _ _ h => h) (Or.inl ⟨by rfl, ?hy2⟩) (by assumption) ?rest2
              case hy2 => (intro w hSw; (try dsimp only at hSw); go_simp; try with_reducible rfl)
              (try simp only [Act.put, List.setIfInBounds_toArray, List.set_cons_zero, List.set_cons_succ])
              refine held_take (i := 2) (v := ?v3) rfl (by kernel_rfl) (by kernel_rfl) (by kernel_rfl) (fun _ _ _ h => h) (Or.inl ⟨by rfl, ?hy3⟩) (by assumption) ?rest3
              case hy3 => (intro w hSw; (try dsimp only at hSw); go_simp; try with_reducible rfl)
              (try simp only [Act.put, List.setIfInBounds_toArray, List.set_cons_zero, List.set_cons_succ])
              refine held_take (i := 3) (v := ?v4) rfl (by kernel_rfl) (by kernel_rfl) (by kernel_rfl) (fun _ _ _ h => h) (Or.inl ⟨by rfl, ?hy4⟩) (by assumption) ?rest4
              case hy4 => (intro w hSw; (try dsimp only at hSw); go_simp; try with_reducible rfl)
              (try simp only [Act.put, List.setIfInBounds_toArray, List.set_cons_zero, List.set_cons_succ])
              refine held_take (i := 4) (v := ?v5) rfl (by kernel_rfl) (by kernel_rfl) (by kernel_rfl) (fun _ _ _ h => h) (Or.inl ⟨by rfl, ?hy5⟩) (by assumption) ?rest5
              case hy5 => (intro w hSw; (try dsimp only at hSw); go_simp; try with_reducible rfl)
              (try simp only [Act.put, List.setIfInBounds_toArray, List.set_cons_zero, List.set_cons_succ])
              refine held_take (i := 5) (v := ?v6) rfl (by kernel_rfl) (by kernel_rfl) (by kernel_rfl) (fun _ _ _ h => h) (Or.inl ⟨by rfl, ?hy6⟩) (by assumption) ?rest6
              case hy6 => (intro w hSw; (try dsimp only at hSw); go_simp; try with_reducible rfl)
              (try simp only [Act.put, List.setIfInBounds_toArray, List.set_cons_zero, List.set_cons_succ])
              refine held_take (i := 6) (v := ?v7) rfl (by kernel_rfl) (by kernel_rfl) (by kernel_rfl) (fun _ _ _ h => h) (Or.inl ⟨by rfl, ?hy7⟩) (by assumption) ?rest7
              case hy7 => (intro w hSw; (try dsimp only at hSw); go_simp; try with_reducible rfl)
              (try simp only [Act.put, List.setIfInBounds_toArray, List.set_cons_zero, List.set_cons_succ])
              refine held_take (i := 7) (v := ?v8) rfl (by kernel_rfl) (by kernel_rfl) (by kernel_rfl) (fun _ _ _ h => h) (Or.inl ⟨by rfl, ?hy8⟩) (by assumption) ?rest8
              case hy8 => (intro w hSw; (try dsimp only at hSw); go_simp; try with_reducible rfl)
              (try simp only [Act.put, List.setIfInBounds_toArray, List.set_cons_zero, List.set_cons_succ])
              refine held_take (i := 8) (v := ?v9) rfl (by kernel_rfl) (by kernel_rfl) (by kernel_rfl) (fun _ _ _ h => h) (Or.inl ⟨by rfl, ?hy9⟩) (by assumption) ?rest9
              case hy9 => (intro w hSw; (try dsimp only at hSw); go_simp; try with_reducible rfl)
              (try simp only [Act.put, List.setIfInBounds_toArray, List.set_cons_zero, List.set_cons_succ])
              refine wpAnyH_ready (rs := [9]) (by kernel_rfl) (by simp) ?_
              refine held_cons rfl (fun K hK => ?_) ?_
              · go_simp
                go_wp2_with (go_at_call 67; refine (HEQ.out wE.drew (bw_drew HBwE.out)).mono ?_; rintro e v3 ⟨rfl, hb⟩)
                have CAv3 := Lib.hid (CAwE.out.drew.below hb)
                have CBv3 := Lib.hid (CBwE.out.drew.below hb)
                have HBv3 := Lib.hid (bw_call (bw_drew HBwE.out) hb)
                clear hb
                refine hK.out _ _ ?_ (fun hHeld => ?_)
                · exact ⟨(CAv3.out.c), (CBv3.out.c)⟩
                clear hK K
                (try simp only [Act.put, List.setIfInBounds_toArray, List.set_cons_zero, List.set_cons_succ])
                refine wpAnyH_done (by kernel_rfl) ?_ _
                go_wp2_with fail
                go_ret
                exact ⟨by rw [HF.out]; rfl, HBS.out.trans ((HBr.out.trans (HBv3.out.mono HBr.out.size)).mono HBS.out.size)⟩
              exact AllReadyH.nil
            | false =>
              have HD2 : Hid (∀ i, i + 1 ≤ j + 1 → (wayAt L' (i + 1)).2 ≠ (wayAt L' i).2) := Lib.hid fun i hi => by
                rcases Nat.lt_or_ge i j with h | h
                · exact HD.out i (by omega)
                · obtain rfl : i = j := by omega
                  rw [HX.out.1, HX.out.2]
                  exact of_decide_eq_false HB2.out.symm
              refine wp_region_held_drew (S := fun w' => w'.cell? ⟨g, j + 1, none⟩ = some (.slice A1 n1 c1) ∧ w'.cell? ⟨g, j, none⟩ = some (.slice A0 n0 c0)) (by kernel_rfl) ⟨(CAwE.out.drew.c), (CBwE.out.drew.c)⟩ (fun hHeld => ?_)
              refine held_take (i := 0) (v := ?v10) rfl (by kernel_rfl) (by kernel_rfl) (by kernel_rfl) (fun _ _ _ h => h) (Or.inl ⟨by rfl, ?hy10⟩) (by assumption) ?rest10
              case hy10 => (intro w hSw; (try dsimp only at hSw); go_simp; try with_reducible rfl)
              (try simp only [Act.put, List.setIfInBounds_toArray, List.set_cons_zero, List.set_cons_succ])
              refine held_take (i := 1) (v := ?v11) rfl (by kernel_rfl) (by kernel_rfl) (by kernel_rfl) (fun _ _ _ h => h) (Or.inl ⟨by rfl, ?hy11⟩) (by assumption) ?rest11
              case hy11 => (intro w hSw; (try dsimp only at hSw); go_simp; try with_reducible rfl)
              (try simp only [Act.put, List.setIfInBounds_toArray, List.set_cons_zero, List.set_cons_succ])
              refine held_take (i := 2) (v := ?v12) rfl (by kernel_rfl) (by kernel_rfl) (by kernel_rfl) (fun _ _ _ h => h) (Or.inl ⟨by rfl, ?hy12⟩) (by assumption) ?rest12
              case hy12 => (intro w hSw; (try dsimp only at hSw); go_simp; try with_reducible rfl)
              (try simp only [Act.put, List.setIfInBounds_toArray, List.set_cons_zero, List.set_cons_succ])
              refine held_take (i := 3) (v := ?v13) rfl (by kernel_rfl) (by kernel_rfl) (by kernel_rfl) (fun _ _ _ h => h) (Or.inl ⟨by rfl, ?hy13⟩) (by assumption) ?rest13
              case hy13 => (intro w hSw; (try dsimp only at hSw); go_simp; try with_reducible rfl)
              (try simp only [Act.put, List.setIfInBounds_toArray, List.set_cons_zero, List.set_cons_succ])
              refine held_take (i := 4) (v := ?v14) rfl (by kernel_rfl) (by kernel_rfl) (by kernel_rfl) (fun _ _ _ h => h) (Or.inl ⟨by rfl, ?hy14⟩) (by assumption) ?rest14
              case hy14 => (intro w hSw; (try dsimp only at hSw); go_simp; try with_reducible rfl)
              (try simp only [Act.put, List.setIfInBounds_toArray, List.set_cons_zero, List.set_cons_succ])
              refine held_take (i := 5) (v := ?v15) rfl (by kernel_rfl) (by kernel_rfl) (by kernel_rfl) (fun _ _ _ h => h) (Or.inl ⟨by rfl, ?hy15⟩) (by assumption) ?rest15
              case hy15 => (intro w hSw; (try dsimp only at hSw); go_simp; try with_reducible rfl)
              (try simp only [Act.put, List.setIfInBounds_toArray, List.set_cons_zero, List.set_cons_succ])
              refine held_take (i := 6) (v := ?v16) rfl (by kernel_rfl) (by kernel_rfl) (by kernel_rfl) (fun _ _ _ h => h) (Or.inl ⟨by rfl, ?hy16⟩) (by assumption) ?rest16
              case hy16 => (intro w hSw; (try dsimp only at hSw); go_simp; try with_reducible rfl)
              (try simp only [Act.put, List.setIfInBounds_toArray, List.set_cons_zero, List.set_cons_succ])
              refine held_take (i := 7) (v := ?v17) rfl (by kernel_rfl) (by kernel_rfl) (by kernel_rfl) (fun _ _ _ h => h) (Or.inl ⟨by rfl, ?hy17⟩) (by assumption) ?rest17
              case hy17 => (intro w hSw; (try dsimp only at hSw); go_simp; try with_reducible rfl)
              (try simp only [Act.put, List.setIfInBounds_toArray, List.set_cons_zero, List.set_cons_succ])
              refine held_take (i := 8) (v := ?v18) rfl (by kernel_rfl) (by kernel_rfl) (by kernel_rfl) (fun _ _ _ h => h) (Or.inl ⟨by rfl, ?hy18⟩) (by assumption) ?rest18
              case hy18 => (intro w hSw; (try dsimp only at hSw); go_simp; try with_reducible rfl)
              (try simp only [Act.put, List.setIfInBounds_toArray, List.set_cons_zero, List.set_cons_succ])
              refine wpAnyH_ready (rs := [9]) (by kernel_rfl) (by simp) ?_
              refine held_cons rfl (fun K hK => ?_) ?_
              · go_simp
                go_wp2_with (go_at_call 67; refine (HEQ.out wE.drew (bw_drew HBwE.out)).mono ?_; rintro e v3 ⟨rfl, hb⟩)
                have CAv3 := Lib.hid (CAwE.out.drew.below hb)
                have CBv3 := Lib.hid (CBwE.out.drew.below hb)
                have HBv3 := Lib.hid (bw_call (bw_drew HBwE.out) hb)
                clear hb
                refine hK.out _ _ ?_ (fun hHeld => ?_)
                · exact ⟨(CAv3.out.c), (CBv3.out.c)⟩
                clear hK K
                (try simp only [Act.put, List.setIfInBounds_toArray, List.set_cons_zero, List.set_cons_succ])
                refine wpAnyH_done (by kernel_rfl) ?_ _
                have HBn : Hid (Below wS.heap.size wS v3) := Lib.hid (HBr.out.trans (HBv3.out.mono HBr.out.size))
                go_wp2_with fail
                go_roundw
                case rel => exact ⟨j + 1, by omega, by go_num, HD2, HBn⟩
                case measure => simp [intOf]; omega
              exact AllReadyH.nil
          · have hji : ¬ (j : Int) + 1 < (N : Int) := by omega
            have HND : Hid ((L'.map Prod.snd).Nodup) := Lib.hid (sorted_nd HSS.out fun i hi => HD.out i (by have := HL'.out; omega))
            have HOE : Hid (wE.ownsRow w.heap.size 25 1 (.slice (some ⟨g, 0, none⟩) N cg) N (L'.map wayC)) := Lib.hid (own_same HOS.out fun q hq => HBr.out.block q (World.ownsRow.lt HOS.out q hq).2)
            have HGE : Hid (w.heap.size ≤ g ∧ g < wE.heap.size) := Lib.hid (World.ownsRow.lt HOE.out g rfl)
            have HBE : Hid (Below w.heap.size w wE) := Lib.hid (HBS.out.trans (HBr.out.mono HBS.out.size))
            have K2E := Lib.hid (K2S.out.below HBr.out K2S.out.lt)
            have HN2 : Hid (b2 ≠ g) := Lib.hid fun e => own_blk_ne HOE.out K2E.out (by decide) (by rw [e]; rfl)
            clear HBr HD u1 K2S HOS
            go_wp2_with fail
            go_loopw [48] (fun kv wr => ∃ i : Nat, i ≤ N ∧ kv = .int .i64 (i : Int) ∧ Hid (∀ p, p < i → ∀ y ∈ L, compL (wayAt L p).2 y.2 ∈ L.map Prod.snd) ∧ Hid (wr.ownsRow w.heap.size 25 1 (.slice (some ⟨g, 0, none⟩) N cg) N (L'.map wayC)) ∧ Hid (Only (fun i => i = g) wE wr)) (fun kv _ => N - (intOf kv).toNat)
            case atStart => exact ⟨0, by omega, rfl, Lib.hid (fun p hp => by omega), HOE, Lib.hid (Only.refl _ _)⟩
            case round =>
              clear HOE
              obtain ⟨i, hi, rfl, HI, HOr, HBr⟩ := hrel
              obtain ⟨wF, hwF⟩ : ∃ wF : World, wF = wr := ⟨_, rfl⟩
              rw [← hwF] at HOr HBr ⊢
              clear hwF
              by_cases hiN : i < N
              · have hii : (i : Int) < (N : Int) := by omega
                have hBF : Below w.heap.size w wF := HBE.out.trans (HBr.out.below HBE.out.size fun k hk e => by have := HGE.out.1; omega)
                obtain ⟨ad, hA, hLi, hma, y, _⟩ := (H.out.below hBF).at_ (k := i) (by rw [← HN.out]; exact hiN)
                obtain ⟨a, ha⟩ : ∃ a, a = wayAt L i := ⟨_, rfl⟩
                rw [← ha] at hLi hma y
                have hpa := HPM.out a hma
                obtain ⟨⟨Aa, ca⟩, la⟩ := a
                obtain ⟨na, hna⟩ : ∃ n, n = la.length := ⟨_, rfl⟩
                have hnn : (na : Int) = n := by rw [hna]; exact hpa.1
                have hna1 : na ≤ 100000 := by rw [hna]; exact HM.out _ hma
                have HMA := Lib.hid hma
                have HAI := Lib.hid ha
                have HPA := Lib.hid hpa
                have HNA := Lib.hid hna
                have HNN := Lib.hid hnn
                unfold wayC at y
                dsimp only at y
                rw [← hna] at y
                subst hA
                clear hBF hLi hma ha hpa hna hnn
                go_wp2_with fail
                go_loopw [54] (fun kv wr => ∃ k : Nat, k ≤ N ∧ kv = .int .i64 (k : Int) ∧ Hid (∀ p, p < k → compL la (wayAt L p).2 ∈ L.map Prod.snd) ∧ Hid (wr.ownsRow w.heap.size 25 1 (.slice (some ⟨g, 0, none⟩) N cg) N (L'.map wayC)) ∧ Hid (Only (fun i => i = g) wE wr)) (fun kv _ => N - (intOf kv).toNat)
                case atStart => exact ⟨0, by omega, rfl, Lib.hid (fun p hp => by omega), HOr, HBr⟩
                case round =>
                  clear HOr HBr y
                  obtain ⟨k, hk, rfl, HK, HOr, HBr⟩ := hrel
                  obtain ⟨wG, hwG⟩ : ∃ wG : World, wG = wr := ⟨_, rfl⟩
                  rw [← hwG] at HOr HBr ⊢
                  clear hwG
                  by_cases hkN : k < N
                  · have hkk : (k : Int) < (N : Int) := by omega
                    have hBG : Below w.heap.size w wG := HBE.out.trans (HBr.out.below HBE.out.size fun k hk e => by have := HGE.out.1; omega)
                    obtain ⟨ad2, hA2, hLk, hmb, y, _⟩ := (H.out.below hBG).at_ (k := k) (by rw [← HN.out]; exact hkN)
                    injection hA2 with hA2
                    obtain ⟨b, hb⟩ : ∃ b, b = wayAt L k := ⟨_, rfl⟩
                    rw [← hb] at hLk hmb y
                    rw [← hA2] at y
                    have hpb := HPM.out b hmb
                    obtain ⟨⟨Ab, cb⟩, lb⟩ := b
                    obtain ⟨nb, hnb⟩ : ∃ n, n = lb.length := ⟨_, rfl⟩
                    have hnbn : nb = na := by have h1 := hpb.1; have h2 := HNN.out; dsimp only at h1; omega
                    rw [hnbn] at hnb
                    have HMB := Lib.hid hmb
                    have HBI := Lib.hid hb
                    have HPB := Lib.hid hpb
                    have HNB := Lib.hid hnb
                    unfold wayC at y
                    dsimp only at y
                    rw [← hnb] at y
                    have c2 : wG.cell? ⟨b2, 0, none⟩ = some (.int .i64 n) := (K2E.out.only HBr.out HN2.out).cell 0
                    have hmk : ∀ wx : World, (Instr.makeSlice 25 (.int .i64 n) (.int .i64 n)).run Tryz.prog wx = .ok (.slice (some ⟨wx.heap.size, 0, none⟩) na na) (wx.alloc (.cells (intsA (List.replicate na 0)) 3)) := fun wx => by
                      rw [← HNN.out]
                      have := run_make_rowN (P := Tryz.prog) 25 3 i0 _ Tryz.underlying25 hi0 hz0 .i64 .i64 na na (Nat.le_refl _) (by rw [hz2]; omega) (by omega) wx
                      rw [hz1, madeI1] at this
                      exact this
                    clear hBG hLk hmb hb hpb hnb hnbn hA2
                    go_upto_region 16 with (fail)
                    obtain ⟨wH, hwH⟩ : ∃ U, U = wG.alloc (.cells (intsA (List.replicate na 0)) 3) := ⟨_, rfl⟩
                    have KCH : Hid (Blk wH wG.heap.size 3 (intsA (wayP lb la 0))) := by subst hwH; exact Lib.hid (by rw [wayP_zero, ← HNA.out]; exact Blk.new _ _ _)
                    have HOH : Hid (wH.ownsRow w.heap.size 25 1 (.slice (some ⟨g, 0, none⟩) N cg) N (L'.map wayC)) := by subst hwH; exact Lib.hid (own_up HOr.out _)
                    have HBH : Hid (Only (fun i => i = g) wE wH) := by subst hwH; exact Lib.hid (HBr.out.alloc _)
                    have HGC : Hid (wE.heap.size ≤ wG.heap.size) := Lib.hid HBr.out.size
                    rw [← hwH]
                    obtain ⟨gc, hgc⟩ : ∃ b, b = wG.heap.size := ⟨_, rfl⟩
                    rw [← hgc] at KCH HGC
                    simp only [← hgc]
                    clear hwH hgc hmk HOr HBr y c2
                    go_wp2_with fail
                    go_loopw [62] (fun kv wr => ∃ v : Nat, v ≤ na ∧ kv = .int .i64 (v : Int) ∧ Hid (Blk wr gc 3 (intsA (wayP lb la v))) ∧ Hid (Only (fun i => i = gc) wH wr)) (fun kv _ => na - (intOf kv).toNat)
                    case atStart => exact ⟨0, by omega, rfl, KCH, Lib.hid (Only.refl _ _)⟩
                    case round =>
                      clear KCH
                      obtain ⟨v, hv, rfl, KCr, HOc⟩ := hrel
                      obtain ⟨wI, hwI⟩ : ∃ wI : World, wI = wr := ⟨_, rfl⟩
                      rw [← hwI] at KCr HOc ⊢
                      clear hwI
                      have hBH : Below w.heap.size w wH := HBE.out.trans (HBH.out.below HBE.out.size fun k hk e => by have := HGE.out.1; omega)
                      have hBI : Below w.heap.size w wI := hBH.trans (HOc.out.below hBH.size fun k hk e => by have := HGC.out; have := HBE.out.size; omega)
                      by_cases hvn : v < na
                      · have hvi : (v : Int) < (na : Int) := by omega
                        have hvl : v < la.length := by rw [← HNA.out]; exact hvn
                        obtain ⟨ae, x, hAe, _, hx, d1⟩ := zl_read ((H.out.each _ HMA.out).1.below hBI) hvl
                        have hxr := HPA.out.2.1 x (List.mem_of_getElem? hx)
                        obtain ⟨xn, rfl⟩ : ∃ q : Nat, x = (q : Int) := ⟨x.toNat, by omega⟩
                        have hxb : xn < lb.length := by have h1 := HNN.out; have h2 := HNB.out; omega
                        obtain ⟨af, z, hAf, _, hz, d2⟩ := zl_read ((H.out.each _ HMB.out).1.below hBI) hxb
                        have hxi : (xn : Int) < (na : Int) := by have h2 := HNB.out; omega
                        have HXE : Hid (la[v]? = some (xn : Int)) := Lib.hid hx
                        have HZE : Hid (lb.getD (xn : Int).toNat 0 = z) := Lib.hid (by rw [List.getD, show (xn : Int).toNat = xn by omega, hz]; rfl)
                        have e0 : wI.cell? ⟨gc, v, none⟩ = some (.int .i64 ((wayP lb la v).getD v 0)) := by rw [KCr.out.cell]; exact intsA_at (by rw [wayP_len (by omega)]; exact hvl)
                        have f0 := KCr.out.frozen v
                        dsimp only at hAe hAf
                        subst hAe hAf
                        clear hx hz hBH hBI hxr
                        go_wp2_with fail
                        have KC2 : Hid (Blk (wI.setCell ⟨gc, v, none⟩ (.int .i64 z)) gc 3 (intsA (wayP lb la (v + 1)))) := Lib.hid (by rw [← wayP_set HXE.out, HZE.out, ← intsA_set]; exact KCr.out.set_ v _)
                        have HO2 : Hid (Only (fun i => i = gc) wH (wI.setCell ⟨gc, v, none⟩ (.int .i64 z))) := Lib.hid (only_set1 HOc.out v _)
                        go_roundw
                        case rel => exact ⟨v + 1, by omega, by go_num, KC2, HO2⟩
                        case measure => simp [intOf]; omega
                      · have hvi : ¬ (v : Int) < (na : Int) := by omega
                        have HWC : Hid (wayP lb la v = compL la lb) := Lib.hid (by rw [show v = la.length by have := HNA.out; omega, wayP_all]; rfl)
                        have HLC : Hid (na = (compL la lb).length) := Lib.hid (by unfold compL; rw [List.length_map]; exact HNA.out)
                        have hgg : g ≠ gc := by have := HGE.out.2; have := HGC.out; omega
                        have hOI : wI.ownsRow w.heap.size 25 1 (.slice (some ⟨g, 0, none⟩) N cg) N (L'.map wayC) := own_same HOH.out fun q hq => HOc.out.block q (World.ownsRow.lt HOH.out q hq).2 fun e => by
                          have hq : some g = some q := hq
                          injection hq with hq
                          exact hgg (hq.trans e)
                        have HSE : Hid (Calls Tryz.prog 68 #[.slice (some ⟨g, 0, none⟩) N cg, .slice (some ⟨gc, 0, none⟩) na na, .func (.func 55) #[] #[]] wI fun e w' =>
                            (∃ k : Int, e = .returned (.tuple #[.int .i64 k, .bool (decide (compL la lb ∈ L'.map Prod.snd))])) ∧ w'.ownsRow w.heap.size 25 1 (.slice (some ⟨g, 0, none⟩) N cg) N (L'.map wayC) ∧ Only (fun i => i = g) wI w') := Lib.hid (by
                          have hir : IR wI w.heap.size (some ⟨gc, 0, none⟩) na (compL la lb) := by
                            have h1 := KCr.out
                            rw [HWC.out] at h1
                            have h2 := ints_own h1 (Nat.le_trans HBE.out.size HGC.out) (by rw [← HLC.out]; unfold maxLen; omega)
                            rw [← HLC.out] at h2
                            exact h2
                          have hoI := hOI
                          rw [HL'.out] at hoI
                          have := searchRows_any w.heap.size g cg L' ((some ⟨gc, 0, none⟩, na), compL la lb) wI (by rw [← HL'.out]; exact HNP.out) (by rw [← HL'.out]; omega) HSS.out hoI (held_of (fun y hy => ⟨(HCO.out y hy w (Below.refl _ _)).1, by have := (HCO.out y hy w (Below.refl _ _)).2; unfold maxLen; omega⟩) hBI HGE.out.1 fun x hx W hW => by
                            rw [List.mem_singleton.1 hx]
                            have hir2 : IR W w.heap.size (some ⟨gc, 0, none⟩) na (compL la lb) := own_same hir fun q hq => hW.block q (World.ownsRow.lt hir q hq).2 fun e => by
                              have hq : some gc = some q := hq
                              injection hq with hq
                              exact hgg (e.symm.trans hq.symm)
                            exact IR.reads hir2)
                          rw [← HL'.out] at this
                          have e1 : wayC ((some ⟨gc, 0, none⟩, na), compL la lb) = .slice (some ⟨gc, 0, none⟩) na na := by unfold wayC; dsimp only; rw [← HLC.out]
                          rw [e1] at this
                          exact this)
                        have HOE3 : Hid (Only (fun i => i = g) wE wI) := Lib.hid (HBH.out.trans_ HOc.out fun k hk e => by have := HGC.out; omega)
                        obtain ⟨b, hb⟩ : ∃ b, b = decide (compL la lb ∈ L'.map Prod.snd) := ⟨_, rfl⟩
                        rw [← hb] at HSE
                        have HBB := Lib.hid hb
                        clear hb hOI hBH hBI
                        cases b with
                        | true =>
                          have hin : compL la lb ∈ L.map Prod.snd := (HPE.out.map Prod.snd).mem_iff.1 (of_decide_eq_true HBB.out.symm)
                          have HK2 : Hid (∀ p, p < k + 1 → compL la (wayAt L p).2 ∈ L.map Prod.snd) := Lib.hid fun p hp => by
                            rcases Nat.lt_or_ge p k with h | h
                            · exact HK.out p h
                            · obtain rfl : p = k := by omega
                              rw [← HBI.out]
                              exact hin
                          clear hin
                          go_wp2_with fail
                          refine HSE.out.mono ?_
                          rintro e wJ ⟨⟨q, rfl⟩, ho, hb⟩
                          have HOJ := Lib.hid ho
                          have HBJ : Hid (Only (fun i => i = g) wE wJ) := Lib.hid (HOE3.out.trans hb)
                          clear ho hb
                          go_wp2_with fail
                          go_roundw
                          case rel => exact ⟨k + 1, by omega, by go_num, HK2, HOJ, HBJ⟩
                          case measure => simp [intOf]; omega
                        | false =>
                          have HF : Hid (r = false) := Lib.hid (NO.out fun hg => by
                            have h1 := of_decide_eq_false HBB.out.symm
                            exact h1 ((HPE.out.map Prod.snd).mem_iff.2 (hg.2.2.2.2 la (List.mem_map_of_mem (f := Prod.snd) HMA.out) lb (List.mem_map_of_mem (f := Prod.snd) HMB.out))))
                          go_wp2_with fail
                          refine HSE.out.mono ?_
                          rintro e wJ ⟨⟨q, rfl⟩, ho, hb⟩
                          have HBJ : Hid (Below w.heap.size w wJ) := Lib.hid (HBE.out.trans ((HOE3.out.trans hb).below HBE.out.size fun k hk e => by have := HGE.out.1; omega))
                          clear ho hb
                          go_wp2_with fail
                          go_ret
                          exact ⟨by rw [HF.out]; rfl, HBJ.out⟩
                  · have hkk : ¬ (k : Int) < (N : Int) := by omega
                    have HI2 : Hid (∀ p, p < i + 1 → ∀ y ∈ L, compL (wayAt L p).2 y.2 ∈ L.map Prod.snd) := Lib.hid fun p hp y hy => by
                      rcases Nat.lt_or_ge p i with h | h
                      · exact HI.out p h y hy
                      · obtain rfl : p = i := by omega
                        rw [← HAI.out]
                        obtain ⟨q, hq, rfl⟩ := List.getElem_of_mem hy
                        have := HK.out q (by have := HN.out; omega)
                        simpa [wayAt, List.getD, List.getElem?_eq_getElem hq] using this
                    go_wp2_with fail
                    go_roundw
                    case rel => exact ⟨i + 1, by omega, by go_num, HI2, HOr, HBr⟩
                    case measure => simp [intOf]; omega
              · have hii : ¬ (i : Int) < (N : Int) := by omega
                have HF : Hid (r = true) := Lib.hid (by
                  rw [HR.out]
                  refine decide_eq_true ⟨by omega, ?_, fun a ha => ?_, (HPE.out.map Prod.snd).nodup_iff.1 HND.out, fun a ha b hb => ?_⟩
                  · intro e
                    have h1 := congrArg List.length e
                    have h2 := HN.out
                    have h3 := HNP.out
                    simp at h1
                    rw [h1] at h2
                    simp at h2
                    omega
                  · obtain ⟨x, hx, rfl⟩ := List.mem_map.1 ha
                    exact HPM.out x hx
                  · obtain ⟨x, hx, rfl⟩ := List.mem_map.1 ha
                    obtain ⟨y, hy, rfl⟩ := List.mem_map.1 hb
                    obtain ⟨q, hq, rfl⟩ := List.getElem_of_mem hx
                    have := HI.out q (by have := HN.out; omega) y hy
                    simpa [wayAt, List.getD, List.getElem?_eq_getElem hq] using this)
                have HBJ : Hid (Below w.heap.size w wF) := Lib.hid (HBE.out.trans (HBr.out.below HBE.out.size fun k hk e => by have := HGE.out.1; omega))
                go_wp2_with fail
                go_ret
                exact ⟨by rw [HF.out]; rfl, HBJ.out⟩
      · rw [decide_eq_true hpm] at HBD
        have HF : Hid (r = false) := Lib.hid (NO.out fun hg => hpm fun x hx => hg.2.2.1 _ (List.mem_map_of_mem hx))
        clear hpm
        go_wp2_with fail
        refine HBD.out.mono ?_
        rintro e w1 ⟨rfl, hb⟩
        go_wp2_with fail
        go_ret
        exact ⟨by rw [HF.out]; rfl, bw_call HBA.out hb⟩
end Go.Proofs.YtiajlmajenabiaaGreat
