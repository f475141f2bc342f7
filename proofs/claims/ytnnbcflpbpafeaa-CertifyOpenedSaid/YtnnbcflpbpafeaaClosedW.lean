/- closed, walked: has each directed edge the other way round beside it? No condition. -/
import Derived.Test.YtnnbcflpbpafeaaPlainC
import Derived.Test.YtnnbcflpbpafeaaRowT
namespace Go.Proofs.Ytnnbcflpbpafeaa
open Go.RowKit

def backB (T : List Tri) (x y : Int) : Bool := T.any fun u => edgeB u x y
def backs (T : List Tri) (t : Tri) : List Bool := [backB T t.b t.a, backB T t.c t.b, backB T t.a t.c]
def closedB (T : List Tri) : Bool := T.all fun t => (backs T t).all id
theorem closed_iff (T : List Tri) : closedB T = true ↔ ClosedT T := by
  unfold closedB ClosedT
  rw [List.all_eq_true]
  constructor
  · intro h t ht a b he
    have h1 := h t ht
    simp only [backs, List.all_cons, List.all_nil, Bool.and_true, Bool.and_eq_true, id, backB, List.any_eq_true] at h1
    obtain ⟨h1, h2, h3⟩ := h1
    rcases edge_iff.1 he with ⟨rfl, rfl⟩ | ⟨rfl, rfl⟩ | ⟨rfl, rfl⟩
    · exact h1
    · exact h2
    · exact h3
  · intro h t ht
    simp only [backs, List.all_cons, List.all_nil, Bool.and_true, Bool.and_eq_true, id, backB, List.any_eq_true]
    exact ⟨h t ht _ _ (edge_iff.2 (.inl ⟨rfl, rfl⟩)), h t ht _ _ (edge_iff.2 (.inr (.inl ⟨rfl, rfl⟩))), h t ht _ _ (edge_iff.2 (.inr (.inr ⟨rfl, rfl⟩)))⟩

theorem tri_cells {w : World} {g : Nat} {x y z : Value} (h : Blk w g 30 #[x, y, z]) : w.cell? ⟨g, 0, none⟩ = some x ∧ w.cell? ⟨g, 1, none⟩ = some y ∧ w.cell? ⟨g, 2, none⟩ = some z := ⟨h.cell 0, h.cell 1, h.cell 2⟩
theorem closed_no {T : List Tri} {t : Tri} (ht : t ∈ T) (h : (backs T t).all id = false) : closedB T = false := by
  cases e : closedB T with
  | false => rfl
  | true =>
    have := (List.all_eq_true.1 e) t ht
    rw [h] at this
    cases this

set_option maxRecDepth 100000 in
set_option maxHeartbeats 4000000 in
theorem closed_any (N : Int) (A : Option Addr) (n c : Nat) (T : List Tri) (w : World) (hn : n ≤ 1000) (ht : TrisAt w w.heap.size A n T) :
    Calls Try.prog 17 #[.agg #[.int .i64 N, .slice A n c]] w (BoolPost w (closedB T)) := by
  obtain rfl : n = T.length := ht.len.symm
  have HT := Lib.hid ht
  clear ht
  go_enter Try.func17, Try.ntmps17
  go_wp2_with fail
  obtain ⟨W, hW⟩ : ∃ W, W = w.alloc (.cells #[.int .i64 N, .slice A T.length c] 24) := ⟨_, rfl⟩
  have HX : Hid (Blk W w.heap.size 24 #[.int .i64 N, .slice A T.length c]) := by subst hW; exact Lib.hid (Blk.new _ _ _)
  have HW : Hid (Below w.heap.size w W) := by subst hW; exact Lib.hid ((Below.refl _ _).alloc (Nat.le_refl _) _)
  have HTW := Lib.hid ((HT.out.below HW.out).more HW.out.size)
  rw [← hW]
  clear hW
  generalize w.heap.size = g at HX ⊢
  go_loopw [12] (fun iv wr => ∃ i : Nat, i ≤ T.length ∧ iv = .int .i64 i ∧ ((T.take i).all fun t => (backs T t).all id) = true ∧ Hid (Below W.heap.size W wr)) (fun iv _ => T.length - (intOf iv).toNat)
  case atStart => exact ⟨0, by omega, rfl, by simp, Lib.hid (Below.refl _ _)⟩
  case round =>
    obtain ⟨i, hi, rfl, hall, HB⟩ := hrel
    by_cases hlt : i < T.length
    · obtain ⟨ad, t, rfl, htk, _, hadb, hc3⟩ := ((HTW.out.below HB.out).more HB.out.size).at_ hlt
      obtain ⟨d0, d1, d2, d3, d4, d5⟩ := hc3
      have hk0 : (0 : Int) ≤ (i : Int) := by omega
      have hk1 : (i : Int) < (T.length : Int) := by omega
      obtain ⟨s0, s1, _, _, sl⟩ := soup_facts (blk_call HX.out HB.out)
      go_wp2_with fail
      obtain ⟨V0, hV0⟩ : ∃ V, V = wr.alloc (.cells #[.int .i64 t.a, .int .i64 t.b, .int .i64 t.c] 30) := ⟨_, rfl⟩
      have HV0 : Hid (Below wr.heap.size wr V0) := by subst hV0; exact Lib.hid ((Below.refl _ _).alloc (Nat.le_refl _) _)
      have HT0 : Hid (Blk V0 wr.heap.size 30 #[.int .i64 t.a, .int .i64 t.b, .int .i64 t.c]) := by subst hV0; exact Lib.hid (Blk.new _ _ _)
      rw [← hV0]
      have HWV : Hid (Below W.heap.size W V0) := Lib.hid (HB.out.trans (HV0.out.mono HB.out.size))
      have HAL := Lib.hid hall
      generalize wr.heap.size = tb at *
      clear hV0 d0 d1 d2 d3 d4 d5 s0 s1 sl HV0 hall HB
      have HEND : Hid (∀ w', Below V0.heap.size V0 w' → Below w.heap.size w w') := Lib.hid fun w' h => by
        have h2 := HWV.out.trans (h.mono HWV.out.size)
        exact HW.out.trans (h2.mono HW.out.size)
      go_loopw [16] (fun kv wm => ∃ q : Nat, q ≤ 3 ∧ kv = .int .i64 q ∧ ((backs T t).take q).all id = true ∧ Hid (Below V0.heap.size V0 wm)) (fun kv _ => 3 - (intOf kv).toNat)
      case atStart => exact ⟨0, by omega, rfl, by simp, Lib.hid (Below.refl _ _)⟩
      case round =>
        obtain ⟨q, hq, hkv, hall2, HBM⟩ := hrel
        obtain ⟨wm, hwm⟩ : ∃ wm : World, wm = wr := ⟨_, rfl⟩
        rw [← hwm] at HBM ⊢
        clear hwm
        have HTB := Lib.hid (blk_call HT0.out HBM.out)
        have HVM : Hid (Below W.heap.size W wm) := Lib.hid (HWV.out.trans (HBM.out.mono HWV.out.size))
        have HTM := Lib.hid ((HTW.out.below HVM.out).more HVM.out.size)
        obtain ⟨s0, s1, _, _, sl⟩ := soup_facts (blk_call HX.out HVM.out)
        rcases (by omega : q = 0 ∨ q = 1 ∨ q = 2 ∨ q = 3) with rfl | rfl | rfl | rfl
        · have v5 : IntKind.i64.wrap (0 + 1) = 1 := by decide
          have r5 : Int.tmod 1 3 = 1 := by decide
          have v6 : IntKind.i64.wrap 1 = 1 := by decide
          have hkv' : _ = Value.int .i64 0 := hkv
          subst hkv'
          clear hkv
          have hq1 : ((backs T t).take (0 + 1)).all id = (((backs T t).take 0).all id && backB T t.b t.a) := by simp [backs]
          go_wp2_with fail
          go_loopw [6, 22] (fun bv jv wq => ∃ j : Nat, j ≤ T.length ∧ jv = .int .i64 j ∧ bv = .bool ((T.take j).any fun u => edgeB u t.b t.a) ∧ Hid (Below wm.heap.size wm wq)) (fun _ jv _ => T.length - (intOf jv).toNat)
          case atStart => exact ⟨0, by omega, rfl, by simp, Lib.hid (Below.refl _ _)⟩
          case round =>
            obtain ⟨j, hj, rfl, rfl, HBQ⟩ := hrel
            by_cases hjt : j < T.length
            · obtain ⟨ad2, u, e2, hju, _, hadb2, hd3⟩ := (HTM.out.below HBQ.out).at_ hjt
              cases e2
              obtain ⟨f0, f1, f2, f3, f4, f5⟩ := hd3
              have HTJ := Lib.hid (take_snoc_ T j hju)
              have HS1 : Hid (((T.take (j + 1)).any fun u => edgeB u t.b t.a) = (((T.take j).any fun u => edgeB u t.b t.a) || edgeB u t.b t.a)) := Lib.hid (by rw [HTJ.out, List.any_append]; simp)
              generalize ((T.take j).any fun u => edgeB u t.b t.a) = bj at *
              have hj0 : (0 : Int) ≤ (j : Int) := by omega
              have hj1 : (j : Int) < (T.length : Int) := by omega
              obtain ⟨t0, t1, t2⟩ := tri_cells (blk_call HTB.out HBQ.out)
              have tl := (blk_call HTB.out HBQ.out).lt
              cases bj with
              | true =>
                go_wp2_with fail
                go_quiet (fail)
                go_wp2_with fail
                exact ⟨⟨j + 1, by omega, by go_num, by rw [HS1.out]; rfl, Lib.hid (below_drewN (HBQ.out.alloc HBQ.out.size _) _)⟩, by simp [intOf]; omega⟩
              | false =>
                go_wp2_with fail
                obtain ⟨V, hV⟩ : ∃ V, V = wr.alloc (.cells #[.int .i64 u.a, .int .i64 u.b, .int .i64 u.c] 30) := ⟨_, rfl⟩
                have HVB : Hid (Below wr.heap.size wr V) := by subst hV; exact Lib.hid ((Below.refl _ _).alloc (Nat.le_refl _) _)
                have HUB : Hid (Blk V wr.heap.size 30 #[.int .i64 u.a, .int .i64 u.b, .int .i64 u.c]) := by subst hV; exact Lib.hid (Blk.new _ _ _)
                rw [← hV]
                have HTV := Lib.hid (blk_call (blk_call HTB.out HBQ.out) HVB.out)
                have HQV : Hid (Below wm.heap.size wm V) := Lib.hid (HBQ.out.trans (HVB.out.mono HBQ.out.size))
                generalize wr.heap.size = ub at *
                clear hV f0 f1 f2 f3 f4 f5 t0 t1 t2 tl HBQ HVB
                have HB0 := Lib.hid (Below.refl V.heap.size V)
                have HS : Hid (∀ w', Below V.heap.size V w' → w'.cell? ⟨tb, 0, none⟩ = some (.int .i64 t.a) ∧ w'.cell? ⟨tb, 1, none⟩ = some (.int .i64 t.b) ∧ w'.cell? ⟨tb, 2, none⟩ = some (.int .i64 t.c) ∧ w'.cell? ⟨ub, 0, none⟩ = some (.int .i64 u.a) ∧ w'.cell? ⟨ub, 1, none⟩ = some (.int .i64 u.b) ∧ w'.cell? ⟨ub, 2, none⟩ = some (.int .i64 u.c) ∧ Below V.heap.size V w') := Lib.hid fun w' h => by
                  obtain ⟨a0, a1, a2⟩ := tri_cells (blk_call HTV.out h)
                  obtain ⟨b0, b1, b2⟩ := tri_cells (blk_call HUB.out h)
                  exact ⟨a0, a1, a2, b0, b1, b2, h⟩
                have HBO : Hid (∀ w', (w'.cell? ⟨tb, 0, none⟩ = some (.int .i64 t.a) ∧ w'.cell? ⟨tb, 1, none⟩ = some (.int .i64 t.b) ∧ w'.cell? ⟨tb, 2, none⟩ = some (.int .i64 t.c) ∧ w'.cell? ⟨ub, 0, none⟩ = some (.int .i64 u.a) ∧ w'.cell? ⟨ub, 1, none⟩ = some (.int .i64 u.b) ∧ w'.cell? ⟨ub, 2, none⟩ = some (.int .i64 u.c) ∧ Below V.heap.size V w') → Below V.heap.size V w') := Lib.hid fun w' h => h.2.2.2.2.2.2
                have HED := Lib.hid fun w => edge_any u t.b t.a w
                go_region_held3 (fun w' => w'.cell? ⟨tb, 0, none⟩ = some (.int .i64 t.a) ∧ w'.cell? ⟨tb, 1, none⟩ = some (.int .i64 t.b) ∧ w'.cell? ⟨tb, 2, none⟩ = some (.int .i64 t.c) ∧ w'.cell? ⟨ub, 0, none⟩ = some (.int .i64 u.a) ∧ w'.cell? ⟨ub, 1, none⟩ = some (.int .i64 u.b) ∧ w'.cell? ⟨ub, 2, none⟩ = some (.int .i64 u.c) ∧ Below V.heap.size V w')
                  ((refine HS.out _ ?_; repeat (first | exact HB0.out | exact bw_call (HBO.out _ (by assumption)) hb9 | refine bw_drew ?_ | exact HBO.out _ (by assumption))))
                  ((go_at_call 33; refine (HED.out _).mono ?_; rintro e w9 ⟨rfl, hb9⟩; have hB9 := bw_call (HBO.out _ (by assumption)) hb9))
                go_wp2_with fail
                exact ⟨⟨j + 1, by omega, by go_num, by rw [HS1.out]; simp, Lib.hid (bw_call HQV.out hB9)⟩, by simp [intOf]; omega⟩
            · obtain rfl : j = T.length := by omega
              have HQQ := Lib.hid (HBM.out.trans (HBQ.out.mono HBM.out.size))
              rw [List.take_length]
              have hq2 : (T.any fun u => edgeB u t.b t.a) = backB T t.b t.a := rfl
              rw [hq2]
              cases hbk : backB T t.b t.a with
              | false =>
                go_wp2_with fail
                go_ret
                refine ⟨?_, HEND.out _ HQQ.out⟩
                rw [closed_no (List.mem_of_getElem? htk) (by rw [← Bool.not_eq_true]; intro e; rw [hbk] at hq1; simp [backs, hbk] at e)]
                rfl
              | true =>
                go_wp2_with fail
                exact ⟨⟨0 + 1, by omega, by go_num, by rw [hq1, hall2, hbk]; rfl, HQQ⟩, by simp [intOf]⟩
        · have v5 : IntKind.i64.wrap (1 + 1) = 2 := by decide
          have r5 : Int.tmod 2 3 = 2 := by decide
          have v6 : IntKind.i64.wrap 2 = 2 := by decide
          have hkv' : _ = Value.int .i64 1 := hkv
          subst hkv'
          clear hkv
          have hq1 : ((backs T t).take (1 + 1)).all id = (((backs T t).take 1).all id && backB T t.c t.b) := by simp [backs]
          go_wp2_with fail
          go_loopw [6, 22] (fun bv jv wq => ∃ j : Nat, j ≤ T.length ∧ jv = .int .i64 j ∧ bv = .bool ((T.take j).any fun u => edgeB u t.c t.b) ∧ Hid (Below wm.heap.size wm wq)) (fun _ jv _ => T.length - (intOf jv).toNat)
          case atStart => exact ⟨0, by omega, rfl, by simp, Lib.hid (Below.refl _ _)⟩
          case round =>
            obtain ⟨j, hj, rfl, rfl, HBQ⟩ := hrel
            by_cases hjt : j < T.length
            · obtain ⟨ad2, u, e2, hju, _, hadb2, hd3⟩ := (HTM.out.below HBQ.out).at_ hjt
              cases e2
              obtain ⟨f0, f1, f2, f3, f4, f5⟩ := hd3
              have HTJ := Lib.hid (take_snoc_ T j hju)
              have HS1 : Hid (((T.take (j + 1)).any fun u => edgeB u t.c t.b) = (((T.take j).any fun u => edgeB u t.c t.b) || edgeB u t.c t.b)) := Lib.hid (by rw [HTJ.out, List.any_append]; simp)
              generalize ((T.take j).any fun u => edgeB u t.c t.b) = bj at *
              have hj0 : (0 : Int) ≤ (j : Int) := by omega
              have hj1 : (j : Int) < (T.length : Int) := by omega
              obtain ⟨t0, t1, t2⟩ := tri_cells (blk_call HTB.out HBQ.out)
              have tl := (blk_call HTB.out HBQ.out).lt
              cases bj with
              | true =>
                go_wp2_with fail
                go_quiet (fail)
                go_wp2_with fail
                exact ⟨⟨j + 1, by omega, by go_num, by rw [HS1.out]; rfl, Lib.hid (below_drewN (HBQ.out.alloc HBQ.out.size _) _)⟩, by simp [intOf]; omega⟩
              | false =>
                go_wp2_with fail
                obtain ⟨V, hV⟩ : ∃ V, V = wr.alloc (.cells #[.int .i64 u.a, .int .i64 u.b, .int .i64 u.c] 30) := ⟨_, rfl⟩
                have HVB : Hid (Below wr.heap.size wr V) := by subst hV; exact Lib.hid ((Below.refl _ _).alloc (Nat.le_refl _) _)
                have HUB : Hid (Blk V wr.heap.size 30 #[.int .i64 u.a, .int .i64 u.b, .int .i64 u.c]) := by subst hV; exact Lib.hid (Blk.new _ _ _)
                rw [← hV]
                have HTV := Lib.hid (blk_call (blk_call HTB.out HBQ.out) HVB.out)
                have HQV : Hid (Below wm.heap.size wm V) := Lib.hid (HBQ.out.trans (HVB.out.mono HBQ.out.size))
                generalize wr.heap.size = ub at *
                clear hV f0 f1 f2 f3 f4 f5 t0 t1 t2 tl HBQ HVB
                have HB0 := Lib.hid (Below.refl V.heap.size V)
                have HS : Hid (∀ w', Below V.heap.size V w' → w'.cell? ⟨tb, 0, none⟩ = some (.int .i64 t.a) ∧ w'.cell? ⟨tb, 1, none⟩ = some (.int .i64 t.b) ∧ w'.cell? ⟨tb, 2, none⟩ = some (.int .i64 t.c) ∧ w'.cell? ⟨ub, 0, none⟩ = some (.int .i64 u.a) ∧ w'.cell? ⟨ub, 1, none⟩ = some (.int .i64 u.b) ∧ w'.cell? ⟨ub, 2, none⟩ = some (.int .i64 u.c) ∧ Below V.heap.size V w') := Lib.hid fun w' h => by
                  obtain ⟨a0, a1, a2⟩ := tri_cells (blk_call HTV.out h)
                  obtain ⟨b0, b1, b2⟩ := tri_cells (blk_call HUB.out h)
                  exact ⟨a0, a1, a2, b0, b1, b2, h⟩
                have HBO : Hid (∀ w', (w'.cell? ⟨tb, 0, none⟩ = some (.int .i64 t.a) ∧ w'.cell? ⟨tb, 1, none⟩ = some (.int .i64 t.b) ∧ w'.cell? ⟨tb, 2, none⟩ = some (.int .i64 t.c) ∧ w'.cell? ⟨ub, 0, none⟩ = some (.int .i64 u.a) ∧ w'.cell? ⟨ub, 1, none⟩ = some (.int .i64 u.b) ∧ w'.cell? ⟨ub, 2, none⟩ = some (.int .i64 u.c) ∧ Below V.heap.size V w') → Below V.heap.size V w') := Lib.hid fun w' h => h.2.2.2.2.2.2
                have HED := Lib.hid fun w => edge_any u t.c t.b w
                go_region_held3 (fun w' => w'.cell? ⟨tb, 0, none⟩ = some (.int .i64 t.a) ∧ w'.cell? ⟨tb, 1, none⟩ = some (.int .i64 t.b) ∧ w'.cell? ⟨tb, 2, none⟩ = some (.int .i64 t.c) ∧ w'.cell? ⟨ub, 0, none⟩ = some (.int .i64 u.a) ∧ w'.cell? ⟨ub, 1, none⟩ = some (.int .i64 u.b) ∧ w'.cell? ⟨ub, 2, none⟩ = some (.int .i64 u.c) ∧ Below V.heap.size V w')
                  ((refine HS.out _ ?_; repeat (first | exact HB0.out | exact bw_call (HBO.out _ (by assumption)) hb9 | refine bw_drew ?_ | exact HBO.out _ (by assumption))))
                  ((go_at_call 33; refine (HED.out _).mono ?_; rintro e w9 ⟨rfl, hb9⟩; have hB9 := bw_call (HBO.out _ (by assumption)) hb9))
                go_wp2_with fail
                exact ⟨⟨j + 1, by omega, by go_num, by rw [HS1.out]; simp, Lib.hid (bw_call HQV.out hB9)⟩, by simp [intOf]; omega⟩
            · obtain rfl : j = T.length := by omega
              have HQQ := Lib.hid (HBM.out.trans (HBQ.out.mono HBM.out.size))
              rw [List.take_length]
              have hq2 : (T.any fun u => edgeB u t.c t.b) = backB T t.c t.b := rfl
              rw [hq2]
              cases hbk : backB T t.c t.b with
              | false =>
                go_wp2_with fail
                go_ret
                refine ⟨?_, HEND.out _ HQQ.out⟩
                rw [closed_no (List.mem_of_getElem? htk) (by rw [← Bool.not_eq_true]; intro e; rw [hbk] at hq1; simp [backs, hbk] at e)]
                rfl
              | true =>
                go_wp2_with fail
                exact ⟨⟨1 + 1, by omega, by go_num, by rw [hq1, hall2, hbk]; rfl, HQQ⟩, by simp [intOf]⟩
        · have v5 : IntKind.i64.wrap (2 + 1) = 3 := by decide
          have r5 : Int.tmod 3 3 = 0 := by decide
          have v6 : IntKind.i64.wrap 3 = 3 := by decide
          have hkv' : _ = Value.int .i64 2 := hkv
          subst hkv'
          clear hkv
          have hq1 : ((backs T t).take (2 + 1)).all id = (((backs T t).take 2).all id && backB T t.a t.c) := by simp [backs, Bool.and_assoc]
          go_wp2_with fail
          go_loopw [6, 22] (fun bv jv wq => ∃ j : Nat, j ≤ T.length ∧ jv = .int .i64 j ∧ bv = .bool ((T.take j).any fun u => edgeB u t.a t.c) ∧ Hid (Below wm.heap.size wm wq)) (fun _ jv _ => T.length - (intOf jv).toNat)
          case atStart => exact ⟨0, by omega, rfl, by simp, Lib.hid (Below.refl _ _)⟩
          case round =>
            obtain ⟨j, hj, rfl, rfl, HBQ⟩ := hrel
            by_cases hjt : j < T.length
            · obtain ⟨ad2, u, e2, hju, _, hadb2, hd3⟩ := (HTM.out.below HBQ.out).at_ hjt
              cases e2
              obtain ⟨f0, f1, f2, f3, f4, f5⟩ := hd3
              have HTJ := Lib.hid (take_snoc_ T j hju)
              have HS1 : Hid (((T.take (j + 1)).any fun u => edgeB u t.a t.c) = (((T.take j).any fun u => edgeB u t.a t.c) || edgeB u t.a t.c)) := Lib.hid (by rw [HTJ.out, List.any_append]; simp)
              generalize ((T.take j).any fun u => edgeB u t.a t.c) = bj at *
              have hj0 : (0 : Int) ≤ (j : Int) := by omega
              have hj1 : (j : Int) < (T.length : Int) := by omega
              obtain ⟨t0, t1, t2⟩ := tri_cells (blk_call HTB.out HBQ.out)
              have tl := (blk_call HTB.out HBQ.out).lt
              cases bj with
              | true =>
                go_wp2_with fail
                go_quiet (fail)
                go_wp2_with fail
                exact ⟨⟨j + 1, by omega, by go_num, by rw [HS1.out]; rfl, Lib.hid (below_drewN (HBQ.out.alloc HBQ.out.size _) _)⟩, by simp [intOf]; omega⟩
              | false =>
                go_wp2_with fail
                obtain ⟨V, hV⟩ : ∃ V, V = wr.alloc (.cells #[.int .i64 u.a, .int .i64 u.b, .int .i64 u.c] 30) := ⟨_, rfl⟩
                have HVB : Hid (Below wr.heap.size wr V) := by subst hV; exact Lib.hid ((Below.refl _ _).alloc (Nat.le_refl _) _)
                have HUB : Hid (Blk V wr.heap.size 30 #[.int .i64 u.a, .int .i64 u.b, .int .i64 u.c]) := by subst hV; exact Lib.hid (Blk.new _ _ _)
                rw [← hV]
                have HTV := Lib.hid (blk_call (blk_call HTB.out HBQ.out) HVB.out)
                have HQV : Hid (Below wm.heap.size wm V) := Lib.hid (HBQ.out.trans (HVB.out.mono HBQ.out.size))
                generalize wr.heap.size = ub at *
                clear hV f0 f1 f2 f3 f4 f5 t0 t1 t2 tl HBQ HVB
                have HB0 := Lib.hid (Below.refl V.heap.size V)
                have HS : Hid (∀ w', Below V.heap.size V w' → w'.cell? ⟨tb, 0, none⟩ = some (.int .i64 t.a) ∧ w'.cell? ⟨tb, 1, none⟩ = some (.int .i64 t.b) ∧ w'.cell? ⟨tb, 2, none⟩ = some (.int .i64 t.c) ∧ w'.cell? ⟨ub, 0, none⟩ = some (.int .i64 u.a) ∧ w'.cell? ⟨ub, 1, none⟩ = some (.int .i64 u.b) ∧ w'.cell? ⟨ub, 2, none⟩ = some (.int .i64 u.c) ∧ Below V.heap.size V w') := Lib.hid fun w' h => by
                  obtain ⟨a0, a1, a2⟩ := tri_cells (blk_call HTV.out h)
                  obtain ⟨b0, b1, b2⟩ := tri_cells (blk_call HUB.out h)
                  exact ⟨a0, a1, a2, b0, b1, b2, h⟩
                have HBO : Hid (∀ w', (w'.cell? ⟨tb, 0, none⟩ = some (.int .i64 t.a) ∧ w'.cell? ⟨tb, 1, none⟩ = some (.int .i64 t.b) ∧ w'.cell? ⟨tb, 2, none⟩ = some (.int .i64 t.c) ∧ w'.cell? ⟨ub, 0, none⟩ = some (.int .i64 u.a) ∧ w'.cell? ⟨ub, 1, none⟩ = some (.int .i64 u.b) ∧ w'.cell? ⟨ub, 2, none⟩ = some (.int .i64 u.c) ∧ Below V.heap.size V w') → Below V.heap.size V w') := Lib.hid fun w' h => h.2.2.2.2.2.2
                have HED := Lib.hid fun w => edge_any u t.a t.c w
                go_region_held3 (fun w' => w'.cell? ⟨tb, 0, none⟩ = some (.int .i64 t.a) ∧ w'.cell? ⟨tb, 1, none⟩ = some (.int .i64 t.b) ∧ w'.cell? ⟨tb, 2, none⟩ = some (.int .i64 t.c) ∧ w'.cell? ⟨ub, 0, none⟩ = some (.int .i64 u.a) ∧ w'.cell? ⟨ub, 1, none⟩ = some (.int .i64 u.b) ∧ w'.cell? ⟨ub, 2, none⟩ = some (.int .i64 u.c) ∧ Below V.heap.size V w')
                  ((refine HS.out _ ?_; repeat (first | exact HB0.out | exact bw_call (HBO.out _ (by assumption)) hb9 | refine bw_drew ?_ | exact HBO.out _ (by assumption))))
                  ((go_at_call 33; refine (HED.out _).mono ?_; rintro e w9 ⟨rfl, hb9⟩; have hB9 := bw_call (HBO.out _ (by assumption)) hb9))
                go_wp2_with fail
                exact ⟨⟨j + 1, by omega, by go_num, by rw [HS1.out]; simp, Lib.hid (bw_call HQV.out hB9)⟩, by simp [intOf]; omega⟩
            · obtain rfl : j = T.length := by omega
              have HQQ := Lib.hid (HBM.out.trans (HBQ.out.mono HBM.out.size))
              rw [List.take_length]
              have hq2 : (T.any fun u => edgeB u t.a t.c) = backB T t.a t.c := rfl
              rw [hq2]
              cases hbk : backB T t.a t.c with
              | false =>
                go_wp2_with fail
                go_ret
                refine ⟨?_, HEND.out _ HQQ.out⟩
                rw [closed_no (List.mem_of_getElem? htk) (by rw [← Bool.not_eq_true]; intro e; rw [hbk] at hq1; simp [backs, hbk] at e)]
                rfl
              | true =>
                go_wp2_with fail
                exact ⟨⟨2 + 1, by omega, by go_num, by rw [hq1, hall2, hbk]; rfl, HQQ⟩, by simp [intOf]⟩
        · have hkv' : _ = Value.int .i64 3 := hkv
          subst hkv'
          clear hkv
          go_wp2_with fail
          refine ⟨⟨i + 1, by omega, by go_num, ?_, Lib.hid HVM.out⟩, by simp [intOf]; omega⟩
          rw [take_snoc_ T i htk, List.all_append, HAL.out]
          simpa [backs] using hall2
    · obtain rfl : i = T.length := by omega
      go_wp2_with fail
      go_ret
      rw [List.take_length] at hall
      exact ⟨by rw [show closedB T = true from hall]; rfl, HW.out.trans (HB.out.mono HW.out.size)⟩
end Go.Proofs.Ytnnbcflpbpafeaa
