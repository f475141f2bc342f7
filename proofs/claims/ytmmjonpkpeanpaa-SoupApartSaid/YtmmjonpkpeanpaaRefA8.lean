/- The document's small functions of layer 8, walked: Same, Ints, place, Turned, Fits. No condition. -/
import Derived.Test.YtmmjonpkpeanpaaPick8
namespace Go.Proofs.Ytmmjonpkpeanpaa
open Go.RowKit
theorem run_ne_tri (a b c : Int) (w : World) : (binOp .neq 51 (.agg #[.int .i64 a, .int .i64 b, .int .i64 c]) (.agg #[.int .i64 a, .int .i64 b, .int .i64 c])).run Try.prog w = .ok (.bool false) w := by
  rw [run_neq_struct]
  show ((Op.equalIn (9998 + 1 + 1) _ _ _).run _ _).andThen _ = _
  unfold Op.equalIn
  simp [go_sem, Try.underlying3, Result.andThen, List.range']
set_option maxRecDepth 100000 in
set_option maxHeartbeats 4000000 in
theorem refSame_any (N : Int) (X : List Tri) (A A' : Option Addr) (n c c' : Nat) (w : World) (hn : n ≤ 1000000) (h1 : TrisAt w w.heap.size A n X) (h2 : TrisAt w w.heap.size A' n X) :
    Calls Try.prog 17 #[.agg #[.int .i64 N, .slice A n c], .agg #[.int .i64 N, .slice A' n c']] w (BoolPost w true) := by
  obtain ⟨V, hV⟩ : ∃ V, V = (w.alloc (.cells #[.int .i64 N, .slice A n c] 24)).alloc (.cells #[.int .i64 N, .slice A' n c'] 24) := ⟨_, rfl⟩
  have HB : Hid (Below w.heap.size w V) := by subst hV; exact Lib.hid (bw_alloc (bw_alloc (Below.refl _ _) _) _)
  have HX : Hid (Blk V w.heap.size 24 #[.int .i64 N, .slice A n c]) := by subst hV; exact Lib.hid ((Blk.new _ _ _).alloc _)
  have HY : Hid (Blk V (w.heap.size + 1) 24 #[.int .i64 N, .slice A' n c']) := by subst hV; exact Lib.hid (blk_new1 _ _ _ _)
  have H1 := Lib.hid ((h1.below HB.out).more HB.out.size)
  have H2 := Lib.hid ((h2.below HB.out).more HB.out.size)
  clear h1 h2
  go_enter Try.func17, Try.ntmps17
  go_wp2_with fail
  rw [← hV]
  clear hV
  go_loopw [5] (fun iv wr => ∃ k q : Nat, k ≤ n ∧ iv = .int .i64 k ∧ wr = V.drewN q) (fun iv _ => n - (intOf iv).toNat)
  case atStart => exact ⟨0, 0, by omega, rfl, rfl⟩
  case round =>
    obtain ⟨k, q, hk, rfl, rfl⟩ := hrel
    obtain ⟨x0, x1, _, _, _⟩ := soup_facts HX.out
    obtain ⟨y0, y1, _, _, _⟩ := soup_facts HY.out
    by_cases hlt : k < n
    · obtain ⟨ad, t, rfl, htk, _, hadb, hc3⟩ := H1.out.at_ hlt
      obtain ⟨ad2, t2, rfl, htk2, _, hadb2, hc4⟩ := H2.out.at_ hlt
      rw [htk] at htk2
      cases htk2
      obtain ⟨d0, d1, d2, d3, d4, d5⟩ := hc3
      obtain ⟨e0, e1, e2, e3, e4, e5⟩ := hc4
      obtain ⟨ta, tb, tc⟩ := t
      have hne := run_ne_tri ta tb tc
      have hk0 : (0 : Int) ≤ (k : Int) := by omega
      have hk1 : (k : Int) < (n : Int) := by omega
      simp only at d0 d1 d2 d3 d4 d5 e0 e1 e2 e3 e4 e5
      clear htk
      go_wp2_with fail
      go_quiet (fail)
      go_wp2_with fail
      exact ⟨⟨k + 1, _, by omega, by go_num, rfl⟩, by simp [intOf]; omega⟩
    · obtain rfl : k = n := by omega
      go_wp2_with fail
      go_ret
      exact ⟨rfl, below_drewN HB.out q⟩
set_option maxRecDepth 100000 in
set_option maxHeartbeats 4000000 in
theorem refInts_any (X : List Int) (A A' : Option Addr) (n c c' : Nat) (w : World) (hn : n ≤ 1000000) (h1 : Reads w w.heap.size 1 A n (ZL X)) (h2 : Reads w w.heap.size 1 A' n (ZL X)) :
    Calls Try.prog 18 #[.slice A n c, .slice A' n c'] w (BoolPost w true) := by
  have H1 := Lib.hid h1
  have H2 := Lib.hid h2
  clear h1 h2
  go_enter Try.func18, Try.ntmps18
  go_wp2_with fail
  go_loopw [5] (fun iv wr => ∃ k q : Nat, k ≤ n ∧ iv = .int .i64 k ∧ wr = w.drewN q) (fun iv _ => n - (intOf iv).toNat)
  case atStart => exact ⟨0, 0, by omega, rfl, rfl⟩
  case round =>
    obtain ⟨k, q, hk, rfl, rfl⟩ := hrel
    by_cases hlt : k < n
    · obtain ⟨ad, u, rfl, had, hu, hc⟩ := H1.out.at_ hlt
      obtain ⟨ad2, u2, rfl, had2, hu2, hc2⟩ := H2.out.at_ hlt
      obtain ⟨x, hx, rfl⟩ := zl_at hu
      obtain ⟨x2, hx2, rfl⟩ := zl_at hu2
      rw [hx] at hx2
      cases hx2
      have hk0 : (0 : Int) ≤ (k : Int) := by omega
      have hk1 : (k : Int) < (n : Int) := by omega
      clear hu hu2 hx
      go_wp2_with fail
      go_quiet (fail)
      go_wp2_with fail
      exact ⟨⟨k + 1, _, by omega, by go_num, rfl⟩, by simp [intOf]; omega⟩
    · obtain rfl : k = n := by omega
      go_wp2_with fail
      go_ret
      exact ⟨rfl, below_drewN (Below.refl _ _) q⟩
theorem place_not {l : List Int} {x : Int} (h : x ∉ l) : placeL l x = -1 := by unfold placeL; rw [if_neg h]
theorem place_at {l : List Int} {x : Int} {k : Nat} (h : x ∉ l.take k) (hk : l[k]? = some x) : placeL l x = k := by
  have hm := List.mem_of_getElem? hk
  unfold placeL
  rw [if_pos hm]
  have : l.idxOf x = k := by
    have hl : k < l.length := (List.getElem?_eq_some_iff.1 hk).1
    have e : l = l.take k ++ x :: l.drop (k + 1) := by
      have := (List.take_append_drop k l).symm
      rw [List.drop_eq_getElem_cons hl] at this
      rw [List.getElem?_eq_getElem hl] at hk
      injection hk with hk
      rw [hk] at this
      exact this
    rw [e, List.idxOf_append, if_neg h, List.idxOf_cons_self]
    simp
    omega
  rw [this]
set_option maxRecDepth 100000 in
set_option maxHeartbeats 4000000 in
theorem refPlace_any (l : List Int) (A : Option Addr) (n c : Nat) (x : Int) (w : World) (hn : n ≤ 1000000) (h : Reads w w.heap.size 1 A n (ZL l)) :
    Calls Try.prog 36 #[.slice A n c, .int .i64 x] w fun e w' => e = .returned (.int .i64 (placeL l x)) ∧ w' = w := by
  obtain rfl : n = l.length := by have := h.1; simp [ZL] at this; exact this.symm
  have H := Lib.hid h
  clear h
  go_enter Try.func36, Try.ntmps36
  go_wp2_with fail
  go_loopw [5] (fun iv wr => ∃ k : Nat, k ≤ l.length ∧ iv = .int .i64 k ∧ Hid (x ∉ l.take k) ∧ wr = w) (fun iv _ => l.length - (intOf iv).toNat)
  case atStart => exact ⟨0, by omega, rfl, Lib.hid (by simp), rfl⟩
  case round =>
    obtain ⟨k, hk, rfl, HX, rfl⟩ := hrel
    by_cases hlt : k < l.length
    · obtain ⟨ad, u, rfl, had, hu, hc⟩ := H.out.at_ hlt
      obtain ⟨z, hz, rfl⟩ := zl_at hu
      have HZ := Lib.hid hz
      clear hu hz
      have hk0 : (0 : Int) ≤ (k : Int) := by omega
      have hk1 : (k : Int) < (l.length : Int) := by omega
      by_cases hzx : z = x
      · subst hzx
        go_wp2_with fail
        go_ret
        rw [place_at HX.out HZ.out]
        exact ⟨rfl, rfl⟩
      · have hne : (z == x) = false := by rw [beq_eq_false_iff_ne]; exact hzx
        go_wp2_with fail
        refine ⟨⟨k + 1, by omega, by go_num, Lib.hid ?_, by first | rfl | trivial⟩, by simp [intOf]; omega⟩
        rw [take_snoc_Z l k HZ.out, List.mem_append]
        rintro (h | h)
        · exact HX.out h
        · simp at h
          exact hzx h.symm
    · obtain rfl : k = l.length := by omega
      have hx := HX.out
      rw [List.take_length] at hx
      go_wp2_with fail
      go_ret
      rw [place_not hx]
      exact ⟨rfl, rfl⟩
theorem tri_cells {w : World} {g : Nat} {x y z : Value} (h : Blk w g 51 #[x, y, z]) : w.cell? ⟨g, 0, none⟩ = some x ∧ w.cell? ⟨g, 1, none⟩ = some y ∧ w.cell? ⟨g, 2, none⟩ = some z := ⟨h.cell 0, h.cell 1, h.cell 2⟩
theorem tri_frozen {w : World} {g : Nat} {x y z : Value} (h : Blk w g 51 #[x, y, z]) : w.frozen? ⟨g, 0, none⟩ = false ∧ w.frozen? ⟨g, 1, none⟩ = false ∧ w.frozen? ⟨g, 2, none⟩ = false := ⟨h.frozen 0, h.frozen 1, h.frozen 2⟩
theorem tri_set3 {w : World} {g : Nat} {x y z : Value} (h : Blk w g 51 #[x, y, z]) (a b c : Int) : Blk (((w.setCell ⟨g, 0, none⟩ (.int .i64 a)).setCell ⟨g, 1, none⟩ (.int .i64 b)).setCell ⟨g, 2, none⟩ (.int .i64 c)) g 51 #[.int .i64 a, .int .i64 b, .int .i64 c] := by
  simpa using ((h.set_ 0 (.int .i64 a)).set_ 1 (.int .i64 b)).set_ 2 (.int .i64 c)
attribute [local irreducible] Blk LRow World.alloc World.setCell KeepB World.cell? World.frozen?
set_option maxRecDepth 100000 in
set_option maxHeartbeats 4000000 in
theorem refTurned_any (t : Tri) (k : Nat) (w : World) (hk : k < 3) :
    Calls Try.prog 33 #[.agg #[.int .i64 t.a, .int .i64 t.b, .int .i64 t.c], .int .i64 k] w fun e w' => e = .returned (.agg #[.int .i64 (turnT k t).a, .int .i64 (turnT k t).b, .int .i64 (turnT k t).c]) ∧ Below w.heap.size w w' := by
  obtain ⟨a, b, c⟩ := t
  obtain ⟨V, hV⟩ : ∃ V, V = (w.alloc (.cells #[.int .i64 a, .int .i64 b, .int .i64 c] 51)).alloc (.cells #[.int .i64 0, .int .i64 0, .int .i64 0] 51) := ⟨_, rfl⟩
  have HB : Hid (Below w.heap.size w V) := by subst hV; exact Lib.hid (bw_alloc (bw_alloc (Below.refl _ _) _) _)
  have HX : Hid (Blk V w.heap.size 51 #[.int .i64 a, .int .i64 b, .int .i64 c]) := by subst hV; exact Lib.hid ((Blk.new _ _ _).alloc _)
  have HY : Hid (Blk V (w.heap.size + 1) 51 #[.int .i64 0, .int .i64 0, .int .i64 0]) := by subst hV; exact Lib.hid (blk_new1 _ _ _ _)
  rcases (by omega : k = 0 ∨ k = 1 ∨ k = 2) with rfl | rfl | rfl
  · change Calls Try.prog 33 #[.agg #[.int .i64 a, .int .i64 b, .int .i64 c], .int .i64 0] w fun e w' => e = .returned (.agg #[.int .i64 a, .int .i64 b, .int .i64 c]) ∧ Below w.heap.size w w'
    go_enter Try.func33, Try.ntmps33
    go_wp2_with fail
    rw [← hV]
    clear hV
    have HG : Hid (w.heap.size ≤ w.heap.size + 1) := Lib.hid (by omega)
    have HN : Hid (w.heap.size ≠ w.heap.size + 1) := Lib.hid (by omega)
    generalize w.heap.size + 1 = gy at *
    generalize hgx : w.heap.size = gx at HX HN ⊢
    obtain ⟨x0, x1, x2⟩ := tri_cells HX.out
    obtain ⟨f0, f1, f2⟩ := tri_frozen HY.out
    obtain ⟨y0, y1, y2⟩ := tri_cells HY.out
    have HS : Hid (∀ w', KeepB gy V w' → w'.cell? ⟨gx, 0, none⟩ = some (.int .i64 a) ∧ w'.cell? ⟨gx, 1, none⟩ = some (.int .i64 b) ∧ w'.cell? ⟨gx, 2, none⟩ = some (.int .i64 c) ∧ KeepB gy V w') := Lib.hid fun w' h => ⟨(h.get HN.out).trans x0, (h.get HN.out).trans x1, (h.get HN.out).trans x2, h⟩
    have HKB := Lib.hid (KeepB.refl gy V)
    have HBO : Hid (∀ w', (w'.cell? ⟨gx, 0, none⟩ = some (.int .i64 a) ∧ w'.cell? ⟨gx, 1, none⟩ = some (.int .i64 b) ∧ w'.cell? ⟨gx, 2, none⟩ = some (.int .i64 c) ∧ KeepB gy V w') → KeepB gy V w') := Lib.hid fun w' h => h.2.2.2
    have v1 : IntKind.i64.wrap 1 = 1 := by decide
    have m1 : Int.tmod 1 3 = 1 := by decide
    have v2 : IntKind.i64.wrap 2 = 2 := by decide
    have m2 : Int.tmod 2 3 = 2 := by decide
    have m0 : Int.tmod 0 3 = 0 := by decide
    have v0 : IntKind.i64.wrap 0 = 0 := by decide
    go_region_held3 (fun w' => w'.cell? ⟨gx, 0, none⟩ = some (.int .i64 a) ∧ w'.cell? ⟨gx, 1, none⟩ = some (.int .i64 b) ∧ w'.cell? ⟨gx, 2, none⟩ = some (.int .i64 c) ∧ KeepB gy V w')
      ((refine HS.out _ ?_; repeat (first | exact HKB.out | refine KeepB.set ?_ _ | refine KeepB.drew ?_ | exact HBO.out _ (by assumption))))
      (fail)
    all_goals go_wp2_with fail
    all_goals
      obtain ⟨z0, z1, z2⟩ := tri_cells (tri_set3 HY.out a b c)
      refine bodyPost_ret (v := .agg #[.int .i64 a, .int .i64 b, .int .i64 c]) ?_ rfl ⟨rfl, bw_drew (bw_set (bw_set (bw_set HB.out HG.out _) HG.out _) HG.out _)⟩
      first
        | (simp [results, Try.results33, go_sem, z0, z1, z2]; done)
        | skip
  · change Calls Try.prog 33 #[.agg #[.int .i64 a, .int .i64 b, .int .i64 c], .int .i64 1] w fun e w' => e = .returned (.agg #[.int .i64 b, .int .i64 c, .int .i64 a]) ∧ Below w.heap.size w w'
    go_enter Try.func33, Try.ntmps33
    go_wp2_with fail
    rw [← hV]
    clear hV
    have HG : Hid (w.heap.size ≤ w.heap.size + 1) := Lib.hid (by omega)
    have HN : Hid (w.heap.size ≠ w.heap.size + 1) := Lib.hid (by omega)
    generalize w.heap.size + 1 = gy at *
    generalize hgx : w.heap.size = gx at HX HN ⊢
    obtain ⟨x0, x1, x2⟩ := tri_cells HX.out
    obtain ⟨f0, f1, f2⟩ := tri_frozen HY.out
    obtain ⟨y0, y1, y2⟩ := tri_cells HY.out
    have HS : Hid (∀ w', KeepB gy V w' → w'.cell? ⟨gx, 0, none⟩ = some (.int .i64 a) ∧ w'.cell? ⟨gx, 1, none⟩ = some (.int .i64 b) ∧ w'.cell? ⟨gx, 2, none⟩ = some (.int .i64 c) ∧ KeepB gy V w') := Lib.hid fun w' h => ⟨(h.get HN.out).trans x0, (h.get HN.out).trans x1, (h.get HN.out).trans x2, h⟩
    have HKB := Lib.hid (KeepB.refl gy V)
    have HBO : Hid (∀ w', (w'.cell? ⟨gx, 0, none⟩ = some (.int .i64 a) ∧ w'.cell? ⟨gx, 1, none⟩ = some (.int .i64 b) ∧ w'.cell? ⟨gx, 2, none⟩ = some (.int .i64 c) ∧ KeepB gy V w') → KeepB gy V w') := Lib.hid fun w' h => h.2.2.2
    have v1 : IntKind.i64.wrap 2 = 2 := by decide
    have m1 : Int.tmod 2 3 = 2 := by decide
    have v2 : IntKind.i64.wrap 3 = 3 := by decide
    have m2 : Int.tmod 3 3 = 0 := by decide
    have m0 : Int.tmod 1 3 = 1 := by decide
    have v0 : IntKind.i64.wrap 1 = 1 := by decide
    go_region_held3 (fun w' => w'.cell? ⟨gx, 0, none⟩ = some (.int .i64 a) ∧ w'.cell? ⟨gx, 1, none⟩ = some (.int .i64 b) ∧ w'.cell? ⟨gx, 2, none⟩ = some (.int .i64 c) ∧ KeepB gy V w')
      ((refine HS.out _ ?_; repeat (first | exact HKB.out | refine KeepB.set ?_ _ | refine KeepB.drew ?_ | exact HBO.out _ (by assumption))))
      (fail)
    all_goals go_wp2_with fail
    all_goals
      obtain ⟨z0, z1, z2⟩ := tri_cells (tri_set3 HY.out b c a)
      refine bodyPost_ret (v := .agg #[.int .i64 b, .int .i64 c, .int .i64 a]) ?_ rfl ⟨rfl, bw_drew (bw_set (bw_set (bw_set HB.out HG.out _) HG.out _) HG.out _)⟩
      first
        | (simp [results, Try.results33, go_sem, z0, z1, z2]; done)
        | skip
  · change Calls Try.prog 33 #[.agg #[.int .i64 a, .int .i64 b, .int .i64 c], .int .i64 2] w fun e w' => e = .returned (.agg #[.int .i64 c, .int .i64 a, .int .i64 b]) ∧ Below w.heap.size w w'
    go_enter Try.func33, Try.ntmps33
    go_wp2_with fail
    rw [← hV]
    clear hV
    have HG : Hid (w.heap.size ≤ w.heap.size + 1) := Lib.hid (by omega)
    have HN : Hid (w.heap.size ≠ w.heap.size + 1) := Lib.hid (by omega)
    generalize w.heap.size + 1 = gy at *
    generalize hgx : w.heap.size = gx at HX HN ⊢
    obtain ⟨x0, x1, x2⟩ := tri_cells HX.out
    obtain ⟨f0, f1, f2⟩ := tri_frozen HY.out
    obtain ⟨y0, y1, y2⟩ := tri_cells HY.out
    have HS : Hid (∀ w', KeepB gy V w' → w'.cell? ⟨gx, 0, none⟩ = some (.int .i64 a) ∧ w'.cell? ⟨gx, 1, none⟩ = some (.int .i64 b) ∧ w'.cell? ⟨gx, 2, none⟩ = some (.int .i64 c) ∧ KeepB gy V w') := Lib.hid fun w' h => ⟨(h.get HN.out).trans x0, (h.get HN.out).trans x1, (h.get HN.out).trans x2, h⟩
    have HKB := Lib.hid (KeepB.refl gy V)
    have HBO : Hid (∀ w', (w'.cell? ⟨gx, 0, none⟩ = some (.int .i64 a) ∧ w'.cell? ⟨gx, 1, none⟩ = some (.int .i64 b) ∧ w'.cell? ⟨gx, 2, none⟩ = some (.int .i64 c) ∧ KeepB gy V w') → KeepB gy V w') := Lib.hid fun w' h => h.2.2.2
    have v1 : IntKind.i64.wrap 3 = 3 := by decide
    have m1 : Int.tmod 3 3 = 0 := by decide
    have v2 : IntKind.i64.wrap 4 = 4 := by decide
    have m2 : Int.tmod 4 3 = 1 := by decide
    have m0 : Int.tmod 2 3 = 2 := by decide
    have v0 : IntKind.i64.wrap 2 = 2 := by decide
    go_region_held3 (fun w' => w'.cell? ⟨gx, 0, none⟩ = some (.int .i64 a) ∧ w'.cell? ⟨gx, 1, none⟩ = some (.int .i64 b) ∧ w'.cell? ⟨gx, 2, none⟩ = some (.int .i64 c) ∧ KeepB gy V w')
      ((refine HS.out _ ?_; repeat (first | exact HKB.out | refine KeepB.set ?_ _ | refine KeepB.drew ?_ | exact HBO.out _ (by assumption))))
      (fail)
    all_goals go_wp2_with fail
    all_goals
      obtain ⟨z0, z1, z2⟩ := tri_cells (tri_set3 HY.out c a b)
      refine bodyPost_ret (v := .agg #[.int .i64 c, .int .i64 a, .int .i64 b]) ?_ rfl ⟨rfl, bw_drew (bw_set (bw_set (bw_set HB.out HG.out _) HG.out _) HG.out _)⟩
      first
        | (simp [results, Try.results33, go_sem, z0, z1, z2]; done)
        | skip
end Go.Proofs.Ytmmjonpkpeanpaa
