/- Witnesses sorted by slices.SortFunc, as certify.All calls it. No condition. -/
import Derived.Test.YtdmibpcpocacpaaSortK
import Derived.Test.YtdmibpcpocacpaaIndex
import Derived.Test.YtdmibpcpocacpaaShelf9
import Derived.Deep.RegionHeld3
namespace Go.Proofs.Ytdmibpcpocacpaa
open Go.RowKit Go.Sort Go.Shelf

/-- cmp.Compare of ints. -/
def cmpI (a b : Int) : Int := if a < b then -1 else if b < a then 1 else 0
theorem isNaN_any (a : Int) (w : World) : Calls Try.prog 66 #[.int .i64 a] w fun e w' => e = .returned (.bool false) ∧ w' = w := by
  go_enter Try.func66, Try.ntmps66
  go_wp2_with fail
  go_ret
  exact ⟨by simp, rfl⟩
theorem compare_any (a b : Int) (w : World) : Calls Try.prog 55 #[.int .i64 a, .int .i64 b] w fun e w' => e = .returned (.int .i64 (cmpI a b)) ∧ w' = w := by
  by_cases h1 : a < b
  · have H : cmpI a b = -1 := by unfold cmpI; rw [if_pos h1]
    rw [H]
    clear H
    go_enter Try.func55, Try.ntmps55
    go_wp2_with (go_at_call 66; refine (isNaN_any _ _).mono ?_; rintro e w' ⟨rfl, rfl⟩)
    go_ret
    exact ⟨rfl, rfl⟩
  · by_cases h2 : b < a
    · have H : cmpI a b = 1 := by unfold cmpI; rw [if_neg h1, if_pos h2]
      rw [H]
      clear H
      go_enter Try.func55, Try.ntmps55
      go_wp2_with (go_at_call 66; refine (isNaN_any _ _).mono ?_; rintro e w' ⟨rfl, rfl⟩)
      go_ret
      exact ⟨rfl, rfl⟩
    · have H : cmpI a b = 0 := by unfold cmpI; rw [if_neg h1, if_neg h2]
      rw [H]
      clear H
      go_enter Try.func55, Try.ntmps55
      go_wp2_with (go_at_call 66; refine (isNaN_any _ _).mono ?_; rintro e w' ⟨rfl, rfl⟩)
      go_ret
      exact ⟨rfl, rfl⟩
/-- cmp.Or of two ints. -/
def orI (a b : Int) : Int := if a = 0 then b else a
theorem or_any (g : Nat) (a b : Int) (w : World) (h0 : w.cell? ⟨g, 0, none⟩ = some (.int .i64 a)) (h1 : w.cell? ⟨g, 1, none⟩ = some (.int .i64 b)) :
    Calls Try.prog 54 #[.slice (some ⟨g, 0, none⟩) 2 2] w fun e w' => e = .returned (.int .i64 (orI a b)) ∧ w' = w := by
  by_cases ha : a = 0
  · obtain rfl := ha
    have H : Hid (orI 0 b = b) := Lib.hid (by unfold orI; rw [if_pos rfl])
    rw [H.out]
    by_cases hb : b = 0
    · obtain rfl := hb
      go_enter Try.func54, Try.ntmps54
      go_wp2_with fail
      refine wp_loop_rounds 3 ?_
      rw [rounds_succ]
      go_wp2_with fail
      rw [rounds_succ]
      go_wp2_with fail
      rw [rounds_succ]
      go_wp2_with fail
      go_ret
      exact ⟨rfl, rfl⟩
    · have hb' : (b == 0) = false := by rw [beq_eq_false_iff_ne]; exact hb
      go_enter Try.func54, Try.ntmps54
      go_wp2_with fail
      refine wp_loop_rounds 3 ?_
      rw [rounds_succ]
      go_wp2_with fail
      rw [rounds_succ]
      go_wp2_with fail
      go_ret
      exact ⟨rfl, rfl⟩
  · have ha' : (a == 0) = false := by rw [beq_eq_false_iff_ne]; exact ha
    have H : Hid (orI a b = a) := Lib.hid (by unfold orI; rw [if_neg ha])
    rw [H.out]
    go_enter Try.func54, Try.ntmps54
    go_wp2_with fail
    refine wp_loop_rounds 3 ?_
    rw [rounds_succ]
    go_wp2_with fail
    go_ret
    exact ⟨rfl, rfl⟩

theorem or_new {w : World} {g : Nat} (hg : w.heap.size = g) (a b : Int) (t : TypeId) :
    Calls Try.prog 54 #[.slice (some ⟨g, 0, none⟩) 2 2] (w.alloc (.cells #[.int .i64 a, .int .i64 b] t)).drew fun e w' => e = .returned (.int .i64 (orI a b)) ∧ w' = (w.alloc (.cells #[.int .i64 a, .int .i64 b] t)).drew := by
  subst hg
  have hb := (Blk.new w t #[.int .i64 a, .int .i64 b]).drew
  exact or_any _ a b _ (hb.cell 0) (hb.cell 1)

/-- By the second number, then by the first. -/
def cfW (x y : Int × Int) : Int := orI (cmpI x.2 y.2) (cmpI x.1 y.1)
def encW (kind : Int) (x : Int × Int) : List Value := [.int .i64 kind, .int .i64 x.1, .int .i64 x.2]
/-- Only blocks were laid, and orders drawn. -/
def GR (W w : World) : Prop := ∃ q os, w = grow (W.drewN q) os
theorem GR.refl (W : World) : GR W W := ⟨0, #[], by rw [grow_empty]; rfl⟩
theorem GR.alloc {W w : World} (h : GR W w) (o : Obj) : GR W (w.alloc o) := by
  obtain ⟨q, os, rfl⟩ := h
  exact ⟨q, os ++ #[o], by rw [alloc_eq_grow, grow_grow]⟩
theorem GR.drew {W w : World} (h : GR W w) : GR W w.drew := by
  obtain ⟨q, os, rfl⟩ := h
  exact ⟨q + 1, os, rfl⟩
theorem GR.drewN {W w : World} (h : GR W w) (n : Nat) : GR W (w.drewN n) := by
  obtain ⟨q, os, rfl⟩ := h
  exact ⟨q + n, os, by rw [← World.drewN_drewN]; rfl⟩
theorem GR.grow_ {W w : World} (h : GR W w) (os' : Array Obj) : GR W (grow w os') := by
  obtain ⟨q, os, rfl⟩ := h
  exact ⟨q, os ++ os', by rw [grow_grow]⟩
theorem GR.cell {W w : World} (h : GR W w) {p : Addr} {v : Value} (hc : W.cell? p = some v) : w.cell? p = some v := by
  obtain ⟨q, os, rfl⟩ := h
  rw [cell?_grow _ _ _ (show p.block < (W.drewN q).heap.size from World.block_lt_of_cell? W p hc)]
  exact hc
structure GC (V : World) (g : Nat) (a b c d : Int) : Prop where
  c0 : V.cell? ⟨g, 1, none⟩ = some (.int .i64 a)
  c1 : V.cell? ⟨g, 2, none⟩ = some (.int .i64 b)
  c2 : V.cell? ⟨g + 1, 1, none⟩ = some (.int .i64 c)
  c3 : V.cell? ⟨g + 1, 2, none⟩ = some (.int .i64 d)
theorem GC.on {V w : World} {g : Nat} {a b c d : Int} (h : GC V g a b c d) (hg : GR V w) :
    w.cell? ⟨g, 1, none⟩ = some (.int .i64 a) ∧ w.cell? ⟨g, 2, none⟩ = some (.int .i64 b) ∧ w.cell? ⟨g + 1, 1, none⟩ = some (.int .i64 c) ∧ w.cell? ⟨g + 1, 2, none⟩ = some (.int .i64 d) ∧ GR V w :=
  ⟨hg.cell h.c0, hg.cell h.c1, hg.cell h.c2, hg.cell h.c3, hg⟩
theorem GR.of {V w : World} {A B C D : Prop} (h : A ∧ B ∧ C ∧ D ∧ GR V w) : GR V w := h.2.2.2.2

set_option maxRecDepth 100000 in
set_option maxHeartbeats 4000000 in
theorem cmpW_any (kind : Int) (x y : Int × Int) (W : World) :
    Calls Try.prog 53 #[.agg (encW kind x).toArray, .agg (encW kind y).toArray] W fun e w' => e = .returned (.int .i64 (cfW x y)) ∧ GR W w' := by
  obtain ⟨a, b⟩ := x
  obtain ⟨c, d⟩ := y
  have h1 := fun W' => compare_any b d W'
  have h2 := fun W' => compare_any a c W'
  have hr : Hid (cfW (a, b) (c, d) = orI (cmpI b d) (cmpI a c)) := Lib.hid rfl
  rw [hr.out]
  generalize cmpI b d = r1 at h1 ⊢
  generalize cmpI a c = r2 at h2 ⊢
  have H1 := Lib.hid h1
  have H2 := Lib.hid h2
  clear h1 h2 hr
  unfold encW
  go_enter Try.func53, Try.ntmps53
  go_wp2_with fail
  obtain ⟨V, hV⟩ : ∃ V, V = (W.alloc (.cells #[.int .i64 kind, .int .i64 a, .int .i64 b] 41)).alloc (.cells #[.int .i64 kind, .int .i64 c, .int .i64 d] 41) := ⟨_, rfl⟩
  have hg : Hid (GR W V) := by subst hV; exact Lib.hid (((GR.refl W).alloc _).alloc _)
  have hc : Hid (GC V W.heap.size a b c d) := by
    subst hV
    exact Lib.hid ⟨((Blk.new W 41 #[.int .i64 kind, .int .i64 a, .int .i64 b]).alloc _).cell 1, ((Blk.new W 41 #[.int .i64 kind, .int .i64 a, .int .i64 b]).alloc _).cell 2, by simp, by simp⟩
  rw [← hV]
  clear hV
  generalize W.heap.size = g at hc ⊢
  have GR0 := GR.refl V
  go_region_held3 (fun w' => w'.cell? ⟨g, 1, none⟩ = some (.int .i64 a) ∧ w'.cell? ⟨g, 2, none⟩ = some (.int .i64 b) ∧ w'.cell? ⟨g + 1, 1, none⟩ = some (.int .i64 c) ∧ w'.cell? ⟨g + 1, 2, none⟩ = some (.int .i64 d) ∧ GR V w')
    (first | exact hc.out.on (GR.drew GR0) | exact hc.out.on (GR.alloc (GR.of (by assumption)) _) | exact hc.out.on (GR.of (by assumption)))
    (first | (go_at_call 54; refine (or_new rfl _ _ _).mono ?_; rintro e w' ⟨rfl, rfl⟩) | (go_at_call 55; (first | (with_reducible refine (H1.out _).mono ?_) | (with_reducible refine (H2.out _).mono ?_)); rintro e w' ⟨rfl, rfl⟩))
  go_wp2_with fail
  go_ret
  refine ⟨rfl, ?_⟩
  obtain ⟨q, os, hq⟩ := hg.out
  subst hq
  exact (((GR.refl W).drewN q).grow_ os |>.alloc _).drew

/-! ### The order -/
def ltW (x y : Int × Int) : Prop := x.2 < y.2 ∨ (x.2 = y.2 ∧ x.1 < y.1)
theorem ltOf_cfW (x y : Int × Int) : ltOf cfW x y = true ↔ ltW x y := by
  unfold ltOf cfW orI cmpI ltW
  rw [decide_eq_true_eq]
  by_cases h1 : x.2 < y.2
  · simp [h1]
  · by_cases h2 : y.2 < x.2
    · simp [h1, h2]; omega
    · by_cases h3 : x.1 < y.1
      · simp [h1, h2, h3]; omega
      · by_cases h4 : y.1 < x.1
        · simp [h1, h2, h3, h4]
        · simp [h1, h2, h3, h4]
theorem ltOf_cfW_no (x y : Int × Int) : ltOf cfW x y = false ↔ ¬ ltW x y := by
  rw [← ltOf_cfW]; simp
theorem swoW : SWO (ltOf cfW) where
  irrefl x := by rw [ltOf_cfW_no]; unfold ltW; omega
  trans x y z h1 h2 := by rw [ltOf_cfW] at *; unfold ltW at *; omega
  ntrans x y z h1 h2 := by rw [ltOf_cfW_no] at *; unfold ltW at *; omega
theorem totalW (x y : Int × Int) (h1 : ltOf cfW x y = false) (h2 : ltOf cfW y x = false) : x = y := by
  rw [ltOf_cfW_no] at *
  unfold ltW at *
  exact Prod.ext (by omega) (by omega)
def wit (kind : Int) (x : Int × Int) : Int × Int × Int := (kind, x.1, x.2)
theorem wit_flat (kind : Int) (d : List (Int × Int)) : (d.map (wit kind)).flatMap w3 = d.flatMap (encW kind) := by
  induction d with
  | nil => rfl
  | cons a d ih => rw [List.map_cons, List.flatMap_cons, List.flatMap_cons, ih]; rfl
/-- Sorted, by the second number, then by the first. -/
def sortP (d : List (Int × Int)) : List (Int × Int) := d.mergeSort fun x y => !(ltOf cfW) y x

theorem sortW_any (kind : Int) (d : List (Int × Int)) (A : Option Addr) (c B : Nat) (w : World) (h : WitRow w B A c (d.map (wit kind))) (hne : d ≠ []) (hd : d.length ≤ 100000000) (hB : B ≤ w.heap.size) :
    Calls Try.prog 52 #[.slice A d.length c, .func (.func 53) #[] #[]] w fun e w' => e = .returned (.tuple #[]) ∧ WitRow w' B A c ((sortP d).map (wit kind)) ∧ Below B w w' := by
  unfold WitRow at h
  rw [List.length_map, wit_flat] at h
  have hpos : 0 < d.length := List.length_pos_iff.2 hne
  obtain ⟨g, cap, hv, hBg, hlt⟩ := h.form hpos
  injection hv with hA _ hc
  subst hA hc
  have eg : ∀ args w, (callFunc 53 args).run Try.prog w = .ok (.enter 53 args) w := enters_of Try.func53 (by kernel_rfl) rfl
  have hcmp : CmpLays Try.prog 53 #[] (encW kind) 3 cfW g 0 d.toArray.size w := fun m os dk _ x y => (cmpW_any kind x y _).mono fun e w' ⟨he, hg⟩ => ⟨he, hg⟩
  have hH : HoldsK (encW kind) 3 w g 0 d.toArray := own_holds (k := 3) (enc := encW kind) (fun _ => rfl) (d := d.toArray) h
  have hcon := AnyQ.slices_SortFunc_total Try.sortW 3 Try.isAgg41 Try.sizeOf41 (encW kind) (fun _ => rfl) (fun x v hv => by simp [encW] at hv; rcases hv with rfl | rfl | rfl <;> rfl) cfW swoW 53 #[] g 0 c d.toArray w eg hcmp hH hlt (by simp; omega) totalW
  rw [show d.toArray.size = d.length by simp] at hcon
  refine hcon.mono ?_
  rintro e w' ⟨he, n, os, hw⟩
  subst hw
  refine ⟨he, ?_, (only_sortWorldK _ _ _ _ _ _ _).below hB (fun k hk e => by omega)⟩
  unfold WitRow
  rw [List.length_map, wit_flat]
  have hs : (sortP d).length = d.length := by unfold sortP; exact List.length_mergeSort _
  have := own_sorted (k := 3) (enc := encW kind) (fun _ => rfl) (d := d.toArray) (d' := (sortP d).toArray) (by simp [hs]) n os h
  rw [hs]
  simpa [sortP] using this
end Go.Proofs.Ytdmibpcpocacpaa
