/- Edges sorted by slices.SortFunc, as soup.Edges calls it. No condition. -/
import Derived.Test.YtcahbcminonfbaaSortS
import Derived.Test.YtcahbcminonfbaaColl8
import Derived.Deep.RegionHeld3
namespace Go.Proofs.Ytcahbcminonfbaa
open Go.RowKit Go.Sort Go.Shelf

set_option maxRecDepth 100000 in
set_option maxHeartbeats 4000000 in
theorem cmpE_any (x y : Int × Int) (W : World) :
    Calls Try.prog 59 #[.agg (cellE x).toArray, .agg (cellE y).toArray] W fun e w' => e = .returned (.int .i64 (cfE x y)) ∧ GR W w' := by
  obtain ⟨a, b⟩ := x
  obtain ⟨c, d⟩ := y
  have h1 := fun W' => compare_any a c W'
  have h2 := fun W' => compare_any b d W'
  have hr : Hid (cfE (a, b) (c, d) = orI (cmpI a c) (cmpI b d)) := Lib.hid rfl
  rw [hr.out]
  generalize cmpI a c = r1 at h1 ⊢
  generalize cmpI b d = r2 at h2 ⊢
  have H1 := Lib.hid h1
  have H2 := Lib.hid h2
  clear h1 h2 hr
  unfold cellE
  go_enter Try.func59, Try.ntmps59
  go_wp2_with fail
  obtain ⟨V, hV⟩ : ∃ V, V = (W.alloc (.cells #[.int .i64 a, .int .i64 b] 38)).alloc (.cells #[.int .i64 c, .int .i64 d] 38) := ⟨_, rfl⟩
  have hg : Hid (GR W V) := by subst hV; exact Lib.hid (((GR.refl W).alloc _).alloc _)
  have hc : Hid (GCe V W.heap.size a b c d) := by
    subst hV
    exact Lib.hid ⟨((Blk.new W 38 #[.int .i64 a, .int .i64 b]).alloc _).cell 0, ((Blk.new W 38 #[.int .i64 a, .int .i64 b]).alloc _).cell 1, by simp, by simp⟩
  rw [← hV]
  clear hV
  generalize W.heap.size = g at hc ⊢
  have GR0 := GR.refl V
  go_region_held3 (fun w' => w'.cell? ⟨g, 0, none⟩ = some (.int .i64 a) ∧ w'.cell? ⟨g, 1, none⟩ = some (.int .i64 b) ∧ w'.cell? ⟨g + 1, 0, none⟩ = some (.int .i64 c) ∧ w'.cell? ⟨g + 1, 1, none⟩ = some (.int .i64 d) ∧ GR V w')
    (first | exact hc.out.on (GR.drew GR0) | exact hc.out.on (GR.alloc (GR.of (by assumption)) _) | exact hc.out.on (GR.of (by assumption)))
    (first | (go_at_call 39; refine (or_new rfl _ _ _).mono ?_; rintro e w' ⟨rfl, rfl⟩) | (go_at_call 40; (first | (with_reducible refine (H1.out _).mono ?_) | (with_reducible refine (H2.out _).mono ?_)); rintro e w' ⟨rfl, rfl⟩))
  go_wp2_with fail
  go_ret
  refine ⟨rfl, ?_⟩
  obtain ⟨q, os, hq⟩ := hg.out
  subst hq
  exact (((GR.refl W).drewN q).grow_ os |>.alloc _).drew
theorem sortE_any (d : List (Int × Int)) (A : Option Addr) (c B : Nat) (w : World) (h : ERow w B A c d) (hne : d ≠ []) (hd : d.length ≤ 100000000) (hB : B ≤ w.heap.size) :
    Calls Try.prog 37 #[.slice A d.length c, .func (.func 59) #[] #[]] w fun e w' => e = .returned (.tuple #[]) ∧ ERow w' B A c (sortE d) ∧ Below B w w' := by
  unfold ERow at h
  have hpos : 0 < d.length := List.length_pos_iff.2 hne
  obtain ⟨g, cap, hv, hBg, hlt⟩ := h.form hpos
  injection hv with hA _ hc
  subst hA hc
  have eg : ∀ args w, (callFunc 59 args).run Try.prog w = .ok (.enter 59 args) w := enters_of Try.func59 (by kernel_rfl) rfl
  have hcmp : CmpLays Try.prog 59 #[] cellE 2 cfE g 0 d.toArray.size w := fun m os dk _ x y => (cmpE_any x y _).mono fun e w' ⟨he, hg⟩ => ⟨he, hg⟩
  have hH : HoldsK cellE 2 w g 0 d.toArray := own_holds (k := 2) (enc := cellE) (fun _ => rfl) (d := d.toArray) h
  have hcon := AnyQ.slices_SortFunc_total Try.sortS 2 Try.isAgg38 Try.sizeOf38 cellE (fun _ => rfl) (fun x v hv => by simp [cellE] at hv; rcases hv with rfl | rfl <;> rfl) cfE swoE 59 #[] g 0 c d.toArray w eg hcmp hH hlt (by simp; omega) totalE
  rw [show d.toArray.size = d.length by simp] at hcon
  refine hcon.mono ?_
  rintro e w' ⟨he, n, os, hw⟩
  subst hw
  refine ⟨he, ?_, (only_sortWorldK _ _ _ _ _ _ _).below hB (fun k hk e => by omega)⟩
  unfold ERow
  have hs : (sortE d).length = d.length := by unfold sortE; exact List.length_mergeSort _
  have := own_sorted (k := 2) (enc := cellE) (fun _ => rfl) (d := d.toArray) (d' := (sortE d).toArray) (by simp [hs]) n os h
  rw [hs]
  simpa [sortE] using this
end Go.Proofs.Ytcahbcminonfbaa
