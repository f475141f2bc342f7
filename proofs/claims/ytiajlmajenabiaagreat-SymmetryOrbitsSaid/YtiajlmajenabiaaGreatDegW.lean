/- ring.Degree, walked. No condition. -/
import Derived.Test.YtiajlmajenabiaaGreatRingW
set_option maxRecDepth 100000
set_option maxHeartbeats 16000000
set_option linter.all false
namespace Go.Proofs.YtiajlmajenabiaaGreat
open Go.RowKit Go.Shelf
attribute [local go_sem] Oper.semAt_some
attribute [local irreducible] Blk LRow World.alloc World.setCell World.cell? World.frozen? MapV
theorem arAt_new {w W : World} {g m : Nat} {T : List Tri} {v : Int} {p : Value} (h : TabN w g m T) (hb : Below w.heap.size w W) {t1 t2 : TypeId} :
  ArAt ((W.alloc (.cells #[.pointer (some ⟨g, 0, none⟩)] t1)).alloc (.cells #[.int .i64 v] t2)) w.heap.size W.heap.size (W.heap.size + 1) g m T v :=
 ⟨⟨w, rfl, h, bw_alloc (bw_alloc hb _) _⟩, ((Blk.new W t1 #[.pointer (some ⟨g, 0, none⟩)]).alloc _).cell 0, (Blk.new_ (by simp) t2 #[.int .i64 v]).cell 0, by simp; omega, by simp⟩
theorem blk_own {β : Type} {B g : Nat} {t : TypeId} (f : List β → Array Value) : OwnFrom B (fun pre W => Blk W g t (f pre)) := fun pre X Y row h hg hr => h.grown hg fun e => by
 obtain ⟨_, o, ho, hc⟩ := hr g e.symm
 unfold Blk at h
 rw [h] at ho
 cases ho
 cases hc
theorem degree_any (g m : Nat) (T : List Tri) (v : Int) (L : List Nat) (w : World) (hr : RingL m T v L) (hL : L.length ≤ 1000000) (h : TabN w g m T) :
  Calls Tryz.prog 35 #[.pointer (some ⟨g, 0, none⟩), .int .i64 v] w (IntPost w (L.length : Int)) := by
 have HT := Lib.hid h
 have HR := Lib.hid hr
 clear h hr
 refine (callsIn_wide (n := 6)).1 ?_
 refine callsIn_of_wp_marks Tryz.func35 rfl trivial ?_ rfl
 simp only [Tryz.ntmps35, List.size_toArray, List.length_cons, List.length_nil, Nat.reduceAdd, Nat.reduceSub, Array.replicate_succ, Array.replicate_zero, List.push_toArray, List.append_toArray, List.nil_append, List.cons_append]
 gi_wp2_with (refine ⟨trivial, ?_⟩; gi_at_call 72; refine (callsIn_wide.2 (around_fn _ _ _)).mono ?_; rintro e w' ⟨rfl, hw⟩; replace hw := hw.symm; subst hw)
 obtain ⟨W3, hW3⟩ : ∃ X, X = ((w.alloc (.cells #[.int .i64 0] 3)).alloc (.cells #[.pointer (some ⟨g, 0, none⟩)] 41)).alloc (.cells #[.int .i64 v] 3) := ⟨_, rfl⟩
 rw [← hW3]
 have HA : Hid (ArAt W3 w.heap.size (w.heap.size + 1) (w.heap.size + 1 + 1) g m T v) := by
  have := arAt_new (v := v) (p := .int .i64 0) (t1 := 41) (t2 := 3) HT.out (bw_alloc (Below.refl _ _) (.cells #[.int .i64 0] 3))
  rw [World.size_alloc] at this
  subst hW3
  exact Lib.hid this
 have HB : Blk W3 w.heap.size 3 #[.int .i64 0] := by subst hW3; exact ((Blk.new _ _ _).alloc _).alloc _
 have HW : Below w.heap.size w W3 := by subst hW3; exact bw_alloc (bw_alloc (bw_alloc (Below.refl _ _) _) _) _
 have hs3 : W3.heap.size = w.heap.size + 3 := by subst hW3; simp
 clear hW3
 refine wpIn_rangeFunc_ownF rfl (by omega) (gf := 98) (lb := #[.pointer (some ⟨w.heap.size + 1, 0, none⟩), .pointer (some ⟨w.heap.size + 1 + 1, 0, none⟩)]) rfl trivial (enters_of Tryz.func98 (by kernel_rfl) rfl)
  (around_stops (6 - 1) (by omega) w.heap.size (w.heap.size + 1) (w.heap.size + 1 + 1) g m T v L (fun k => k = w.heap.size ∨ W3.heap.size ≤ k) W3 (fun k hk => by omega) (by omega) (by omega) HR.out HA.out) onlyR_t (onlyR_b (fun k hk => .inr hk)) (Below.refl _ _) (fun _ => rfl)
  (fun (pre : List { x : Nat // x < 3 * T.length }) W => Blk W w.heap.size 3 #[.int .i64 (pre.length : Int)] ∧ Below w.heap.size w W)
  (fun _ _ _ => False)
  (OwnFrom.and (blk_own fun (pre : List { x : Nat // x < 3 * T.length }) => #[.int .i64 (pre.length : Int)]) (ownFrom_below (Nat.le_refl _) (by omega)))
  (fun _ _ _ _ _ hs _ _ => hs)
  ⟨HB, HW⟩
  (fun x => { tmps := #[.pointer (some ⟨g, 0, none⟩), .int .i64 v, undef, undef, .int .i64 0, .pointer (some ⟨w.heap.size, 0, none⟩), .pointer (some ⟨g, 0, none⟩), .int .i64 v, .func (.func 98) #[] #[.pointer (some ⟨w.heap.size + 1, 0, none⟩), .pointer (some ⟨w.heap.size + 1 + 1, 0, none⟩)], .int .i64 (x.1 : Int), undef, undef, undef], defers := [] }) ?assign ?body ?done ?stop
 case assign =>
  intro l x W K hK
  gi_wp2
  simpa using hK
 case body =>
  rintro l pre x W ⟨hbk, hB⟩ hlt
  have c0 := hbk.cell 0
  have cf := hbk.frozen 0
  simp at c0
  have hwr : IntKind.i64.wrap ((pre.length : Int) + 1) = (pre.length : Int) + 1 := IntWalk.i64_in _ (by omega)
  gi_wp2
  refine ⟨KeepsOthers.setCell _ _ _, (Only.refl _ _).setCell (.inl (.inl rfl)) _, ?_, hB.setCell (p := ⟨w.heap.size, 0, none⟩) (Nat.le_refl _) _⟩
  have := hbk.set_ 0 (.int .i64 ((pre.length : Int) + 1))
  simpa using this
 case done =>
  rintro D ys W hD hys ⟨hbk, hB⟩ hK
  have hyl : ys.length = L.length := by rw [← hys, List.length_map]
  have c0 := hbk.cell 0
  simp at c0
  gi_wp2
  refine ⟨by simp, .inl ⟨_, _, rfl, run_takeDeferred hK, ?_⟩⟩
  exact ⟨_, results_tmp rfl _ _ _, by first | rfl | rw [hyl], hB.grown (grownBy_putObj' _ _ _) hB.size (fun k e => by cases e; omega)⟩
 case stop =>
  rintro D c pre W _ _ h _
  exact h.elim
end Go.Proofs.YtiajlmajenabiaaGreat
