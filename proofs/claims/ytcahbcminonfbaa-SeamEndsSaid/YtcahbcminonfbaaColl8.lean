/- slices.AppendSeq and Collect at edges, against whatever iterator. No condition. -/
import Derived.Test.YtcahbcminonfbaaIterE8
namespace Go.Proofs.Ytcahbcminonfbaa
open Go.RowKit Go.Maps Go.Shelf

attribute [local go_sem] Oper.semAt_some
theorem edge_info : (Try.prog.info? 38).map (fun i => (i.zero, i.size, i.bytes)) = some (some (.agg #[.int .i64 0, .int .i64 0]), 2, 16) := by kernel_rfl
theorem new_cells (W : World) (cs : List Value) (t : TypeId) : ∀ j u, cs[j]? = some u → (W.alloc (.cells cs.toArray t)).cell? ((⟨W.heap.size, 0, none⟩ : Addr).add j) = some u := fun j u hj => by
  have e : (⟨W.heap.size, 0, none⟩ : Addr).add j = ⟨W.heap.size, j, none⟩ := by unfold Addr.add; split <;> simp_all
  rw [e, (Blk.new W t cs.toArray).cell]
  simpa using hj
theorem row_no_walk {W : World} {base : Nat} {e : TypeId} {size : Nat} {v : Value} {k : Nat} {xs : List Value} (h : W.ownsRow base e size v k xs) : ∀ (j : Nat) (o : Obj), v.ownBlock = some j → W.heap[j]? = some o → o.isWalk = false := fun j o hj ho => by
  obtain ⟨cs, hb⟩ := own_blk h hj
  have hb : W.heap[j]? = some (.cells cs e (0, 0)) := hb
  rw [hb] at ho
  cases ho
  rfl
theorem cellE_len (x : Int × Int) : (cellE x).length = 2 := rfl
/-- What the loop has at hand in a round: the edge in a box of its own. -/
def EAx (B0 : Nat) (sv : Value) (x : Int × Int) (a' : Act) (W : World) : Prop :=
  ∃ Bx, Blk W Bx 38 #[.int .i64 x.1, .int .i64 x.2] ∧ a' = { tmps := #[.slice none 0 0, sv, .pointer (some ⟨B0, 0, none⟩), undef, .slice none 0 0, .pointer (some ⟨Bx, 0, none⟩), sv, encE x, undef, undef, undef, undef, undef], defers := [] }
theorem EAx.own (B0 : Nat) (sv : Value) (x : Int × Int) (a' : Act) (B : Nat) : OwnFrom B (fun (_ : Unit) W => EAx B0 sv x a' W) := fun _ X Y row ⟨Bx, h2, h3⟩ hg hr => by
  refine ⟨Bx, h2.grown hg (fun e => ?_), h3⟩
  obtain ⟨_, o, ho, hc⟩ := hr Bx e.symm
  have h2 : X.heap[Bx]? = some (.cells #[.int .i64 x.1, .int .i64 x.2] 38 (0, 0)) := h2
  rw [h2] at ho
  cases ho
  cases hc
set_option maxRecDepth 100000 in
set_option maxHeartbeats 4000000 in
theorem appendSeqE_in (n : Nat) (hn : 2 ≤ n) (g : Nat) (lb : Array Value) (eg : ∀ args w, (callFunc g args).run Try.prog w = .ok (.enter g args) w)
    (S Sp : List (Int × Int) → Prop) (N : Nat) (hN : N ≤ 1000000) (w : World) (hseq : SeqStopsK Fence.wide (n - 1) Try.prog g lb (fun x => #[encE x]) KeepsWalks S Sp N w) :
    CallsIn Fence.wide n Try.prog 101 #[.slice none 0 0, .func (.func g) #[] lb] w fun e w' => ∃ (v : Value) (ss : List (Int × Int)), e = .returned v ∧ S ss ∧ w'.ownsRow w.heap.size 38 2 v ss.length (ss.flatMap cellE) ∧ Below w.heap.size w w' := by
  have h1 : 1 ≤ n := by omega
  obtain ⟨i0, hi, hz0, hz1, hz2⟩ := info_parts edge_info
  refine callsIn_of_wp_marks Try.func101 rfl trivial ?_ rfl
  simp only [Try.ntmps101, List.size_toArray, List.length_cons, List.length_nil, Nat.reduceAdd, Nat.reduceSub, Array.replicate_succ, Array.replicate_zero, List.push_toArray, List.append_toArray, List.nil_append, List.cons_append]
  gi_wp2
  obtain ⟨W0, hW0⟩ : ∃ W0, w.alloc (.cells #[.slice none 0 0] 31) = W0 := ⟨_, rfl⟩
  have hs0 : W0.heap.size = w.heap.size + 1 := by rw [← hW0]; simp
  have hv0 : Boxed W0 w.heap.size 31 (.slice none 0 0) := by rw [← hW0]; exact Boxed.new _ _ _
  have hb0 : Below w.heap.size w W0 := by rw [← hW0]; exact (Below.refl _ w).alloc (Nat.le_refl _) _
  rw [hW0]
  refine wpIn_rangeFunc_ownH rfl h1 (gf := g) (lb := lb) rfl trivial eg hseq walksK_t walksK_b hb0 (fun _ => rfl)
    (fun (pre : List (Int × Int)) W => (∃ v, Boxed W w.heap.size 31 v ∧ W.ownsRow w.heap.size 38 2 v pre.length (pre.flatMap cellE) ∧ True) ∧ Below w.heap.size w W)
    (fun _ _ _ => False)
    (OwnFrom.and (Own.from (holdsRow_own w.heap.size w.heap.size 31 38 2 (fun pre : List (Int × Int) => pre.length) (fun pre => pre.flatMap cellE) (fun _ _ => True)) _) (ownFrom_below (Nat.le_refl _) (by omega)))
    (fun _ _ _ _ _ hs _ _ => hs)
    ⟨⟨_, hv0, World.ownsRow_nil _ _ _ _, trivial⟩, hb0⟩
    (EAx w.heap.size (.func (.func g) #[] lb)) (fun x a' => EAx.own _ _ _ _ _) ?assign ?body ?done ?stop
  case assign =>
    rintro l pre ⟨xa, xb⟩ W K ⟨⟨v, hv, hrow, _⟩, hB⟩ hK
    have hsz := hB.size
    simp only [encE]
    gi_wp2
    exact hK _ _ ((KeepsOthers.alloc _ _).from _) (KeepsWalks.alloc _ _) ⟨⟨v, hv.alloc _, hrow.alloc _, trivial⟩, hB.alloc hB.size _⟩ ⟨W.heap.size, Blk.new _ _ _, rfl⟩
  case body =>
    rintro l pre ⟨xa, xb⟩ a' W hl ⟨r, hr⟩ ⟨⟨v, hv, hrow, _⟩, hB⟩ ⟨Bx, hbx, rfl⟩ hlt
    have hc := hv.cell
    have hfz := hv.frozen
    have x0 := hbx.cell 0
    have x1 := hbx.cell 1
    simp at x0 x1
    have hsz := hB.size
    have hnew := new_cells W [.int .i64 xa, .int .i64 xb] 38
    gi_wp2_with (gi_at_builtin; refine wpListIn_append_own _ rfl _ _ 31 rfl w.heap.size 38 i0 _ 2 16 Try.underlying31 hi hz0 hz1 hz2 rfl (by decide) _ _ _ rfl (hrow.alloc _) ⟨W.heap.size, 0, none⟩ 1 1 [.int .i64 xa, .int .i64 xb] rfl rfl hnew (by simp [Value.oneCell']) (by simp only [maxLen]; omega) (by omega) (by simp; omega) ?_; intro v' w1 hown' hgrow _; obtain ⟨g', cap', rfl⟩ := ownsRow_succ hown'; obtain ⟨hv1, hv2, hr2, hk2, hb2⟩ := hv.appended (by decide) hrow hB.size (Nat.le_refl _) hown' hgrow; have hc1 := hv1.cell; have hf1 := hv1.frozen)
    have hr3 : (w1.setCell ⟨w.heap.size, 0, none⟩ (.slice (some ⟨g', 0, none⟩) (pre.length + 1) cap')).ownsRow w.heap.size 38 2 (.slice (some ⟨g', 0, none⟩) (pre.length + 1) cap') (pre ++ [(xa, xb)]).length ((pre ++ [(xa, xb)]).flatMap cellE) := by
      rw [List.length_append, List.flatMap_append]
      exact hr2
    exact ⟨hk2.from _, ((KeepsWalks.alloc _ _).trans (KeepsWalks.of_grownBy hgrow (row_no_walk (hrow.alloc _)))).trans (KeepsWalks.setCell _ _ _), ⟨_, hv2, hr3⟩, hB.trans hb2⟩
  case done =>
    rintro D ys W hD hS ⟨⟨v, hv, hrow, _⟩, hB⟩ hK
    have hc := hv.cell
    gi_wp2
    refine ⟨by simp, .inl ⟨_, _, rfl, run_takeDeferred hK, ?_⟩⟩
    exact ⟨_, results_tmp rfl _ _ _, v, ys, rfl, hS, ownsRow_putObj hrow _ hK rfl, hB.grown (grownBy_putObj' _ _ _) hB.size (fun k e => by cases e; omega)⟩
  case stop =>
    rintro D c pre W _ _ h _
    exact h.elim
end Go.Proofs.Ytcahbcminonfbaa
