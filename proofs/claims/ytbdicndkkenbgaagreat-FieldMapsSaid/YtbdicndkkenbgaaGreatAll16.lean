/- gypsumlaw16.all, walked. No condition but sizes. -/
import Derived.Test.YtbdicndkkenbgaaGreatFldL
namespace Go.Proofs.YtbdicndkkenbgaaGreat
open Go.RowKit Go.Shelf

set_option linter.unusedSimpArgs false
set_option linter.unusedVariables false
attribute [local go_sem] Oper.semAt_some
/-- What is gathered, when some corners have come. -/
def outF (V : Nat → Int) (pre : List Nat) : List Int := pre.foldl (fun out x => out ++ [if x = out.length then V x else -99]) []
theorem outF_snoc (V : Nat → Int) (pre : List Nat) (x : Nat) : outF V (pre ++ [x]) = outF V pre ++ [if x = (outF V pre).length then V x else -99] := by unfold outF; rw [List.foldl_append]; rfl
theorem outF_len (V : Nat → Int) (pre : List Nat) : (outF V pre).length = pre.length := by
  refine snocInd (P := fun pre => (outF V pre).length = pre.length) rfl (fun L c ih => ?_) pre
  rw [outF_snoc, List.length_append, ih, List.length_append]
  rfl
theorem outF_range (V : Nat → Int) : ∀ n, outF V (List.range n) = (List.range n).map V
  | 0 => rfl
  | n + 1 => by rw [List.range_succ, outF_snoc, outF_range V n, List.map_append]; simp
theorem run_nilseq_no (kf : Nat) (lb : Array Value) (w : World) : (binOp .eql 93 (.func (.func kf) #[] lb) Value.nilFunc).run Tryz.prog w = .ok (.bool false) w := by kernel_rfl
attribute [local irreducible] Blk LRow World.alloc World.setCell World.cell? World.frozen? MapV
set_option maxRecDepth 100000 in
set_option maxHeartbeats 8000000 in
theorem allF_any (gf g B n : Nat) (A : Option Addr) (c : Nat) (V : Nat → Int) (w : World) (hn : n ≤ 120) (hF : FAt w 91 3 1 B gf g A c n ((List.range n).flatMap fun i => cellsI (V i))) :
    Calls Tryz.prog 25 #[.pointer (some ⟨gf, 0, none⟩)] w (ValPI ((List.range n).map V) w) := by
  have HF := Lib.hid hF
  clear hF
  obtain ⟨i0, hi0, hz0, hz1, hz2⟩ := info_parts int_infoC
  have hnf := run_nilseq_no 69 #[.pointer (some ⟨w.heap.size + 1, 0, none⟩)]
  refine (callsIn_wide (n := 6)).1 ?_
  refine callsIn_of_wp_marks Tryz.func25 rfl trivial ?_ rfl
  simp only [Tryz.ntmps25, List.size_toArray, List.length_cons, List.length_nil, Nat.reduceAdd, Nat.reduceSub, Array.replicate_succ, Array.replicate_zero, List.push_toArray, List.append_toArray, List.nil_append, List.cons_append]
  gi_wp2_with (refine ⟨trivial, ?_⟩; gi_at_call 54; refine (callsIn_wide.2 (all_fn _ _)).mono ?_; rintro e w' ⟨rfl, hw⟩; replace hw := hw.symm; subst hw)
  obtain ⟨W3, hW3⟩ : ∃ X, X = ((w.alloc (.cells #[.slice none 0 0] 46)).alloc (.cells #[.pointer (some ⟨gf, 0, none⟩)] 47)).alloc (.cells #[.pointer (some ⟨gf, 0, none⟩)] 47) := ⟨_, rfl⟩
  rw [← hW3]
  have HX1 : Blk W3 w.heap.size 46 #[.slice none 0 0] := by subst hW3; exact ((Blk.new _ _ _).alloc _).alloc _
  have HX0 : Blk W3 (w.heap.size + 1 + 1) 47 #[.pointer (some ⟨gf, 0, none⟩)] := by subst hW3; exact Blk.new_ (by rw [World.size_alloc, World.size_alloc]) _ _
  have HW : Below w.heap.size w W3 := by subst hW3; exact bw_alloc (bw_alloc (bw_alloc (Below.refl _ _) _) _) _
  have hs3 : W3.heap.size = w.heap.size + 3 := by subst hW3; simp
  clear hW3 hnf
  refine wpIn_rangeFunc_ownF rfl (by omega) (gf := 69) (lb := #[.pointer (some ⟨w.heap.size + 1 + 1, 0, none⟩)]) rfl trivial (enters_of Tryz.func69 (by kernel_rfl) rfl)
    (all_stops (6 - 1) (by omega) w.heap.size (w.heap.size + 1 + 1) gf g n A c V (fun k => k = w.heap.size ∨ W3.heap.size ≤ k) W3 (fun k hk => by omega) (by omega) (by omega) ⟨⟨w, B, rfl, HF.out, HW⟩, HX0.cell 0, by omega⟩) onlyK_t (onlyK_b (fun k hk => .inr hk)) (Below.refl _ _) (fun _ => rfl)
    (fun (pre : List Nat) W => VII w W3.heap.size (w.heap.size + 1 + 1) w.heap.size gf (outF V pre) W)
    (fun _ _ _ => False)
    (vi_ownI w W3.heap.size (w.heap.size + 1 + 1) w.heap.size gf (by omega) fun pre : List Nat => outF V pre)
    (fun _ _ _ _ _ hs _ _ => hs)
    ⟨⟨none, 0, HX1, World.ownsRow_nil _ _ _ _⟩, HX0, HW, Nat.le_refl _⟩
    (fun x => { tmps := #[.pointer (some ⟨gf, 0, none⟩), undef, .slice none 0 0, .pointer (some ⟨w.heap.size, 0, none⟩), .int .i64 (x : Int), .int .i64 (V x), .pointer (some ⟨gf, 0, none⟩), .func (.func 69) #[] #[.pointer (some ⟨w.heap.size + 1, 0, none⟩)], .bool false, undef, .pointer (some ⟨gf, 0, none⟩), .func (.func 69) #[] #[.pointer (some ⟨w.heap.size + 1 + 1, 0, none⟩)], .int .i64 (x : Int), .int .i64 (V x), undef, undef, undef, undef, undef, undef, undef, undef, undef, undef, undef, undef], defers := [] }) ?assign ?body ?done ?stop
  case assign =>
    intro l x W K hK
    gi_wp2
    simpa using hK
  case body =>
    rintro l pre x W hVI hlt
    have HS3 := Lib.hid hs3
    clear hs3
    have hpl := outF_len V pre
    have HNX := Lib.hid (outF_snoc V pre x)
    obtain ⟨pr, hpr⟩ : ∃ pr, pr = outF V pre := ⟨_, rfl⟩
    rw [← hpr] at hVI hpl HNX
    clear hpr
    have hp120 : pr.length < 120 := by omega
    obtain ⟨A', c', h1, h2⟩ := hVI.at_
    have HB1 := Lib.hid h1
    have HRW := Lib.hid h2
    have HB0 := Lib.hid hVI.f
    have HBW := Lib.hid hVI.b
    have HSW := Lib.hid hVI.z
    have c1 := h1.cell 0
    simp at c1
    have hgt : ¬ (400 : Int) < (pr.length : Int) + 1 := by omega
    clear h1 h2 hVI hlt hpl
    by_cases hx : x = pr.length
    · rw [if_pos hx] at HNX
      have hne : ((x : Int) != (pr.length : Int)) = false := by rw [bne_eq_false_iff_eq]; omega
      clear hx
      gi_wp2_with (gi_at_builtin; refine wpListIn_append_own _ rfl _ _ 46 rfl W3.heap.size 3 i0 _ 1 8 Tryz.underlying46 hi0 hz0 hz1 hz2 rfl (by decide) _ _ _ rfl (own_same HRW.out fun k hk => Below.heap_alloc _ _ k (HRW.out.lt k hk).2) ⟨W.heap.size, 0, none⟩ 1 1 [.int .i64 (V x)] rfl rfl (cell_one_new _ _ _) (by simp [Value.oneCell']) (by simp only [maxLen]; omega) (by omega) (by rw [World.size_alloc]; have := HSW.out; omega) ?_; intro v' w1 hown' hgrow _; obtain ⟨g', cap', rfl⟩ := ownsRow_succ hown'; have BA1 := HB1.out.alloc (.cells #[.int .i64 (V x)] 3); have hrw : W.alloc (.cells #[.int .i64 (V x)] 3) = W.alloc (.cells #[.int .i64 (V x)] 3) := rfl; have B1 := BA1.grown hgrow (fun e => own_blk_ne HRW.out HB1.out (by decide) e.symm); have B0 := (HB0.out.alloc (.cells #[.int .i64 (V x)] 3)).grown hgrow (fun e => own_blk_ne HRW.out HB0.out (by decide) e.symm); have BW := (bw_alloc HBW.out (.cells #[.int .i64 (V x)] 3)).grown hgrow (by rw [World.size_alloc]; have := HSW.out; have := HS3.out; omega) (fun k hk => by have := (HRW.out.lt k hk).1; have := HS3.out; omega); have z0 := B1.cell 0; have z1 := B1.frozen 0; simp at z0; have HB5 := Lib.hid B1; have HB05 := Lib.hid B0; have HBW5 := Lib.hid BW; have HO5 := Lib.hid hown'; have HG5 := Lib.hid hgrow; clear B1 B0 BW BA1 hown' hgrow hrw)
      refine ⟨?_, ?_, ?_⟩
      · exact ((KeepsOthers.alloc _ _).trans (keeps_own (own_same HRW.out fun k hk => Below.heap_alloc _ _ k (HRW.out.lt k hk).2) HG5.out)).trans (KeepsOthers.setCell _ _ _)
      · exact (((Only.refl _ _).alloc _).grown HG5.out (fun k hk => .inl (.inr (HRW.out.lt k hk).1))).setCell (.inl (.inl rfl)) _
      · show VII _ _ _ _ _ (outF V (pre ++ [x])) _
        rw [HNX.out]
        refine ⟨⟨some ⟨g', 0, none⟩, cap', ?_, ?_⟩, HB05.out.far (by show w.heap.size + 1 + 1 ≠ w.heap.size; omega) _, HBW5.out.setCell (p := ⟨w.heap.size, 0, none⟩) (by show w.heap.size ≤ w.heap.size; omega) _, ?_⟩
        · rw [List.length_append]
          simpa using HB5.out.set_ 0 (.slice (some ⟨g', 0, none⟩) (pr.length + 1) cap')
        · rw [List.length_append, List.flatMap_append]
          refine own_same (v := .slice (some ⟨g', 0, none⟩) (pr.length + 1) cap') (by simpa [cellsI] using HO5.out) fun k hk => ?_
          obtain ⟨ds, hd⟩ := own_blk HO5.out hk
          exact Below.heap_setCell _ _ _ _ (hd.ne_ HB5.out (by decide))
        · rw [World.size_setCell]
          refine Nat.le_trans HSW.out (Nat.le_trans ?_ HG5.out.size)
          rw [World.size_alloc]
          omega
    · rw [if_neg hx] at HNX
      have hne : ((x : Int) != (pr.length : Int)) = true := by rw [bne_iff_ne]; omega
      clear hx
      gi_wp2_with (gi_at_builtin; refine wpListIn_append_own _ rfl _ _ 46 rfl W3.heap.size 3 i0 _ 1 8 Tryz.underlying46 hi0 hz0 hz1 hz2 rfl (by decide) _ _ _ rfl (own_same HRW.out fun k hk => Below.heap_alloc _ _ k (HRW.out.lt k hk).2) ⟨W.heap.size, 0, none⟩ 1 1 [.int .i64 (-99)] rfl rfl (cell_one_new _ _ _) (by simp [Value.oneCell']) (by simp only [maxLen]; omega) (by omega) (by rw [World.size_alloc]; have := HSW.out; omega) ?_; intro v' w1 hown' hgrow _; obtain ⟨g', cap', rfl⟩ := ownsRow_succ hown'; have BA1 := HB1.out.alloc (.cells #[.int .i64 (-99)] 3); have hrw : W.alloc (.cells #[.int .i64 (-99)] 3) = W.alloc (.cells #[.int .i64 (-99)] 3) := rfl; have B1 := BA1.grown hgrow (fun e => own_blk_ne HRW.out HB1.out (by decide) e.symm); have B0 := (HB0.out.alloc (.cells #[.int .i64 (-99)] 3)).grown hgrow (fun e => own_blk_ne HRW.out HB0.out (by decide) e.symm); have BW := (bw_alloc HBW.out (.cells #[.int .i64 (-99)] 3)).grown hgrow (by rw [World.size_alloc]; have := HSW.out; have := HS3.out; omega) (fun k hk => by have := (HRW.out.lt k hk).1; have := HS3.out; omega); have z0 := B1.cell 0; have z1 := B1.frozen 0; simp at z0; have HB5 := Lib.hid B1; have HB05 := Lib.hid B0; have HBW5 := Lib.hid BW; have HO5 := Lib.hid hown'; have HG5 := Lib.hid hgrow; clear B1 B0 BW BA1 hown' hgrow hrw)
      refine ⟨?_, ?_, ?_⟩
      · exact ((KeepsOthers.alloc _ _).trans (keeps_own (own_same HRW.out fun k hk => Below.heap_alloc _ _ k (HRW.out.lt k hk).2) HG5.out)).trans (KeepsOthers.setCell _ _ _)
      · exact (((Only.refl _ _).alloc _).grown HG5.out (fun k hk => .inl (.inr (HRW.out.lt k hk).1))).setCell (.inl (.inl rfl)) _
      · show VII _ _ _ _ _ (outF V (pre ++ [x])) _
        rw [HNX.out]
        refine ⟨⟨some ⟨g', 0, none⟩, cap', ?_, ?_⟩, HB05.out.far (by show w.heap.size + 1 + 1 ≠ w.heap.size; omega) _, HBW5.out.setCell (p := ⟨w.heap.size, 0, none⟩) (by show w.heap.size ≤ w.heap.size; omega) _, ?_⟩
        · rw [List.length_append]
          simpa using HB5.out.set_ 0 (.slice (some ⟨g', 0, none⟩) (pr.length + 1) cap')
        · rw [List.length_append, List.flatMap_append]
          refine own_same (v := .slice (some ⟨g', 0, none⟩) (pr.length + 1) cap') (by simpa [cellsI] using HO5.out) fun k hk => ?_
          obtain ⟨ds, hd⟩ := own_blk HO5.out hk
          exact Below.heap_setCell _ _ _ _ (hd.ne_ HB5.out (by decide))
        · rw [World.size_setCell]
          refine Nat.le_trans HSW.out (Nat.le_trans ?_ HG5.out.size)
          rw [World.size_alloc]
          omega
  case done =>
    rintro D ys W hD hys hVI hK
    rw [hys, outF_range] at hVI
    obtain ⟨A', c', h1, h2⟩ := hVI.at_
    have c0 := h1.cell 0
    simp at c0
    gi_wp2
    refine ⟨by simp, .inl ⟨_, _, rfl, run_takeDeferred hK, ?_⟩⟩
    exact ⟨_, results_tmp rfl _ _ _, A', c', by first | rfl | simp, own_mono (ownsRow_putObj h2 _ hK rfl) (by omega), hVI.b.grown (grownBy_putObj' _ _ _) hVI.b.size (fun k e => by cases e; omega)⟩
  case stop =>
    rintro D c pre W _ _ h _
    exact h.elim
set_option maxRecDepth 100000 in
set_option maxHeartbeats 8000000 in
theorem allF_nil (w : World) :
    Calls Tryz.prog 25 #[.pointer none] w (ValPI [] w) := by
  obtain ⟨i0, hi0, hz0, hz1, hz2⟩ := info_parts int_infoC
  have hnf := run_nilseq_no 69 #[.pointer (some ⟨w.heap.size + 1, 0, none⟩)]
  refine (callsIn_wide (n := 6)).1 ?_
  refine callsIn_of_wp_marks Tryz.func25 rfl trivial ?_ rfl
  simp only [Tryz.ntmps25, List.size_toArray, List.length_cons, List.length_nil, Nat.reduceAdd, Nat.reduceSub, Array.replicate_succ, Array.replicate_zero, List.push_toArray, List.append_toArray, List.nil_append, List.cons_append]
  gi_wp2_with (refine ⟨trivial, ?_⟩; gi_at_call 54; refine (callsIn_wide.2 (all_fn _ _)).mono ?_; rintro e w' ⟨rfl, hw⟩; replace hw := hw.symm; subst hw)
  obtain ⟨W3, hW3⟩ : ∃ X, X = ((w.alloc (.cells #[.slice none 0 0] 46)).alloc (.cells #[.pointer none] 47)).alloc (.cells #[.pointer none] 47) := ⟨_, rfl⟩
  rw [← hW3]
  have HX1 : Blk W3 w.heap.size 46 #[.slice none 0 0] := by subst hW3; exact ((Blk.new _ _ _).alloc _).alloc _
  have HX0 : Blk W3 (w.heap.size + 1 + 1) 47 #[.pointer none] := by subst hW3; exact Blk.new_ (by rw [World.size_alloc, World.size_alloc]) _ _
  have HW : Below w.heap.size w W3 := by subst hW3; exact bw_alloc (bw_alloc (bw_alloc (Below.refl _ _) _) _) _
  have hs3 : W3.heap.size = w.heap.size + 3 := by subst hW3; simp
  clear hW3 hnf
  refine wpIn_rangeFunc_ownF rfl (by omega) (gf := 69) (lb := #[.pointer (some ⟨w.heap.size + 1 + 1, 0, none⟩)]) rfl trivial (enters_of Tryz.func69 (by kernel_rfl) rfl)
    (all1_nil (6 - 1) (by omega) (w.heap.size + 1 + 1) (fun _ => 0) (fun k => k = w.heap.size ∨ W3.heap.size ≤ k) W3 (by omega) (HX0.cell 0)) onlyK_t (onlyK_b (fun k hk => .inr hk)) (Below.refl _ _) (fun _ => rfl)
    (fun (pre : List Nat) W => Blk W w.heap.size 46 #[.slice none 0 0] ∧ Below w.heap.size w W)
    (fun _ _ _ => False)
    (OwnFrom.and (fun pre X Y row h hg hr => blk_kept h hg hr) (ownFrom_below (Nat.le_refl _) (by omega)))
    (fun _ _ _ _ _ hs _ _ => hs)
    ⟨HX1, HW⟩
    (fun x => { tmps := #[.pointer none, undef, .slice none 0 0, .pointer (some ⟨w.heap.size, 0, none⟩), .int .i64 (x : Int), .int .i64 ((fun _ => 0) x), .pointer none, .func (.func 69) #[] #[.pointer (some ⟨w.heap.size + 1, 0, none⟩)], .bool false, undef, .pointer none, .func (.func 69) #[] #[.pointer (some ⟨w.heap.size + 1 + 1, 0, none⟩)], .int .i64 (x : Int), .int .i64 ((fun _ => 0) x), undef, undef, undef, undef, undef, undef, undef, undef, undef, undef, undef, undef], defers := [] }) ?assign ?body ?done ?stop
  case assign =>
    intro l x W K hK
    gi_wp2
    simpa using hK
  case body =>
    intro l pre x W _ hlt
    omega
  case done =>
    rintro D ys W hD hys ⟨h1, hB⟩ hK
    have c0 := h1.cell 0
    simp at c0
    gi_wp2
    refine ⟨by simp, .inl ⟨_, _, rfl, run_takeDeferred hK, ?_⟩⟩
    exact ⟨_, results_tmp rfl _ _ _, none, 0, rfl, World.ownsRow_nil _ _ _ _, hB.grown (grownBy_putObj' _ _ _) hB.size (fun k e => by cases e; omega)⟩
  case stop =>
    rintro D c pre W _ _ h _
    exact h.elim
end Go.Proofs.YtbdicndkkenbgaaGreat
