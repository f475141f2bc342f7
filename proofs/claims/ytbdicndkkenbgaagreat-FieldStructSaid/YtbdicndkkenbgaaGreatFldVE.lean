/- (*gypsum/field.Field[gypsum/api.Edge]).Values, walked. No condition but sizes. -/
import Derived.Test.YtbdicndkkenbgaaGreatFldVI
import Derived.Test.YtbdicndkkenbgaaGreatFldNE
import Derived.Laws.OwnMore
import Derived.Deep.QuietTactic
namespace Go.Proofs.YtbdicndkkenbgaaGreat
open Go.RowKit Go.Shelf

set_option linter.unusedSimpArgs false
set_option linter.unusedVariables false
attribute [local go_sem] Oper.semAt_some
theorem run_eqE (a b c d : Int) (w : World) : (binOp .eql 32 (.agg #[.int .i64 a, .int .i64 b]) (.agg #[.int .i64 c, .int .i64 d])).run Tryz.prog w = .ok (.bool (a == c && b == d)) w := by
  rw [run_eql_struct]
  show ((Op.equalIn (9998 + 1 + 1) _ _ _).run _ _).andThen _ = _
  unfold Op.equalIn
  cases h1 : (a == c) <;> cases h2 : (b == d) <;> simp [go_sem, Tryz.underlying3, Result.andThen, List.range', h1, h2]
theorem run_eqE1 (x : Int × Int) (w : World) : (binOp .eql 32 (.agg #[.int .i64 x.1, .int .i64 x.2]) (.agg #[.int .i64 x.1, .int .i64 x.2])).run Tryz.prog w = .ok (.bool true) w := by
  rw [run_eqE]; simp
theorem run_eqE0 (x y : Int × Int) (h : y ≠ x) (w : World) : (binOp .eql 32 (.agg #[.int .i64 x.1, .int .i64 x.2]) (.agg #[.int .i64 y.1, .int .i64 y.2])).run Tryz.prog w = .ok (.bool false) w := by
  rw [run_eqE]
  have : (x.1 == y.1 && x.2 == y.2) = false := by
    rw [Bool.eq_false_iff]
    intro e
    rw [Bool.and_eq_true, beq_iff_eq, beq_iff_eq] at e
    exact h (Prod.ext e.1 e.2).symm
  rw [this]
def IdxPE (x : Int × Int) (M : List (Int × Int)) (w : World) (e : Ending) (w' : World) : Prop := (∃ i : Int, e = .returned (.int .i64 i) ∧ decide (0 ≤ i) = decide (x ∈ M)) ∧ Below w.heap.size w w'
theorem take_memE {M : List (Int × Int)} {k : Nat} {y x : Int × Int} (hy : M[k]? = some y) (h : x ∉ M.take k) (hne : y ≠ x) : x ∉ M.take (k + 1) := by
  have hk := (List.getElem?_eq_some_iff.1 hy).1
  rw [List.take_succ_eq_append_getElem hk, (List.getElem?_eq_some_iff.1 hy).2, List.mem_append]
  rintro (h' | h')
  · exact h h'
  · exact hne (List.mem_singleton.1 h').symm
theorem own_ptE {w : World} {base : Nat} {e : TypeId} {n c k : Nat} {A : Option Addr} {M : List (Int × Int)} {y : Int × Int} (h : w.ownsRow base e 2 (.slice A n c) n (M.flatMap cellsE)) (hy : M[k]? = some y) :
    ∃ gr, A = some ⟨gr, 0, none⟩ ∧ gr < w.heap.size ∧ w.cell? ⟨gr, k * 2, none⟩ = some (.int .i64 y.1) ∧ w.cell? ⟨gr, k * 2 + 1, none⟩ = some (.int .i64 y.2) := by
  have hk := (List.getElem?_eq_some_iff.1 hy).1
  have hl := h.1
  rw [flatMap_len 2 _ (fun _ => rfl)] at hl
  have hn : k < n := by omega
  obtain ⟨g, cap, hv, _, hlt⟩ := h.form (by omega)
  injection hv with hA _ hc
  subst hA hc
  refine ⟨g, rfl, hlt, ?_, ?_⟩
  · rw [h.cellAt (k * 2) (by omega)]
    exact flatMap_at 2 cellsE (fun _ => rfl) M k 0 _ hy (by omega)
  · rw [h.cellAt (k * 2 + 1) (by omega)]
    exact flatMap_at 2 cellsE (fun _ => rfl) M k 1 _ hy (by omega)
theorem keeps_below {W W' : World} (hb : Below W.heap.size W W') : KeepsOthers W W' := ⟨hb.size, fun k o h _ => (hb.block k (Array.getElem?_eq_some_iff.1 h).1).trans h⟩
theorem own_up_ {w w' : World} {base : Nat} {e : TypeId} {size n : Nat} {v : Value} {xs : List Value} (h : w.ownsRow base e size v n xs) (hb : Below w.heap.size w w') : w'.ownsRow base e size v n xs := own_same h fun k hk => hb.block k (h.lt k hk).2
attribute [local irreducible] Blk LRow World.alloc World.setCell World.cell? World.frozen? MapV
set_option maxHeartbeats 4000000 in
theorem indexE_any (B : Nat) (A : Option Addr) (c : Nat) (M : List (Int × Int)) (x : Int × Int) (w : World) (hn : M.length ≤ 1000000) (hr : w.ownsRow B 32 2 (.slice A M.length c) M.length (M.flatMap cellsE)) :
    Calls Tryz.prog 68 #[.slice A M.length c, (.agg #[.int .i64 x.1, .int .i64 x.2])] w (IdxPE x M w) := by
  have HR := Lib.hid hr
  clear hr
  obtain ⟨V0, hV⟩ : ∃ V, V = w.alloc (.cells #[.int .i64 x.1, .int .i64 x.2] 32) := ⟨_, rfl⟩
  have GX0 : Hid (Blk V0 w.heap.size 32 #[.int .i64 x.1, .int .i64 x.2]) := by subst hV; exact Lib.hid (Blk.new _ _ _)
  have HR0 : Hid (V0.ownsRow B 32 2 (.slice A M.length c) M.length (M.flatMap cellsE)) := by subst hV; exact Lib.hid (own_same HR.out fun k hk => Below.heap_alloc _ _ k (HR.out.lt k hk).2)
  have HB0 : Hid (Below w.heap.size w V0) := by subst hV; exact Lib.hid (bw_alloc (Below.refl _ _) _)
  clear HR
  go_enter Tryz.func68, Tryz.ntmps68
  go_upto_region 1 with (fail)
  rw [← hV]
  clear hV
  obtain ⟨gx, hgx⟩ : ∃ g, g = w.heap.size := ⟨_, rfl⟩
  rw [← hgx] at GX0
  simp only [← hgx]
  clear hgx
  go_wp2_with fail
  go_loopw [8] (fun kv wr => ∃ k d : Nat, k ≤ M.length ∧ kv = .int .i64 (k : Int) ∧ Hid (x ∉ M.take k) ∧ wr = V0.drewN d) (fun kv _ => M.length - (intOf kv).toNat)
  case atStart => exact ⟨0, 0, by omega, rfl, Lib.hid (by simp), rfl⟩
  case round =>
    obtain ⟨k, d, hk, rfl, HX, hwr⟩ := hrel
    rw [hwr]
    clear hwr
    by_cases hlt : k < M.length
    · have hki : (k : Int) < (M.length : Int) := by omega
      obtain ⟨y, hy⟩ : ∃ y, M[k]? = some y := ⟨_, List.getElem?_eq_getElem hlt⟩
      obtain ⟨gr, rfl, _, q0, q1⟩ := own_ptE HR0.out hy
      have HY := Lib.hid hy
      have b0 := GX0.out.cell 0
      have b1 := GX0.out.cell 1
      simp at b0 b1
      clear hy
      by_cases hyx : y = x
      · subst hyx
        have hbe := run_eqE1 y
        go_wp2_with fail
        go_quiet (fail)
        go_wp2_with fail
        go_ret
        have hm : y ∈ M := List.mem_of_getElem? HY.out
        exact ⟨⟨k, rfl, by simp [hm]⟩, below_drewN (below_drewN HB0.out _) _⟩
      · have hbe := run_eqE0 x y hyx
        go_wp2_with fail
        go_quiet (fail)
        go_wp2_with fail
        exact ⟨⟨k + 1, _, by omega, by go_num, Lib.hid (take_memE HY.out HX.out hyx), rfl⟩, by simp [intOf]; omega⟩
    · obtain rfl : k = M.length := by omega
      have hki : ¬ (M.length : Int) < (M.length : Int) := by omega
      have hx := HX.out
      rw [List.take_length] at hx
      go_wp2_with fail
      go_ret
      exact ⟨⟨-1, rfl, by simp [hx]⟩, below_drewN HB0.out _⟩
set_option maxHeartbeats 2000000 in
theorem containsE_any (B : Nat) (A : Option Addr) (c : Nat) (M : List (Int × Int)) (x : Int × Int) (w : World) (hn : M.length ≤ 1000000) (hr : w.ownsRow B 32 2 (.slice A M.length c) M.length (M.flatMap cellsE)) :
    Calls Tryz.prog 53 #[.slice A M.length c, (.agg #[.int .i64 x.1, .int .i64 x.2])] w (BoolPost w (decide (x ∈ M))) := by
  obtain ⟨V0, hV⟩ : ∃ V, V = w.alloc (.cells #[.int .i64 x.1, .int .i64 x.2] 32) := ⟨_, rfl⟩
  have GX0 : Hid (Blk V0 w.heap.size 32 #[.int .i64 x.1, .int .i64 x.2]) := by subst hV; exact Lib.hid (Blk.new _ _ _)
  have HR0 : Hid (V0.ownsRow B 32 2 (.slice A M.length c) M.length (M.flatMap cellsE)) := by subst hV; exact Lib.hid (own_same hr fun k hk => Below.heap_alloc _ _ k (hr.lt k hk).2)
  have HB0 : Hid (Below w.heap.size w V0) := by subst hV; exact Lib.hid (bw_alloc (Below.refl _ _) _)
  have HI := Lib.hid (indexE_any B A c M x V0 hn HR0.out)
  clear hr HR0
  unfold IdxPE at HI
  generalize decide (x ∈ M) = b at *
  go_enter Tryz.func53, Tryz.ntmps53
  go_upto_region 1 with (fail)
  rw [← hV]
  clear hV
  obtain ⟨gx, hgx⟩ : ∃ g, g = w.heap.size := ⟨_, rfl⟩
  rw [← hgx] at GX0
  simp only [← hgx]
  clear hgx
  have b0 := GX0.out.cell 0
  have b1 := GX0.out.cell 1
  simp at b0 b1
  go_wp2_with fail
  refine HI.out.mono ?_
  rintro e w1 ⟨⟨i, rfl, hi⟩, hb⟩
  have HB := Lib.hid (bw_call HB0.out hb)
  clear hb HB0 GX0 b0 b1 HI
  rcases Int.lt_or_le i 0 with h | h
  · obtain rfl : false = b := by rw [← hi, decide_eq_false (by omega)]
    have h' : ¬ 0 ≤ i := by omega
    clear hi
    go_wp2_with fail
    go_ret
    first | exact ⟨rfl, HB.out⟩ | exact ⟨by simp [h], HB.out⟩
  · obtain rfl : true = b := by rw [← hi, decide_eq_true h]
    clear hi
    go_wp2_with fail
    go_ret
    first | exact ⟨rfl, HB.out⟩ | exact ⟨by simp [h], HB.out⟩
/-- What the loop keeps. -/
structure VIE (w : World) (B4 b0 b1 gf : Nat) (M : List (Int × Int)) (W : World) : Prop where
  at_ : ∃ (A' : Option Addr) (c' : Nat), Blk W b1 43 #[.slice A' M.length c'] ∧ W.ownsRow B4 32 2 (.slice A' M.length c') M.length (M.flatMap cellsE)
  f : Blk W b0 29 #[.pointer (some ⟨gf, 0, none⟩)]
  b : Below w.heap.size w W
  z : B4 ≤ W.heap.size
theorem vi_ownE (w : World) (B4 b0 b1 gf : Nat) (hB : w.heap.size ≤ B4) {β : Type} (f : β → List (Int × Int)) : OwnFrom B4 (fun (pre : β) W => VIE w B4 b0 b1 gf (f pre) W) := fun pre X Y row h hg hr => by
  obtain ⟨A', c', h1, h2⟩ := h.at_
  exact ⟨⟨A', c', blk_kept h1 hg hr, own_kept h2 hg hr⟩, blk_kept h.f hg hr, h.b.grown hg h.b.size fun k e => by have := (hr k e).1; omega, Nat.le_trans h.z hg.size⟩
def ValPE (M : List (Int × Int)) (w : World) (e : Ending) (w' : World) : Prop := ∃ (A : Option Addr) (c : Nat), e = .returned (.slice A M.length c) ∧ w'.ownsRow w.heap.size 32 2 (.slice A M.length c) M.length (M.flatMap cellsE) ∧ Below w.heap.size w w'
theorem flat_atE (V : Nat → Int × Int) {n k : Nat} (hk : k < n) : ((List.range n).flatMap fun i => cellsE (V i)) = ((List.range n).map V).flatMap cellsE ∧ ((List.range n).map V)[k]? = some (V k) :=
  ⟨by rw [List.flatMap_map], by simp [hk]⟩
set_option maxRecDepth 100000 in
set_option maxHeartbeats 8000000 in
theorem valuesE_any (gf g m B : Nat) (T : List Tri) (A : Option Addr) (c : Nat) (V : Nat → Int × Int) (v : Int) (L : List Nat) (w : World) (hT : T.length ≤ 1000) (hF : FAt w 80 32 2 B gf g A c (3 * T.length) ((List.range (3 * T.length)).flatMap fun i => cellsE (V i))) (h : TabN w g m T) (hr : RingL m T v L) :
    Calls Tryz.prog 18 #[.pointer (some ⟨gf, 0, none⟩), .int .i64 v] w (ValPE (valsL V L) w) := by
  have HT := Lib.hid h
  have HR := Lib.hid hr
  have HF := Lib.hid hF
  clear h hr hF
  obtain ⟨i0, hi0, hz0, hz1, hz2⟩ := info_parts infoE
  have f0 := ((HF.out.alloc (.cells #[.pointer (some ⟨gf, 0, none⟩)] 29)).alloc (.cells #[.slice none 0 0] 43)).f0
  refine (callsIn_wide (n := 6)).1 ?_
  refine callsIn_of_wp_marks Tryz.func18 rfl trivial ?_ rfl
  simp only [Tryz.ntmps18, List.size_toArray, List.length_cons, List.length_nil, Nat.reduceAdd, Nat.reduceSub, Array.replicate_succ, Array.replicate_zero, List.push_toArray, List.append_toArray, List.nil_append, List.cons_append]
  gi_wp2_with (refine ⟨trivial, ?_⟩; gi_at_call 52; refine (callsIn_wide.2 (around_fn _ _ _)).mono ?_; rintro e w' ⟨rfl, hw⟩; replace hw := hw.symm; subst hw)
  clear f0
  obtain ⟨W4, hW4⟩ : ∃ X, X = (((w.alloc (.cells #[.pointer (some ⟨gf, 0, none⟩)] 29)).alloc (.cells #[.slice none 0 0] 43)).alloc (.cells #[.pointer (some ⟨g, 0, none⟩)] 26)).alloc (.cells #[.int .i64 v] 3) := ⟨_, rfl⟩
  rw [← hW4]
  have HA : Hid (ArAt W4 w.heap.size (w.heap.size + 1 + 1) (w.heap.size + 1 + 1 + 1) g m T v) := by
    have := arAt_new (v := v) (p := .int .i64 0) (t1 := 26) (t2 := 3) HT.out (bw_alloc (bw_alloc (Below.refl _ _) (.cells #[.pointer (some ⟨gf, 0, none⟩)] 29)) (.cells #[.slice none 0 0] 43))
    rw [World.size_alloc, World.size_alloc] at this
    subst hW4
    exact Lib.hid this
  have HX0 : Blk W4 w.heap.size 29 #[.pointer (some ⟨gf, 0, none⟩)] := by subst hW4; exact (((Blk.new _ _ _).alloc _).alloc _).alloc _
  have HX1 : Blk W4 (w.heap.size + 1) 43 #[.slice none 0 0] := by subst hW4; exact ((Blk.new_ (by rw [World.size_alloc]) _ _).alloc _).alloc _
  have HW : Below w.heap.size w W4 := by subst hW4; exact bw_alloc (bw_alloc (bw_alloc (bw_alloc (Below.refl _ _) _) _) _) _
  have hs4 : W4.heap.size = w.heap.size + 4 := by subst hW4; simp
  clear hW4
  refine wpIn_rangeFunc_ownF rfl (by omega) (gf := 64) (lb := #[.pointer (some ⟨w.heap.size + 1 + 1, 0, none⟩), .pointer (some ⟨w.heap.size + 1 + 1 + 1, 0, none⟩)]) rfl trivial (enters_of Tryz.func64 (by kernel_rfl) rfl)
    (around_stops (6 - 1) (by omega) w.heap.size (w.heap.size + 1 + 1) (w.heap.size + 1 + 1 + 1) g m T v L (fun k => k = w.heap.size + 1 ∨ W4.heap.size ≤ k) W4 (fun k hk => by omega) (by omega) (by omega) HR.out HA.out) onlyK_t (onlyK_b (fun k hk => .inr hk)) (Below.refl _ _) (fun _ => rfl)
    (fun (pre : List { x : Nat // x < 3 * T.length }) W => VIE w W4.heap.size w.heap.size (w.heap.size + 1) gf (valsL V (pre.map (·.1))) W)
    (fun _ _ _ => False)
    (vi_ownE w W4.heap.size w.heap.size (w.heap.size + 1) gf (by omega) fun (pre : List { x : Nat // x < 3 * T.length }) => valsL V (pre.map (·.1)))
    (fun _ _ _ _ _ hs _ _ => hs)
    ⟨⟨none, 0, HX1, World.ownsRow_nil _ _ _ _⟩, HX0, HW, Nat.le_refl _⟩
    (fun x => { tmps := #[.pointer (some ⟨gf, 0, none⟩), .int .i64 v, .pointer (some ⟨w.heap.size, 0, none⟩), undef, .slice none 0 0, .pointer (some ⟨w.heap.size + 1, 0, none⟩), .int .i64 (x.1 : Int), .pointer (some ⟨gf, 0, none⟩), .bool false, .pointer (some ⟨gf, 0, none⟩), .pointer (some ⟨gf, 0, none⟩), .pointer (some ⟨gf, 0, none⟩), .pointer (some ⟨g, 0, none⟩), .int .i64 v, .func (.func 64) #[] #[.pointer (some ⟨w.heap.size + 1 + 1, 0, none⟩), .pointer (some ⟨w.heap.size + 1 + 1 + 1, 0, none⟩)], .int .i64 (x.1 : Int), undef, undef, undef, undef, undef, undef, undef, undef, undef, undef, undef, undef, undef, undef, undef, undef, undef, undef, undef, undef, undef], defers := [] }) ?assign ?body ?done ?stop
  case assign =>
    intro l x W K hK
    gi_wp2
    simpa using hK
  case body =>
    rintro l pre ⟨x, hx⟩ W hVI hlt
    obtain ⟨pr, hpr⟩ : ∃ pr, pr = valsL V (pre.map (·.1)) := ⟨_, rfl⟩
    have hpl : pr.length ≤ 100000 := by
      have h1 := valsL_len (l := V) (pre.map (·.1))
      have h2 := HR.out.len
      rw [List.length_map] at h1
      rw [hpr]
      omega
    have hnx : valsL V ((pre ++ [(⟨x, hx⟩ : { x : Nat // x < 3 * T.length })]).map (·.1)) = if V x ∈ pr then pr else pr ++ [V x] := by
      rw [List.map_append, hpr]
      refine (valsL_snoc (l := V) (pre.map (·.1)) x).trans ?_
      by_cases hm : V x ∈ valsL V (pre.map (·.1))
      · rw [if_pos hm, if_pos hm]
      · rw [if_neg hm, if_neg hm]
    have HNX := Lib.hid hnx
    rw [← hpr] at hVI
    clear hnx hpr hlt
    obtain ⟨A', c', h1, h2⟩ := hVI.at_
    have HFW := Lib.hid (HF.out.below hVI.b)
    obtain ⟨gr, hA, _, hc0, hc1⟩ := own_ptE ((flat_atE V hx).1 ▸ HFW.out.r) (flat_atE V hx).2
    subst hA
    have HB1 := Lib.hid h1
    have HRW := Lib.hid h2
    have HB0 := Lib.hid hVI.f
    have HBW := Lib.hid hVI.b
    have HC0 := Lib.hid hc0
    have HC1 := Lib.hid hc1
    have HCW0 : Hid (CellQ w ⟨gr, x * 2, none⟩ (.int .i64 (V x).1)) := by
      obtain ⟨gr', e, _, h3, h4⟩ := own_ptE ((flat_atE V hx).1 ▸ HF.out.r) (flat_atE V hx).2
      cases e
      exact Lib.hid ⟨h3, World.block_lt_of_cell? _ _ h3⟩
    have HCW1 : Hid (CellQ w ⟨gr, x * 2 + 1, none⟩ (.int .i64 (V x).2)) := by
      obtain ⟨gr', e, _, h3, h4⟩ := own_ptE ((flat_atE V hx).1 ▸ HF.out.r) (flat_atE V hx).2
      cases e
      exact Lib.hid ⟨h4, World.block_lt_of_cell? _ _ h4⟩
    have HSW := Lib.hid hVI.z
    clear h1 h2 hVI hc0 hc1
    gi_wp2
    have hxi : (x : Int) < 3 * (T.length : Int) := by omega
    refine wpIn_region_held (S := fun w' => w'.cell? ⟨w.heap.size + 1, 0, none⟩ = some (.slice A' pr.length c') ∧ w'.cell? ⟨w.heap.size, 0, none⟩ = some (.pointer (some ⟨gf, 0, none⟩)) ∧ w'.cell? ⟨gf, 1, none⟩ = some (.slice (some ⟨gr, 0, none⟩) (3 * T.length) c) ∧ w'.cell? ⟨gr, x * 2, none⟩ = some (.int .i64 (V x).1) ∧ w'.cell? ⟨gr, x * 2 + 1, none⟩ = some (.int .i64 (V x).2)) (by kernel_rfl) (by kernel_rfl) (by rintro ⟨a, w, h⟩; exact h) ⟨HB1.out.drew.cell 0, HB0.out.drew.cell 0, HFW.out.drew.f1, (cell_drew_own _ _).trans HC0.out, (cell_drew_own _ _).trans HC1.out⟩ (fun hHeld => ?_)
    refine held_take (i := 0) (v := ?v1) rfl (by kernel_rfl) (by kernel_rfl) (by kernel_rfl) (fun _ _ _ h => h) (Or.inl ⟨by rfl, ?hy1⟩) (by assumption) ?rest1
    case hy1 => (intro w hSw; (try dsimp only at hSw); go_simp; try with_reducible rfl)
    (try simp only [Act.put, List.setIfInBounds_toArray, List.set_cons_zero, List.set_cons_succ])
    refine held_take (i := 1) (v := ?v2) rfl (by kernel_rfl) (by kernel_rfl) (by kernel_rfl) (fun _ _ _ h => h) (Or.inl ⟨by rfl, ?hy2⟩) (by assumption) ?rest2
    case hy2 => (intro w hSw; (try dsimp only at hSw); go_simp; try with_reducible rfl)
    (try simp only [Act.put, List.setIfInBounds_toArray, List.set_cons_zero, List.set_cons_succ])
    refine held_take (i := 2) (v := ?v3) rfl (by kernel_rfl) (by kernel_rfl) (by kernel_rfl) (fun _ _ _ h => h) (Or.inl ⟨by rfl, ?hy3⟩) (by assumption) ?rest3
    case hy3 => (intro w hSw; (try dsimp only at hSw); go_simp; try with_reducible rfl)
    (try simp only [Act.put, List.setIfInBounds_toArray, List.set_cons_zero, List.set_cons_succ])
    refine held_take (i := 3) (v := ?v4) rfl (by kernel_rfl) (by kernel_rfl) (by kernel_rfl) (fun _ _ _ h => h) (Or.inl ⟨by rfl, ?hy4⟩) (by assumption) ?rest4
    case hy4 => (intro w hSw; (try dsimp only at hSw); go_simp; try with_reducible rfl)
    (try simp only [Act.put, List.setIfInBounds_toArray, List.set_cons_zero, List.set_cons_succ])
    refine held_take (i := 4) (v := ?v5) rfl (by kernel_rfl) (by kernel_rfl) (by kernel_rfl) (fun _ _ _ h => h) (Or.inl ⟨by rfl, ?hy5⟩) (by assumption) ?rest5
    case hy5 => (intro w hSw; (try dsimp only at hSw); go_simp; try with_reducible rfl)
    (try simp only [Act.put, List.setIfInBounds_toArray, List.set_cons_zero, List.set_cons_succ])
    refine held_take (i := 5) (v := ?v6) rfl (by kernel_rfl) (by kernel_rfl) (by kernel_rfl) (fun _ _ _ h => h) (Or.inl ⟨by rfl, ?hy6⟩) (by assumption) ?rest6
    case hy6 => (intro w hSw; (try dsimp only at hSw); go_simp; try with_reducible rfl)
    (try simp only [Act.put, List.setIfInBounds_toArray, List.set_cons_zero, List.set_cons_succ])
    refine held_take (i := 6) (v := ?v7) rfl (by kernel_rfl) (by kernel_rfl) (by kernel_rfl) (fun _ _ _ h => h) (Or.inl ⟨by rfl, ?hy7⟩) (by assumption) ?rest7
    case hy7 => (intro w hSw; (try dsimp only at hSw); go_simp; try with_reducible rfl)
    (try simp only [Act.put, List.setIfInBounds_toArray, List.set_cons_zero, List.set_cons_succ])
    refine held_take (i := 7) (v := ?v8) rfl (by kernel_rfl) (by kernel_rfl) (by kernel_rfl) (fun _ _ _ h => h) (Or.inl ⟨by rfl, ?hy8⟩) (by assumption) ?rest8
    case hy8 => (intro w hSw; (try dsimp only at hSw); go_simp; try with_reducible rfl)
    (try simp only [Act.put, List.setIfInBounds_toArray, List.set_cons_zero, List.set_cons_succ])
    refine wpAnyH_ready (rs := [8]) (by kernel_rfl) (by simp) ?_
    refine held_cons rfl (fun K hK => ?_) ?_
    · go_simp
      go_wp2_with (go_at_call 53; refine (containsE_any W4.heap.size A' c' pr (V x) _ (by omega) HRW.out.drew).mono ?_; rintro e W2 ⟨rfl, hb⟩)
      have HK2 : Hid (KeepsOthers W W2) := Lib.hid ((KeepsOthers.drew _).trans (keeps_below hb))
      have HO2 : Hid (Only (fun k => k = w.heap.size + 1 ∨ W4.heap.size ≤ k) W W2) := Lib.hid (((Only.refl _ W).drew).trans (Only.of_below hb _))
      have HP1 := Lib.hid (blk_call HB1.out.drew hb)
      have HP0 := Lib.hid (blk_call HB0.out.drew hb)
      have HPR := Lib.hid (own_up_ HRW.out.drew hb)
      have HPB := Lib.hid (bw_call (bw_drew HBW.out) hb)
      have HPS : Hid (W4.heap.size ≤ W2.heap.size) := Lib.hid (Nat.le_trans HSW.out hb.size)
      have HPF := Lib.hid (HF.out.below HPB.out)
      clear hb HB1 HB0 HRW HBW HSW HFW HC0 HC1
      refine hK.out _ _ ?_ (fun hHeld => ?_)
      · exact ⟨HP1.out.cell 0, HP0.out.cell 0, HPF.out.f1, (HCW0.out.below HPB.out).c, (HCW1.out.below HPB.out).c⟩
      clear hK K
      (try simp only [Act.put, List.setIfInBounds_toArray, List.set_cons_zero, List.set_cons_succ])
      refine held_take (i := 9) (v := ?v9) rfl (by kernel_rfl) (by kernel_rfl) (by kernel_rfl) (fun _ _ _ h => h) (Or.inl ⟨by rfl, ?hy9⟩) (by assumption) ?rest9
      case hy9 => (intro w hSw; (try dsimp only at hSw); go_simp; try with_reducible rfl)
      (try simp only [Act.put, List.setIfInBounds_toArray, List.set_cons_zero, List.set_cons_succ])
      refine wpAnyH_done (by kernel_rfl) ?_ _
      by_cases hm : V x ∈ pr
      · rw [decide_eq_true hm]
        rw [if_pos hm] at HNX
        clear hm
        gi_wp2
        exact ⟨HK2.out, HO2.out, by show VIE _ _ _ _ _ (valsL V ((pre ++ [(⟨x, hx⟩ : { x : Nat // x < 3 * T.length })]).map (·.1))) _; rw [HNX.out]; exact ⟨⟨A', c', HP1.out, HPR.out⟩, HP0.out, HPB.out, HPS.out⟩⟩
      · rw [decide_eq_false hm]
        rw [if_neg hm] at HNX
        clear hm
        gi_wp2
        refine wpIn_region_till (S := fun w' => w'.cell? ⟨w.heap.size + 1, 0, none⟩ = some (.slice A' pr.length c') ∧ w'.cell? ⟨w.heap.size, 0, none⟩ = some (.pointer (some ⟨gf, 0, none⟩)) ∧ w'.cell? ⟨gf, 1, none⟩ = some (.slice (some ⟨gr, 0, none⟩) (3 * T.length) c) ∧ w'.cell? ⟨gr, x * 2, none⟩ = some (.int .i64 (V x).1) ∧ w'.cell? ⟨gr, x * 2 + 1, none⟩ = some (.int .i64 (V x).2)) 10 (by kernel_rfl) (by kernel_rfl) (by rintro ⟨a, w, h⟩; exact h) ⟨HP1.out.drew.cell 0, HP0.out.drew.cell 0, (HF.out.below HPB.out.drew).f1, (HCW0.out.below HPB.out.drew).c, (HCW1.out.below HPB.out.drew).c⟩ (fun hHeld => ?_)
        refine Till.take (i := 0) (v := ?vt9) rfl (by kernel_rfl) (by kernel_rfl) (by kernel_rfl) (by kernel_rfl) (fun _ _ _ h => h) (Or.inl ⟨by rfl, ?ht9⟩) (by assumption) ?restt9
        case ht9 => (intro w hSw; (try dsimp only at hSw); go_simp; try with_reducible rfl)
        (try simp only [Act.put, List.setIfInBounds_toArray, List.set_cons_zero, List.set_cons_succ])
        refine Till.take (i := 1) (v := ?vt10) rfl (by kernel_rfl) (by kernel_rfl) (by kernel_rfl) (by kernel_rfl) (fun _ _ _ h => h) (Or.inl ⟨by rfl, ?ht10⟩) (by assumption) ?restt10
        case ht10 => (intro w hSw; (try dsimp only at hSw); go_simp; try with_reducible rfl)
        (try simp only [Act.put, List.setIfInBounds_toArray, List.set_cons_zero, List.set_cons_succ])
        refine Till.take (i := 2) (v := ?vt11) rfl (by kernel_rfl) (by kernel_rfl) (by kernel_rfl) (by kernel_rfl) (fun _ _ _ h => h) (Or.inl ⟨by rfl, ?ht11⟩) (by assumption) ?restt11
        case ht11 => (intro w hSw; (try dsimp only at hSw); go_simp; try with_reducible rfl)
        (try simp only [Act.put, List.setIfInBounds_toArray, List.set_cons_zero, List.set_cons_succ])
        refine Till.take (i := 3) (v := ?vt12) rfl (by kernel_rfl) (by kernel_rfl) (by kernel_rfl) (by kernel_rfl) (fun _ _ _ h => h) (Or.inl ⟨by rfl, ?ht12⟩) (by assumption) ?restt12
        case ht12 => (intro w hSw; (try dsimp only at hSw); go_simp; try with_reducible rfl)
        (try simp only [Act.put, List.setIfInBounds_toArray, List.set_cons_zero, List.set_cons_succ])
        refine Till.take (i := 4) (v := ?vt13) rfl (by kernel_rfl) (by kernel_rfl) (by kernel_rfl) (by kernel_rfl) (fun _ _ _ h => h) (Or.inl ⟨by rfl, ?ht13⟩) (by assumption) ?restt13
        case ht13 => (intro w hSw; (try dsimp only at hSw); go_simp; try with_reducible rfl)
        (try simp only [Act.put, List.setIfInBounds_toArray, List.set_cons_zero, List.set_cons_succ])
        refine Till.take (i := 5) (v := ?vt14) rfl (by kernel_rfl) (by kernel_rfl) (by kernel_rfl) (by kernel_rfl) (fun _ _ _ h => h) (Or.inl ⟨by rfl, ?ht14⟩) (by assumption) ?restt14
        case ht14 => (intro w hSw; (try dsimp only at hSw); go_simp; try with_reducible rfl)
        (try simp only [Act.put, List.setIfInBounds_toArray, List.set_cons_zero, List.set_cons_succ])
        refine Till.take (i := 6) (v := ?vt15) rfl (by kernel_rfl) (by kernel_rfl) (by kernel_rfl) (by kernel_rfl) (fun _ _ _ h => h) (Or.inl ⟨by rfl, ?ht15⟩) (by assumption) ?restt15
        case ht15 => (intro w hSw; (try dsimp only at hSw); go_simp; try with_reducible rfl)
        (try simp only [Act.put, List.setIfInBounds_toArray, List.set_cons_zero, List.set_cons_succ])
        refine Till.take (i := 7) (v := ?vt16) rfl (by kernel_rfl) (by kernel_rfl) (by kernel_rfl) (by kernel_rfl) (fun _ _ _ h => h) (Or.inl ⟨by rfl, ?ht16⟩) (by assumption) ?restt16
        case ht16 => (intro w hSw; (try dsimp only at hSw); go_simp; try with_reducible rfl)
        (try simp only [Act.put, List.setIfInBounds_toArray, List.set_cons_zero, List.set_cons_succ])
        refine Till.ready (rs := [8]) (by kernel_rfl) (by simp) ?_
        refine TillEach.cons rfl (fun K hK => ?_) ?_
        · go_simp
          obtain ⟨WA, hWA⟩ : ∃ X, X = (W2.alloc (.cells #[.int .i64 (V x).1, .int .i64 (V x).2] 32)).drew := ⟨_, rfl⟩
          rw [← hWA]
          have HBA1 : Hid (Blk WA (w.heap.size + 1) 43 #[.slice A' pr.length c']) := by subst hWA; exact Lib.hid ((HP1.out.alloc _).drew)
          have HBA0 : Hid (Blk WA w.heap.size 29 #[.pointer (some ⟨gf, 0, none⟩)]) := by subst hWA; exact Lib.hid ((HP0.out.alloc _).drew)
          have HBWA : Hid (Below w.heap.size w WA) := by subst hWA; exact Lib.hid ((bw_alloc HPB.out _).drew)
          have HRA : Hid (WA.ownsRow W4.heap.size 32 2 (.slice A' pr.length c') pr.length (pr.flatMap cellsE)) := by subst hWA; exact Lib.hid ((own_same HPR.out fun k hk => Below.heap_alloc _ _ k (HPR.out.lt k hk).2).drew)
          have HRD : Hid (Reads WA (W2.heap.size + 1) 2 (some ⟨W2.heap.size, 0, none⟩) 1 (cellsE (V x))) := by subst hWA; exact Lib.hid ((reads_newN W2 #[.int .i64 (V x).1, .int .i64 (V x).2] 32 1 2 rfl rfl).drew)
          have HSA : Hid (W4.heap.size ≤ WA.heap.size) := by subst hWA; refine Lib.hid (Nat.le_trans HPS.out ?_); exact (bw_alloc (Below.refl _ _) _).drew.size
          have HKA : Hid (KeepsOthers W WA) := by subst hWA; exact Lib.hid ((HK2.out.trans (KeepsOthers.alloc _ _)).trans (KeepsOthers.drew _))
          have HOA : Hid (Only (fun k => k = w.heap.size + 1 ∨ W4.heap.size ≤ k) W WA) := by subst hWA; exact Lib.hid (HO2.out.alloc _).drew
          clear hWA
          refine hK.out _ _ ?_ (fun hHeld => ?_)
          · exact ⟨HBA1.out.cell 0, HBA0.out.cell 0, (HF.out.below HBWA.out).f1, (HCW0.out.below HBWA.out).c, (HCW1.out.below HBWA.out).c⟩
          clear hK K
          (try simp only [Act.put, List.setIfInBounds_toArray, List.set_cons_zero, List.set_cons_succ])
          refine Till.ready (rs := [9]) (by kernel_rfl) (by simp) ?_
          refine TillEach.cons rfl (fun K hK => ?_) ?_
          · refine step_append_sl _ (by rfl) (.tmp 26) (.tmp 34) _ (by rfl) W4.heap.size 32 i0 _ 2 16 Tryz.underlying43 hi0 hz0 hz1 hz2 rfl (by omega) (.slice A' pr.length c') pr.length (pr.flatMap cellsE) (by rfl) HRA.out (W2.heap.size + 1) (some ⟨W2.heap.size, 0, none⟩) 1 1 (cellsE (V x)) (by rfl) HRD.out (by simp [cellsE, Value.oneCell']) (by simp only [maxLen]; omega) (by omega) HSA.out ?_
            intro A5 c5 w5 hown5 hg5 hat5
            have hrow : ∀ k, (Value.slice A' pr.length c').ownBlock = some k → W4.heap.size ≤ k := fun k hk => (HRA.out.lt k hk).1
            have B1 := HBA1.out.grown hg5 (fun e => own_blk_ne HRA.out HBA1.out (by decide) e.symm)
            have B0 := HBA0.out.grown hg5 (fun e => own_blk_ne HRA.out HBA0.out (by decide) e.symm)
            have BW := HBWA.out.grown hg5 (by have := HSA.out; omega) (fun k hk => by have := hrow k hk; omega)
            have z0 := B1.cell 0
            have z1 := B1.frozen 0
            simp at z0
            have HB5 := Lib.hid B1
            have HB05 := Lib.hid B0
            have HBW5 := Lib.hid BW
            have HO5 := Lib.hid hown5
            have HG5 := Lib.hid hg5
            clear B1 B0 BW hown5 hg5 hat5 hrow
            refine hK.out _ _ ?_ (fun hHeld => ?_)
            · exact ⟨z0, HB05.out.cell 0, (HF.out.below HBW5.out).f1, (HCW0.out.below HBW5.out).c, (HCW1.out.below HBW5.out).c⟩
            clear hK K
            (try simp only [Act.put, List.setIfInBounds_toArray, List.set_cons_zero, List.set_cons_succ])
            refine Till.ready (rs := [10]) (by kernel_rfl) (by simp) ?_
            refine TillEach.last rfl (fun K hK => ?_)
            · go_simp
              refine hK.out _ _ ?_
              clear hK K
              (try simp only [Act.put, List.setIfInBounds_toArray, List.set_cons_zero, List.set_cons_succ])
              refine Till.done (by kernel_rfl) ?_ _
              gi_wp2
              refine ⟨?_, ?_, ?_⟩
              · exact (HKA.out.trans (keeps_own HRA.out HG5.out)).trans (KeepsOthers.setCell _ _ _)
              · exact (HOA.out.grown HG5.out (fun k hk => .inl (.inr (HRA.out.lt k hk).1))).setCell (.inl (.inl rfl)) _
              · show VIE _ _ _ _ _ (valsL V ((pre ++ [(⟨x, hx⟩ : { x : Nat // x < 3 * T.length })]).map (·.1))) _
                rw [HNX.out]
                refine ⟨⟨A5, c5, ?_, ?_⟩, HB05.out.far (by show w.heap.size ≠ w.heap.size + 1; omega) _, HBW5.out.setCell (p := ⟨w.heap.size + 1, 0, none⟩) (by show w.heap.size ≤ w.heap.size + 1; omega) _, ?_⟩
                · rw [List.length_append]
                  simpa using HB5.out.set_ 0 (.slice A5 (pr.length + 1) c5)
                · rw [List.length_append, List.flatMap_append]
                  refine own_same (v := .slice A5 (pr.length + 1) c5) (by simpa using HO5.out) fun k hk => ?_
                  obtain ⟨ds, hd⟩ := own_blk HO5.out hk
                  exact Below.heap_setCell _ _ _ _ (hd.ne_ HB5.out (by decide))
                · rw [World.size_setCell]
                  exact Nat.le_trans HSA.out HG5.out.size
          exact TillEach.nil
        exact TillEach.nil
    exact AllReadyH.nil
  case done =>
    rintro D ys W hD hys hVI hK
    rw [hys] at hVI
    obtain ⟨A', c', h1, h2⟩ := hVI.at_
    have c0 := h1.cell 0
    simp at c0
    gi_wp2
    refine ⟨by simp, .inl ⟨_, _, rfl, run_takeDeferred hK, ?_⟩⟩
    exact ⟨_, results_tmp rfl _ _ _, A', c', rfl, own_mono (ownsRow_putObj h2 _ hK rfl) (by omega), hVI.b.grown (grownBy_putObj' _ _ _) hVI.b.size (fun k e => by cases e; omega)⟩
  case stop =>
    rintro D c pre W _ _ h _
    exact h.elim
end Go.Proofs.YtbdicndkkenbgaaGreat
