/- (*gypsum/field.Field[int]).Values, walked. No condition but sizes. -/
import Derived.Test.YtdpgbccgngdapaaFldNI
import Derived.Test.YtdpgbccgngdapaaTillIn
import Derived.Test.YtdpgbccgngdapaaDegW
namespace Go.Proofs.Ytdpgbccgngdapaa
open Go.RowKit Go.Shelf

set_option linter.unusedSimpArgs false
set_option linter.unusedVariables false
attribute [local go_sem] Oper.semAt_some
def IdxPI (x : Int) (M : List Int) (w : World) (e : Ending) (w' : World) : Prop := (∃ i : Int, e = .returned (.int .i64 i) ∧ decide (0 ≤ i) = decide (x ∈ M)) ∧ w' = w
theorem take_memI {M : List Int} {k : Nat} {y x : Int} (hy : M[k]? = some y) (h : x ∉ M.take k) (hne : y ≠ x) : x ∉ M.take (k + 1) := by
  have hk := (List.getElem?_eq_some_iff.1 hy).1
  rw [List.take_succ_eq_append_getElem hk, (List.getElem?_eq_some_iff.1 hy).2, List.mem_append]
  rintro (h' | h')
  · exact h h'
  · exact hne (List.mem_singleton.1 h').symm
theorem flat1 {α β : Type} (f : α → β) : ∀ M : List α, M.flatMap (fun x => [f x]) = M.map f
  | [] => rfl
  | x :: M => by rw [List.flatMap_cons, List.map_cons, flat1 f M]; rfl
theorem readCI {w : World} {B n : Nat} {A : Option Addr} {M : List Int} {k : Nat} {y : Int} (h : Reads w B 1 A n (M.flatMap cellsI)) (hy : M[k]? = some y) : ∃ ad, A = some ad ∧ w.cell? (ad.add k) = some (.int .i64 y) := by
  have hx : (M.flatMap cellsI)[k]? = some (.int .i64 y) := by
    rw [show M.flatMap cellsI = M.map (fun x => Value.int .i64 x) from flat1 _ _]
    rw [List.getElem?_map, hy]; rfl
  have hk := (List.getElem?_eq_some_iff.1 hx).1
  obtain ⟨ad, u, e, _, hu, hc⟩ := h.at_ (show k < n by have := h.1; omega)
  rw [hx] at hu
  injection hu with hu
  exact ⟨ad, e, by rw [hu]; exact hc⟩
attribute [local irreducible] Blk LRow World.alloc World.setCell World.cell? World.frozen? MapV
set_option maxHeartbeats 4000000 in
theorem indexI_any (A : Option Addr) (c : Nat) (M : List Int) (x : Int) (w : World) (hn : M.length ≤ 1000000) (hr : Reads w w.heap.size 1 A M.length (M.flatMap cellsI)) :
    Calls Try.prog 59 #[.slice A M.length c, (.int .i64 (x))] w (IdxPI x M w) := by
  have HR := Lib.hid hr
  clear hr
  go_enter Try.func59, Try.ntmps59
  go_wp2_with fail
  go_loopw [8] (fun kv wr => ∃ k : Nat, k ≤ M.length ∧ kv = .int .i64 (k : Int) ∧ Hid (x ∉ M.take k) ∧ wr = w) (fun kv _ => M.length - (intOf kv).toNat)
  case atStart => exact ⟨0, by omega, rfl, Lib.hid (by simp), rfl⟩
  case round =>
    obtain ⟨k, hk, rfl, HX, hwr⟩ := hrel
    rw [hwr]
    clear hwr
    by_cases hlt : k < M.length
    · have hki : (k : Int) < (M.length : Int) := by omega
      obtain ⟨y, hy⟩ : ∃ y, M[k]? = some y := ⟨_, List.getElem?_eq_getElem hlt⟩
      obtain ⟨ad, rfl, hq⟩ := readCI HR.out hy
      have HY := Lib.hid hy
      clear hy
      by_cases hyx : y = x
      · subst hyx
        have hbt : (y == y) = true := by simp
        go_wp2_with fail
        go_ret
        have hm : y ∈ M := List.mem_of_getElem? HY.out
        exact ⟨⟨k, rfl, by simp [hm]⟩, rfl⟩
      · have hbf : (x == y) = false := by rw [beq_eq_false_iff_ne]; exact fun e => hyx e.symm
        go_wp2_with fail
        exact ⟨⟨k + 1, by omega, by go_num, Lib.hid (take_memI HY.out HX.out hyx), by first | rfl | trivial⟩, by simp [intOf]; omega⟩
    · obtain rfl : k = M.length := by omega
      have hki : ¬ (M.length : Int) < (M.length : Int) := by omega
      have hx := HX.out
      rw [List.take_length] at hx
      go_wp2_with fail
      go_ret
      exact ⟨⟨-1, rfl, by simp [hx]⟩, rfl⟩
set_option maxHeartbeats 2000000 in
theorem containsI_any (A : Option Addr) (c : Nat) (M : List Int) (x : Int) (w : World) (hn : M.length ≤ 1000000) (hr : Reads w w.heap.size 1 A M.length (M.flatMap cellsI)) :
    Calls Try.prog 45 #[.slice A M.length c, (.int .i64 (x))] w (IsPost w (.bool (decide (x ∈ M)))) := by
  have HI := Lib.hid (indexI_any A c M x w hn hr)
  clear hr
  unfold IdxPI at HI
  generalize decide (x ∈ M) = b at *
  go_enter Try.func45, Try.ntmps45
  go_wp2_with fail
  refine HI.out.mono ?_
  rintro e w1 ⟨⟨i, rfl, hi⟩, hw1⟩
  replace hw1 := hw1.symm
  subst hw1
  rcases Int.lt_or_le i 0 with h | h
  · obtain rfl : false = b := by rw [← hi, decide_eq_false (by omega)]
    have h' : ¬ 0 ≤ i := by omega
    clear hi
    go_wp2_with fail
    go_ret
    first | exact ⟨rfl, rfl⟩ | exact ⟨by simp [h], rfl⟩
  · obtain rfl : true = b := by rw [← hi, decide_eq_true h]
    clear hi
    go_wp2_with fail
    go_ret
    first | exact ⟨rfl, rfl⟩ | exact ⟨by simp [h], rfl⟩
theorem own_kept {B : Nat} {X Y : World} {row : Option Nat} {base : Nat} {e : TypeId} {size n : Nat} {v : Value} {xs : List Value} (h : X.ownsRow base e size v n xs) (hg : X.grownBy Y row) (hr : ∀ r, row = some r → B ≤ r ∧ ∃ o : Obj, X.heap[r]? = some o ∧ o.isCells = false) : Y.ownsRow base e size v n xs :=
  own_same h fun k hk => hg.block k (h.lt k hk).2 fun e => by
    obtain ⟨_, o, ho, hc⟩ := hr k e.symm
    obtain ⟨cs, hb⟩ := own_blk h hk
    unfold Blk at hb
    rw [hb] at ho
    cases ho
    cases hc
theorem blk_kept {B : Nat} {X Y : World} {row : Option Nat} {g : Nat} {t : TypeId} {cs : Array Value} (h : Blk X g t cs) (hg : X.grownBy Y row) (hr : ∀ r, row = some r → B ≤ r ∧ ∃ o : Obj, X.heap[r]? = some o ∧ o.isCells = false) : Blk Y g t cs :=
  h.grown hg fun e => by
    obtain ⟨_, o, ho, hc⟩ := hr g e.symm
    unfold Blk at h
    rw [h] at ho
    cases ho
    cases hc
theorem keeps_own {w w' : World} {B : Nat} {e : TypeId} {size n : Nat} {v : Value} {xs : List Value} (h : w.ownsRow B e size v n xs) (hg : w.grownBy w' v.ownBlock) : KeepsOthers w w' :=
  KeepsOthers.of_grownBy hg fun j o hj ho => by
    obtain ⟨cs, hb⟩ := own_blk h hj
    unfold Blk at hb
    rw [hb] at ho
    cases ho
    rfl
/-- What the loop keeps. -/
structure VII (w : World) (B4 b0 b1 gf : Nat) (M : List Int) (W : World) : Prop where
  at_ : ∃ (A' : Option Addr) (c' : Nat), Blk W b1 25 #[.slice A' M.length c'] ∧ W.ownsRow B4 3 1 (.slice A' M.length c') M.length (M.flatMap cellsI)
  f : Blk W b0 43 #[.pointer (some ⟨gf, 0, none⟩)]
  b : Below w.heap.size w W
  z : B4 ≤ W.heap.size
theorem vi_ownI (w : World) (B4 b0 b1 gf : Nat) (hB : w.heap.size ≤ B4) {β : Type} (f : β → List Int) : OwnFrom B4 (fun (pre : β) W => VII w B4 b0 b1 gf (f pre) W) := fun pre X Y row h hg hr => by
  obtain ⟨A', c', h1, h2⟩ := h.at_
  exact ⟨⟨A', c', blk_kept h1 hg hr, own_kept h2 hg hr⟩, blk_kept h.f hg hr, h.b.grown hg h.b.size fun k e => by have := (hr k e).1; omega, Nat.le_trans h.z hg.size⟩
def ValPI (M : List Int) (w : World) (e : Ending) (w' : World) : Prop := ∃ (A : Option Addr) (c : Nat), e = .returned (.slice A M.length c) ∧ w'.ownsRow w.heap.size 3 1 (.slice A M.length c) M.length (M.flatMap cellsI) ∧ Below w.heap.size w w'
theorem flat_atI (V : Nat → Int) {n k : Nat} (hk : k < n) : ((List.range n).flatMap fun i => cellsI (V i)) = ((List.range n).map V).flatMap cellsI ∧ ((List.range n).map V)[k]? = some (V k) :=
  ⟨by rw [List.flatMap_map], by simp [hk]⟩
set_option maxRecDepth 100000 in
set_option maxHeartbeats 8000000 in
theorem valuesI_any (gf g m B : Nat) (T : List Tri) (A : Option Addr) (c : Nat) (V : Nat → Int) (v : Int) (L : List Nat) (w : World) (hT : T.length ≤ 1000) (hF : FAt w 70 3 1 B gf g A c (3 * T.length) ((List.range (3 * T.length)).flatMap fun i => cellsI (V i))) (h : TabN w g m T) (hr : RingL m T v L) :
    Calls Try.prog 32 #[.pointer (some ⟨gf, 0, none⟩), .int .i64 v] w (ValPI (valsL V L) w) := by
  have HT := Lib.hid h
  have HR := Lib.hid hr
  have HF := Lib.hid hF
  clear h hr hF
  obtain ⟨i0, hi0, hz0, hz1, hz2⟩ := info_parts int_infoC
  have f0 := ((HF.out.alloc (.cells #[.pointer (some ⟨gf, 0, none⟩)] 43)).alloc (.cells #[.slice none 0 0] 25)).f0
  refine (callsIn_wide (n := 6)).1 ?_
  refine callsIn_of_wp_marks Try.func32 rfl trivial ?_ rfl
  simp only [Try.ntmps32, List.size_toArray, List.length_cons, List.length_nil, Nat.reduceAdd, Nat.reduceSub, Array.replicate_succ, Array.replicate_zero, List.push_toArray, List.append_toArray, List.nil_append, List.cons_append]
  gi_wp2_with (refine ⟨trivial, ?_⟩; gi_at_call 8; refine (callsIn_wide.2 (around_fn _ _ _)).mono ?_; rintro e w' ⟨rfl, hw⟩; replace hw := hw.symm; subst hw)
  clear f0
  obtain ⟨W4, hW4⟩ : ∃ X, X = (((w.alloc (.cells #[.pointer (some ⟨gf, 0, none⟩)] 43)).alloc (.cells #[.slice none 0 0] 25)).alloc (.cells #[.pointer (some ⟨g, 0, none⟩)] 27)).alloc (.cells #[.int .i64 v] 3) := ⟨_, rfl⟩
  rw [← hW4]
  have HA : Hid (ArAt W4 w.heap.size (w.heap.size + 1 + 1) (w.heap.size + 1 + 1 + 1) g m T v) := by
    have := arAt_new (v := v) (p := .int .i64 0) (t1 := 27) (t2 := 3) HT.out (bw_alloc (bw_alloc (Below.refl _ _) (.cells #[.pointer (some ⟨gf, 0, none⟩)] 43)) (.cells #[.slice none 0 0] 25))
    rw [World.size_alloc, World.size_alloc] at this
    subst hW4
    exact Lib.hid this
  have HX0 : Blk W4 w.heap.size 43 #[.pointer (some ⟨gf, 0, none⟩)] := by subst hW4; exact (((Blk.new _ _ _).alloc _).alloc _).alloc _
  have HX1 : Blk W4 (w.heap.size + 1) 25 #[.slice none 0 0] := by subst hW4; exact ((Blk.new_ (by rw [World.size_alloc]) _ _).alloc _).alloc _
  have HW : Below w.heap.size w W4 := by subst hW4; exact bw_alloc (bw_alloc (bw_alloc (bw_alloc (Below.refl _ _) _) _) _) _
  have hs4 : W4.heap.size = w.heap.size + 4 := by subst hW4; simp
  clear hW4
  refine wpIn_rangeFunc_ownF rfl (by omega) (gf := 26) (lb := #[.pointer (some ⟨w.heap.size + 1 + 1, 0, none⟩), .pointer (some ⟨w.heap.size + 1 + 1 + 1, 0, none⟩)]) rfl trivial (enters_of Try.func26 (by kernel_rfl) rfl)
    (around_stops (6 - 1) (by omega) w.heap.size (w.heap.size + 1 + 1) (w.heap.size + 1 + 1 + 1) g m T v L (fun k => k = w.heap.size + 1 ∨ W4.heap.size ≤ k) W4 (fun k hk => by omega) (by omega) (by omega) HR.out HA.out) onlyK_t (onlyK_b (fun k hk => .inr hk)) (Below.refl _ _) (fun _ => rfl)
    (fun (pre : List { x : Nat // x < 3 * T.length }) W => VII w W4.heap.size w.heap.size (w.heap.size + 1) gf (valsL V (pre.map (·.1))) W)
    (fun _ _ _ => False)
    (vi_ownI w W4.heap.size w.heap.size (w.heap.size + 1) gf (by omega) fun (pre : List { x : Nat // x < 3 * T.length }) => valsL V (pre.map (·.1)))
    (fun _ _ _ _ _ hs _ _ => hs)
    ⟨⟨none, 0, HX1, World.ownsRow_nil _ _ _ _⟩, HX0, HW, Nat.le_refl _⟩
    (fun x => { tmps := #[.pointer (some ⟨gf, 0, none⟩), .int .i64 v, .pointer (some ⟨w.heap.size, 0, none⟩), undef, .slice none 0 0, .pointer (some ⟨w.heap.size + 1, 0, none⟩), .int .i64 (x.1 : Int), .pointer (some ⟨gf, 0, none⟩), .bool false, .pointer (some ⟨gf, 0, none⟩), .pointer (some ⟨gf, 0, none⟩), .pointer (some ⟨gf, 0, none⟩), .pointer (some ⟨g, 0, none⟩), .int .i64 v, .func (.func 26) #[] #[.pointer (some ⟨w.heap.size + 1 + 1, 0, none⟩), .pointer (some ⟨w.heap.size + 1 + 1 + 1, 0, none⟩)], .int .i64 (x.1 : Int), undef, undef, undef, undef, undef, undef, undef, undef, undef, undef, undef, undef, undef, undef, undef, undef, undef, undef, undef, undef, undef], defers := [] }) ?assign ?body ?done ?stop
  case assign =>
    intro l x W K hK
    gi_wp2
    simpa using hK
  case body =>
    rintro l pre ⟨x, hx⟩ W hVI hlt
    obtain ⟨pr, hpr⟩ : ∃ pr, pr = valsL V (pre.map (·.1)) := ⟨_, rfl⟩
    have hpl : pr.length ≤ 100000 := by
      have h1 := valsL_len (l := V) (pre.map (·.1))
      have h2 := HR.out.len
      rw [List.length_map] at h1
      rw [hpr]
      omega
    have hnx : valsL V ((pre ++ [(⟨x, hx⟩ : { x : Nat // x < 3 * T.length })]).map (·.1)) = if V x ∈ pr then pr else pr ++ [V x] := by
      rw [List.map_append, hpr]
      exact valsL_snoc _ _
    have HNX := Lib.hid hnx
    rw [← hpr] at hVI
    clear hnx hpr hlt
    obtain ⟨A', c', h1, h2⟩ := hVI.at_
    have HFW := Lib.hid (HF.out.below hVI.b)
    obtain ⟨ad, hA, hc⟩ := readCI ((flat_atI V hx).1 ▸ HFW.out.reads) (flat_atI V hx).2
    subst hA
    have HB1 := Lib.hid h1
    have HRW := Lib.hid h2
    have HB0 := Lib.hid hVI.f
    have HBW := Lib.hid hVI.b
    have HC := Lib.hid hc
    have HCW : Hid (CellQ w (ad.add x) (.int .i64 (V x))) := by
      obtain ⟨ad', e, h3⟩ := readCI ((flat_atI V hx).1 ▸ HF.out.reads) (flat_atI V hx).2
      injection e with e
      subst e
      exact Lib.hid ⟨h3, World.block_lt_of_cell? _ _ h3⟩
    have HSW := Lib.hid hVI.z
    clear h1 h2 hVI hc
    gi_wp2
    have hxi : (x : Int) < 3 * (T.length : Int) := by omega
    refine wpIn_region_held (S := fun w' => w'.cell? ⟨w.heap.size + 1, 0, none⟩ = some (.slice A' pr.length c') ∧ w'.cell? ⟨w.heap.size, 0, none⟩ = some (.pointer (some ⟨gf, 0, none⟩)) ∧ w'.cell? ⟨gf, 1, none⟩ = some (.slice (some ad) (3 * T.length) c) ∧ w'.cell? (ad.add x) = some (.int .i64 (V x))) (by kernel_rfl) (by kernel_rfl) (by rintro ⟨a, w, h⟩; exact h) ⟨HB1.out.drew.cell 0, HB0.out.drew.cell 0, HFW.out.drew.f1, (cell_drew_own _ _).trans HC.out⟩ (fun hHeld => ?_)
    refine held_take (i := 0) (v := ?v1) rfl (by kernel_rfl) (by kernel_rfl) (by kernel_rfl) (fun _ _ _ h => h) (Or.inl ⟨by rfl, ?hy1⟩) (by assumption) ?rest1
    case hy1 => (intro w hSw; (try dsimp only at hSw); go_simp; try with_reducible rfl)
    (try simp only [Act.put, List.setIfInBounds_toArray, List.set_cons_zero, List.set_cons_succ])
    refine held_take (i := 1) (v := ?v2) rfl (by kernel_rfl) (by kernel_rfl) (by kernel_rfl) (fun _ _ _ h => h) (Or.inl ⟨by rfl, ?hy2⟩) (by assumption) ?rest2
    case hy2 => (intro w hSw; (try dsimp only at hSw); go_simp; try with_reducible rfl)
    (try simp only [Act.put, List.setIfInBounds_toArray, List.set_cons_zero, List.set_cons_succ])
    refine held_take (i := 2) (v := ?v3) rfl (by kernel_rfl) (by kernel_rfl) (by kernel_rfl) (fun _ _ _ h => h) (Or.inl ⟨by rfl, ?hy3⟩) (by assumption) ?rest3
    case hy3 => (intro w hSw; (try dsimp only at hSw); go_simp; try with_reducible rfl)
    (try simp only [Act.put, List.setIfInBounds_toArray, List.set_cons_zero, List.set_cons_succ])
    refine held_take (i := 3) (v := ?v4) rfl (by kernel_rfl) (by kernel_rfl) (by kernel_rfl) (fun _ _ _ h => h) (Or.inl ⟨by rfl, ?hy4⟩) (by assumption) ?rest4
    case hy4 => (intro w hSw; (try dsimp only at hSw); go_simp; try with_reducible rfl)
    (try simp only [Act.put, List.setIfInBounds_toArray, List.set_cons_zero, List.set_cons_succ])
    refine held_take (i := 4) (v := ?v5) rfl (by kernel_rfl) (by kernel_rfl) (by kernel_rfl) (fun _ _ _ h => h) (Or.inl ⟨by rfl, ?hy5⟩) (by assumption) ?rest5
    case hy5 => (intro w hSw; (try dsimp only at hSw); go_simp; try with_reducible rfl)
    (try simp only [Act.put, List.setIfInBounds_toArray, List.set_cons_zero, List.set_cons_succ])
    refine held_take (i := 5) (v := ?v6) rfl (by kernel_rfl) (by kernel_rfl) (by kernel_rfl) (fun _ _ _ h => h) (Or.inl ⟨by rfl, ?hy6⟩) (by assumption) ?rest6
    case hy6 => (intro w hSw; (try dsimp only at hSw); go_simp; try with_reducible rfl)
    (try simp only [Act.put, List.setIfInBounds_toArray, List.set_cons_zero, List.set_cons_succ])
    refine held_take (i := 6) (v := ?v7) rfl (by kernel_rfl) (by kernel_rfl) (by kernel_rfl) (fun _ _ _ h => h) (Or.inl ⟨by rfl, ?hy7⟩) (by assumption) ?rest7
    case hy7 => (intro w hSw; (try dsimp only at hSw); go_simp; try with_reducible rfl)
    (try simp only [Act.put, List.setIfInBounds_toArray, List.set_cons_zero, List.set_cons_succ])
    refine held_take (i := 7) (v := ?v8) rfl (by kernel_rfl) (by kernel_rfl) (by kernel_rfl) (fun _ _ _ h => h) (Or.inl ⟨by rfl, ?hy8⟩) (by assumption) ?rest8
    case hy8 => (intro w hSw; (try dsimp only at hSw); go_simp; try with_reducible rfl)
    (try simp only [Act.put, List.setIfInBounds_toArray, List.set_cons_zero, List.set_cons_succ])
    refine wpAnyH_ready (rs := [8]) (by kernel_rfl) (by simp) ?_
    refine held_cons rfl (fun K hK => ?_) ?_
    · go_simp
      go_wp2_with (go_at_call 45; refine (containsI_any A' c' pr (V x) _ (by omega) (Reads.of_own HRW.out.drew)).mono ?_; rintro e w' ⟨rfl, hw⟩; replace hw := hw.symm; subst hw)
      refine hK.out _ _ ?_ (fun hHeld => ?_)
      · exact ⟨HB1.out.drew.cell 0, HB0.out.drew.cell 0, HFW.out.drew.f1, (cell_drew_own _ _).trans HC.out⟩
      clear hK K
      (try simp only [Act.put, List.setIfInBounds_toArray, List.set_cons_zero, List.set_cons_succ])
      refine held_take (i := 9) (v := ?v9) rfl (by kernel_rfl) (by kernel_rfl) (by kernel_rfl) (fun _ _ _ h => h) (Or.inl ⟨by rfl, ?hy9⟩) (by assumption) ?rest9
      case hy9 => (intro w hSw; (try dsimp only at hSw); go_simp; try with_reducible rfl)
      (try simp only [Act.put, List.setIfInBounds_toArray, List.set_cons_zero, List.set_cons_succ])
      refine wpAnyH_done (by kernel_rfl) ?_ _
      by_cases hm : V x ∈ pr
      · rw [decide_eq_true hm]
        rw [if_pos hm] at HNX
        clear hm
        gi_wp2
        exact ⟨KeepsOthers.drew _, (Only.refl _ _).drew, by show VII _ _ _ _ _ (valsL V ((pre ++ [(⟨x, hx⟩ : { x : Nat // x < 3 * T.length })]).map (·.1))) _; rw [HNX.out]; exact ⟨⟨A', c', HB1.out.drew, HRW.out.drew⟩, HB0.out.drew, HBW.out.drew, HSW.out⟩⟩
      · rw [decide_eq_false hm]
        rw [if_neg hm] at HNX
        clear hm
        gi_wp2
        refine wpIn_region_till (S := fun w' => w'.cell? ⟨w.heap.size + 1, 0, none⟩ = some (.slice A' pr.length c') ∧ w'.cell? ⟨w.heap.size, 0, none⟩ = some (.pointer (some ⟨gf, 0, none⟩)) ∧ w'.cell? ⟨gf, 1, none⟩ = some (.slice (some ad) (3 * T.length) c) ∧ w'.cell? (ad.add x) = some (.int .i64 (V x))) 10 (by kernel_rfl) (by kernel_rfl) (by rintro ⟨a, w, h⟩; exact h) ⟨HB1.out.drew.drew.cell 0, HB0.out.drew.drew.cell 0, (HF.out.below HBW.out.drew.drew).f1, (HCW.out.below HBW.out.drew.drew).c⟩ (fun hHeld => ?_)
        refine Till.take (i := 0) (v := ?vt9) rfl (by kernel_rfl) (by kernel_rfl) (by kernel_rfl) (by kernel_rfl) (fun _ _ _ h => h) (Or.inl ⟨by rfl, ?ht9⟩) (by assumption) ?restt9
        case ht9 => (intro w hSw; (try dsimp only at hSw); go_simp; try with_reducible rfl)
        (try simp only [Act.put, List.setIfInBounds_toArray, List.set_cons_zero, List.set_cons_succ])
        refine Till.take (i := 1) (v := ?vt10) rfl (by kernel_rfl) (by kernel_rfl) (by kernel_rfl) (by kernel_rfl) (fun _ _ _ h => h) (Or.inl ⟨by rfl, ?ht10⟩) (by assumption) ?restt10
        case ht10 => (intro w hSw; (try dsimp only at hSw); go_simp; try with_reducible rfl)
        (try simp only [Act.put, List.setIfInBounds_toArray, List.set_cons_zero, List.set_cons_succ])
        refine Till.take (i := 2) (v := ?vt11) rfl (by kernel_rfl) (by kernel_rfl) (by kernel_rfl) (by kernel_rfl) (fun _ _ _ h => h) (Or.inl ⟨by rfl, ?ht11⟩) (by assumption) ?restt11
        case ht11 => (intro w hSw; (try dsimp only at hSw); go_simp; try with_reducible rfl)
        (try simp only [Act.put, List.setIfInBounds_toArray, List.set_cons_zero, List.set_cons_succ])
        refine Till.take (i := 3) (v := ?vt12) rfl (by kernel_rfl) (by kernel_rfl) (by kernel_rfl) (by kernel_rfl) (fun _ _ _ h => h) (Or.inl ⟨by rfl, ?ht12⟩) (by assumption) ?restt12
        case ht12 => (intro w hSw; (try dsimp only at hSw); go_simp; try with_reducible rfl)
        (try simp only [Act.put, List.setIfInBounds_toArray, List.set_cons_zero, List.set_cons_succ])
        refine Till.take (i := 4) (v := ?vt13) rfl (by kernel_rfl) (by kernel_rfl) (by kernel_rfl) (by kernel_rfl) (fun _ _ _ h => h) (Or.inl ⟨by rfl, ?ht13⟩) (by assumption) ?restt13
        case ht13 => (intro w hSw; (try dsimp only at hSw); go_simp; try with_reducible rfl)
        (try simp only [Act.put, List.setIfInBounds_toArray, List.set_cons_zero, List.set_cons_succ])
        refine Till.take (i := 5) (v := ?vt14) rfl (by kernel_rfl) (by kernel_rfl) (by kernel_rfl) (by kernel_rfl) (fun _ _ _ h => h) (Or.inl ⟨by rfl, ?ht14⟩) (by assumption) ?restt14
        case ht14 => (intro w hSw; (try dsimp only at hSw); go_simp; try with_reducible rfl)
        (try simp only [Act.put, List.setIfInBounds_toArray, List.set_cons_zero, List.set_cons_succ])
        refine Till.take (i := 6) (v := ?vt15) rfl (by kernel_rfl) (by kernel_rfl) (by kernel_rfl) (by kernel_rfl) (fun _ _ _ h => h) (Or.inl ⟨by rfl, ?ht15⟩) (by assumption) ?restt15
        case ht15 => (intro w hSw; (try dsimp only at hSw); go_simp; try with_reducible rfl)
        (try simp only [Act.put, List.setIfInBounds_toArray, List.set_cons_zero, List.set_cons_succ])
        refine Till.take (i := 7) (v := ?vt16) rfl (by kernel_rfl) (by kernel_rfl) (by kernel_rfl) (by kernel_rfl) (fun _ _ _ h => h) (Or.inl ⟨by rfl, ?ht16⟩) (by assumption) ?restt16
        case ht16 => (intro w hSw; (try dsimp only at hSw); go_simp; try with_reducible rfl)
        (try simp only [Act.put, List.setIfInBounds_toArray, List.set_cons_zero, List.set_cons_succ])
        refine Till.ready (rs := [8]) (by kernel_rfl) (by simp) ?_
        refine TillEach.cons rfl (fun K hK => ?_) ?_
        · go_simp
          obtain ⟨WA, hWA⟩ : ∃ X, X = (W.alloc (.cells #[.int .i64 (V x)] 3)).drew.drew := ⟨_, rfl⟩
          rw [← hWA]
          have HBA1 : Hid (Blk WA (w.heap.size + 1) 25 #[.slice A' pr.length c']) := by subst hWA; exact Lib.hid ((HB1.out.alloc _).drew.drew)
          have HBA0 : Hid (Blk WA w.heap.size 43 #[.pointer (some ⟨gf, 0, none⟩)]) := by subst hWA; exact Lib.hid ((HB0.out.alloc _).drew.drew)
          have HBWA : Hid (Below w.heap.size w WA) := by subst hWA; exact Lib.hid ((bw_alloc HBW.out _).drew.drew)
          have HRA : Hid (WA.ownsRow W4.heap.size 3 1 (.slice A' pr.length c') pr.length (pr.flatMap cellsI)) := by subst hWA; exact Lib.hid ((own_same HRW.out fun k hk => Below.heap_alloc _ _ k (HRW.out.lt k hk).2).drew.drew)
          have HRD : Hid (Reads WA (W.heap.size + 1) 1 (some ⟨W.heap.size, 0, none⟩) 1 (cellsI (V x))) := by subst hWA; exact Lib.hid ((reads_newN W #[.int .i64 (V x)] 3 1 1 rfl rfl).drew.drew)
          have HSA : Hid (W4.heap.size ≤ WA.heap.size) := by subst hWA; refine Lib.hid (Nat.le_trans HSW.out ?_); exact (bw_alloc (Below.refl _ _) _).drew.drew.size
          have HKA : Hid (KeepsOthers W WA) := by subst hWA; exact Lib.hid (((KeepsOthers.alloc _ _).trans (KeepsOthers.drew _)).trans (KeepsOthers.drew _))
          have HOA : Hid (Only (fun k => k = w.heap.size + 1 ∨ W4.heap.size ≤ k) W WA) := by subst hWA; exact Lib.hid (((Only.refl _ _).alloc _).drew.drew)
          clear hWA
          refine hK.out _ _ ?_ (fun hHeld => ?_)
          · exact ⟨HBA1.out.cell 0, HBA0.out.cell 0, (HF.out.below HBWA.out).f1, (HCW.out.below HBWA.out).c⟩
          clear hK K
          (try simp only [Act.put, List.setIfInBounds_toArray, List.set_cons_zero, List.set_cons_succ])
          refine Till.ready (rs := [9]) (by kernel_rfl) (by simp) ?_
          refine TillEach.cons rfl (fun K hK => ?_) ?_
          · refine step_append_sl _ (by rfl) (.tmp 26) (.tmp 34) _ (by rfl) W4.heap.size 3 i0 _ 1 8 Try.underlying25 hi0 hz0 hz1 hz2 rfl (by omega) (.slice A' pr.length c') pr.length (pr.flatMap cellsI) (by rfl) HRA.out (W.heap.size + 1) (some ⟨W.heap.size, 0, none⟩) 1 1 (cellsI (V x)) (by rfl) HRD.out (by simp [cellsI, Value.oneCell']) (by simp only [maxLen]; omega) (by omega) HSA.out ?_
            intro A5 c5 w5 hown5 hg5 hat5
            have hrow : ∀ k, (Value.slice A' pr.length c').ownBlock = some k → W4.heap.size ≤ k := fun k hk => (HRA.out.lt k hk).1
            have B1 := HBA1.out.grown hg5 (fun e => own_blk_ne HRA.out HBA1.out (by decide) e.symm)
            have B0 := HBA0.out.grown hg5 (fun e => own_blk_ne HRA.out HBA0.out (by decide) e.symm)
            have BW := HBWA.out.grown hg5 (by have := HSA.out; omega) (fun k hk => by have := hrow k hk; omega)
            have z0 := B1.cell 0
            have z1 := B1.frozen 0
            simp at z0
            have HB5 := Lib.hid B1
            have HB05 := Lib.hid B0
            have HBW5 := Lib.hid BW
            have HO5 := Lib.hid hown5
            have HG5 := Lib.hid hg5
            clear B1 B0 BW hown5 hg5 hat5 hrow
            refine hK.out _ _ ?_ (fun hHeld => ?_)
            · exact ⟨z0, HB05.out.cell 0, (HF.out.below HBW5.out).f1, (HCW.out.below HBW5.out).c⟩
            clear hK K
            (try simp only [Act.put, List.setIfInBounds_toArray, List.set_cons_zero, List.set_cons_succ])
            refine Till.ready (rs := [10]) (by kernel_rfl) (by simp) ?_
            refine TillEach.last rfl (fun K hK => ?_)
            · go_simp
              refine hK.out _ _ ?_
              clear hK K
              (try simp only [Act.put, List.setIfInBounds_toArray, List.set_cons_zero, List.set_cons_succ])
              refine Till.done (by kernel_rfl) ?_ _
              gi_wp2
              refine ⟨?_, ?_, ?_⟩
              · exact (HKA.out.trans (keeps_own HRA.out HG5.out)).trans (KeepsOthers.setCell _ _ _)
              · exact (HOA.out.grown HG5.out (fun k hk => .inl (.inr (HRA.out.lt k hk).1))).setCell (.inl (.inl rfl)) _
              · show VII _ _ _ _ _ (valsL V ((pre ++ [(⟨x, hx⟩ : { x : Nat // x < 3 * T.length })]).map (·.1))) _
                rw [HNX.out]
                refine ⟨⟨A5, c5, ?_, ?_⟩, HB05.out.far (by show w.heap.size ≠ w.heap.size + 1; omega) _, HBW5.out.setCell (p := ⟨w.heap.size + 1, 0, none⟩) (by show w.heap.size ≤ w.heap.size + 1; omega) _, ?_⟩
                · rw [List.length_append]
                  simpa using HB5.out.set_ 0 (.slice A5 (pr.length + 1) c5)
                · rw [List.length_append, List.flatMap_append]
                  refine own_same (v := .slice A5 (pr.length + 1) c5) (by simpa using HO5.out) fun k hk => ?_
                  obtain ⟨ds, hd⟩ := own_blk HO5.out hk
                  exact Below.heap_setCell _ _ _ _ (hd.ne_ HB5.out (by decide))
                · rw [World.size_setCell]
                  exact Nat.le_trans HSA.out HG5.out.size
          exact TillEach.nil
        exact TillEach.nil
    exact AllReadyH.nil
  case done =>
    rintro D ys W hD hys hVI hK
    rw [hys] at hVI
    obtain ⟨A', c', h1, h2⟩ := hVI.at_
    have c0 := h1.cell 0
    simp at c0
    gi_wp2
    refine ⟨by simp, .inl ⟨_, _, rfl, run_takeDeferred hK, ?_⟩⟩
    exact ⟨_, results_tmp rfl _ _ _, A', c', rfl, own_mono (ownsRow_putObj h2 _ hK rfl) (by omega), hVI.b.grown (grownBy_putObj' _ _ _) hVI.b.size (fun k e => by cases e; omega)⟩
  case stop =>
    rintro D c pre W _ _ h _
    exact h.elim
end Go.Proofs.Ytdpgbccgngdapaa
