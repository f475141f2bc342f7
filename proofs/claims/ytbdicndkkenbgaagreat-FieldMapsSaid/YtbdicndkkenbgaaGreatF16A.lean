/- What the laws of chapter 16 have in common, walked: surface, table, value. No condition but sizes. -/
import Derived.Test.YtbdicndkkenbgaaGreatFldSI
import Derived.Test.YtbdicndkkenbgaaGreatRef9e
namespace Go.Proofs.YtbdicndkkenbgaaGreat
open Go.RowKit

set_option linter.unusedSimpArgs false
set_option linter.unusedVariables false
theorem surf_chk16 {m : Nat} {T : List Tri} (h : checkR (m : Int) T = (0, 0, 0)) : SurfE m T := by
  obtain ⟨k, hk⟩ := surf_of (checkR_zero (by rw [h])).1
  obtain ⟨h1, h2⟩ := surf_e.1 hk
  obtain rfl : m = k := by omega
  exact h2
attribute [local irreducible] Blk LRow World.alloc World.setCell World.cell? World.frozen? MapV
set_option maxHeartbeats 4000000 in
theorem surface_any (N : Int) (A : Option Addr) (c : Nat) (T : List Tri) (w : World) (hT : T.length ≤ 1000) (ht : TrisAt w w.heap.size A T.length T) :
    Calls Tryz.prog 43 #[.agg #[.int .i64 N, .slice A T.length c]] w (BoolPost w (decide (checkR N T = (0, 0, 0)))) := by
  have HT := Lib.hid ht
  clear ht
  obtain ⟨V, hV⟩ : ∃ V, V = w.alloc (.cells #[.int .i64 N, .slice A T.length c] 24) := ⟨_, rfl⟩
  have GA0 : Hid (Blk V w.heap.size 24 #[.int .i64 N, .slice A T.length c]) := by subst hV; exact Lib.hid (Blk.new _ _ _)
  have HB0 : Hid (Below w.heap.size w V) := by subst hV; exact Lib.hid (bw_alloc (Below.refl _ _) _)
  have HALL := Lib.hid (rall_any N A T.length c T V hT ((HT.out.below HB0.out).more HB0.out.size))
  have HE : Hid (checkR N T = (0, 0, 0) ↔ (refAll N T).length = 0) := Lib.hid ((check_is N T).trans List.length_eq_zero_iff.symm)
  unfold RPost at HALL
  generalize refAll N T = X at *
  obtain ⟨b, hb⟩ : ∃ b, decide (checkR N T = (0, 0, 0)) = b := ⟨_, rfl⟩
  have HBE := Lib.hid hb
  rw [hb]
  clear hb
  go_enter Tryz.func43, Tryz.ntmps43
  go_upto_region 1 with (fail)
  rw [← hV]
  clear hV
  obtain ⟨ga, hga⟩ : ∃ g, g = w.heap.size := ⟨_, rfl⟩
  rw [← hga] at GA0
  simp only [← hga]
  clear hga
  obtain ⟨s0, s1, _, _, _⟩ := soup_facts GA0.out
  go_wp2_with fail
  refine HALL.out.mono ?_
  rintro e w1 ⟨A', c', rfl, _, hb⟩
  have HB1 := Lib.hid (bw_call HB0.out hb)
  clear hb HALL s0 s1
  cases b with
  | true =>
    have h0 : X.length = 0 := HE.out.1 (of_decide_eq_true HBE.out)
    have h1 : (X.length : Int) = 0 := by omega
    clear h0
    go_wp2_with fail
    go_ret
    exact ⟨rfl, HB1.out⟩
  | false =>
    have h0 : X.length ≠ 0 := fun h => of_decide_eq_false HBE.out (HE.out.2 h)
    have h1 : ((X.length : Int) == 0) = false := by rw [beq_eq_false_iff_ne]; omega
    clear h0
    go_wp2_with fail
    go_ret
    exact ⟨rfl, HB1.out⟩
/-- A table of at most forty triangles, or none. -/
def Table12P (w : World) (N : Int) (T : List Tri) (e : Ending) (w' : World) : Prop :=
  (e = .returned (.pointer none) ∧ Below w.heap.size w w' ∧ (40 < T.length ∨ checkR N T ≠ (0, 0, 0))) ∨
  (∃ g m : Nat, N = (m : Int) ∧ T.length ≤ 40 ∧ checkR N T = (0, 0, 0) ∧ e = .returned (.pointer (some ⟨g, 0, none⟩)) ∧ TabN w' g m T ∧ Below w.heap.size w w')
set_option maxRecDepth 100000 in
set_option maxHeartbeats 4000000 in
theorem table12_any (N : Int) (A : Option Addr) (c : Nat) (T : List Tri) (w : World) (ht : TrisAt w w.heap.size A T.length T) :
    Calls Tryz.prog 8 #[.agg #[.int .i64 N, .slice A T.length c]] w (Table12P w N T) := by
  have HT := Lib.hid ht
  clear ht
  obtain ⟨V, hV⟩ : ∃ V, V = w.alloc (.cells #[.int .i64 N, .slice A T.length c] 24) := ⟨_, rfl⟩
  have GA0 : Hid (Blk V w.heap.size 24 #[.int .i64 N, .slice A T.length c]) := by subst hV; exact Lib.hid (Blk.new _ _ _)
  have HB0 : Hid (Below w.heap.size w V) := by subst hV; exact Lib.hid (bw_alloc (Below.refl _ _) _)
  go_enter Tryz.func8, Tryz.ntmps8
  go_upto_region 1 with (fail)
  rw [← hV]
  clear hV
  obtain ⟨ga, hga⟩ : ∃ g, g = w.heap.size := ⟨_, rfl⟩
  rw [← hga] at GA0
  simp only [← hga]
  clear hga
  obtain ⟨s0, s1, _, _, _⟩ := soup_facts GA0.out
  by_cases hT40 : 40 < T.length
  · have hT40' : (40 : Int) < (T.length : Int) := by omega
    go_wp2_with fail
    go_ret
    exact .inl ⟨rfl, HB0.out, .inl hT40⟩
  have hT40' : ¬ (40 : Int) < (T.length : Int) := by omega
  have HSF := Lib.hid (surface_any N A c T V (by omega) ((HT.out.below HB0.out).more HB0.out.size))
  by_cases hx : checkR N T = (0, 0, 0)
  rotate_left
  · rw [decide_eq_false hx] at HSF
    have HX := Lib.hid hx
    clear hx
    go_wp2_with fail
    refine HSF.out.mono ?_
    rintro e w1 ⟨rfl, hb⟩
    go_wp2_with fail
    go_ret
    exact .inl ⟨rfl, bw_call HB0.out hb, .inr HX.out⟩
  rw [decide_eq_true hx] at HSF
  have HX := Lib.hid hx
  clear hx
  go_wp2_with fail
  refine HSF.out.mono ?_
  rintro e w1 ⟨rfl, hb⟩
  have GA1 := Lib.hid (blk_call GA0.out hb)
  have HB1 := Lib.hid (bw_call HB0.out hb)
  clear hb HSF s0 s1 GA0
  obtain ⟨s0, s1, _, _, _⟩ := soup_facts GA1.out
  go_wp2_with fail
  refine (new_any N A T.length c T w1 (by omega) ((HT.out.below HB1.out).more HB1.out.size)).mono ?_
  rintro e w2 (⟨hx, g, rfl, htab, hb⟩ | ⟨hx, rfl, hb⟩)
  rotate_left
  · exact absurd HX.out hx
  have HB2 := Lib.hid (bw_call HB1.out hb)
  obtain ⟨k, hk⟩ := surf_of (checkR_zero (by rw [hx])).1
  have hNm := (surf_e.1 hk).1
  obtain ⟨m, rfl⟩ := Int.eq_ofNat_of_zero_le (show 0 ≤ N by omega)
  have HTB : Hid (TabN w2 g m T) := Lib.hid ⟨htab.base (Nat.zero_le _), surf_chk16 hx, by omega⟩
  clear hb htab hx hk s0 s1
  unfold wv
  simp only
  go_wp2_with fail
  go_ret
  exact .inr ⟨g, m, rfl, by omega, HX.out, rfl, HTB.out.alloc _, bw_alloc HB2.out _⟩
/-- A corner's value: one of some values. -/
def valN (l : List Int) (k : Nat) : Int := l.getD (k % l.length) 0
theorem valN_nil (k : Nat) : valN [] k = 0 := rfl
theorem tmod_nat (k n : Nat) : Int.tmod (k : Int) (n : Int) = ((k % n : Nat) : Int) := rfl
set_option maxHeartbeats 4000000 in
theorem value_any (A : Option Addr) (c : Nat) (l : List Int) (k : Nat) (w : World) (B : Nat) (hk : k < 1000000) (hr : Reads w B 1 A l.length (ZL l)) :
    Calls Tryz.prog 22 #[.slice A l.length c, .int .i64 (k : Int)] w (IsPost w (.int .i64 (valN l k))) := by
  by_cases h0 : l.length = 0
  · obtain rfl : l = [] := List.eq_nil_of_length_eq_zero h0
    rw [valN_nil]
    clear hr
    have e : (([] : List Int).length : Int) = 0 := rfl
    go_enter Tryz.func22, Tryz.ntmps22
    go_wp2_with fail
    go_ret
    exact ⟨rfl, rfl⟩
  have hm : k % l.length < l.length := Nat.mod_lt _ (by omega)
  obtain ⟨ad, x, rfl, hb, hx, hc⟩ := zl_read hr hm
  have hv : valN l k = x := by unfold valN; rw [List.getD_eq_getElem?_getD, hx]; rfl
  rw [hv]
  have e0 : ((l.length : Int) == 0) = false := by rw [beq_eq_false_iff_ne]; omega
  obtain ⟨q, hq⟩ : ∃ q, k % l.length = q := ⟨_, rfl⟩
  have ht : Int.tmod (k : Int) (l.length : Int) = (q : Int) := by rw [tmod_nat, hq]
  rw [hq] at hm hc
  have hw : IntKind.i64.wrap (q : Int) = (q : Int) := IntWalk.i64_in _ (by have := Nat.mod_le k l.length; omega)
  have hqi : (q : Int) < (l.length : Int) := by omega
  have hlz : ¬ (l.length : Int) = 0 := by omega
  clear hr hx hv hq hb h0
  go_enter Tryz.func22, Tryz.ntmps22
  go_wp2_with fail
  go_ret
  exact ⟨rfl, rfl⟩
theorem Only.below_ {w w' : World} (h : Only (fun _ => False) w w') : Below w.heap.size w w' := h.below (Nat.le_refl _) fun _ _ hf => hf
/-- A field of what a closure tells that turns nothing. -/
theorem OfC.pure {kf : Nat} {lb : Array Value} {w : World} {N : Nat} {V : Nat → Value} (h : ∀ c W, c < N → Below w.heap.size w W → Calls Tryz.prog kf (#[.int .i64 (c : Int)] ++ lb) W fun e W' => e = .returned (V c) ∧ Below W.heap.size W W') :
    OfC kf lb (fun _ => False) (fun _ _ => True) w N V := fun c W hc _ hO => (h c W hc hO.below_).mono fun e W' ⟨he, hb⟩ => ⟨he, trivial, Only.of_below hb _⟩
/-- A new field, nothing else turned. -/
def NewQ (tF tE : TypeId) (sz g n : Nat) (xs : List Value) (w : World) (e : Ending) (w' : World) : Prop :=
  ∃ (gf : Nat) (A : Option Addr) (c : Nat), e = .returned (.pointer (some ⟨gf, 0, none⟩)) ∧ FAt w' tF tE sz w.heap.size gf g A c n xs ∧ Below w.heap.size w w'
theorem newI_pure (kf : Nat) (lb : Array Value) (heg : ∀ args w, (callFunc kf args).run Tryz.prog w = .ok (.enter kf args) w) (g m : Nat) (T : List Tri) (V : Nat → Int) (w : World) (hT : T.length ≤ 1000) (h : TabN w g m T)
    (hof : ∀ c W, c < 3 * T.length → Below w.heap.size w W → Calls Tryz.prog kf (#[.int .i64 (c : Int)] ++ lb) W (IntPost W (V c))) :
    Calls Tryz.prog 20 #[.pointer (some ⟨g, 0, none⟩), .func (.func kf) #[] lb] w (NewQ 91 3 1 g (3 * T.length) ((List.range (3 * T.length)).flatMap fun i => cellsI (V i)) w) :=
  (newI_any kf lb heg g m T (fun _ => False) (fun _ _ => True) V w hT h (fun _ hf => hf.elim) (fun _ _ _ _ _ => trivial) trivial (OfC.pure hof)).mono fun e w' ⟨gf, A, c, he, hf, _, ho⟩ => ⟨gf, A, c, he, hf, ho.below_⟩
end Go.Proofs.YtbdicndkkenbgaaGreat
