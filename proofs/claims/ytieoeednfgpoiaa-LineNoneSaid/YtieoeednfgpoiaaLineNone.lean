/- LineNone: for every packet the law answers true, and its argument reads as it did. Conditions: none. -/
import Derived.Test.YtieoeednfgpoiaaRows
import Derived.Test.YtieoeednfgpoiaaAwake
import Derived.Test.YtieoeednfgpoiaaOpen
namespace Go.Proofs.Ytieoeednfgpoiaa
open Go.ChangeShapes Go.WideShapes Go.ChangeAt Go.RowKit


theorem tick_nil (w : World) : Calls Try.prog 16 #[.pointer none] w fun e w' => e = .returned (.slice none 0 0) ∧ w = w' := by
  go_enter Try.func16, Try.ntmps16
  go_wp2
  go_ret
  exact ⟨rfl, rfl⟩

set_option maxHeartbeats 2000000 in
theorem none_great (x : Int) (A : Option Addr) (n c : Nat) (w : World) (hn : n ≤ 9223372036854775807) (h30 : 30 < n) :
    Calls Try.prog 9 #[.agg #[.int .i64 x, .slice A n c]] w (True_ w) := by
  have h30' : (30 : Int) < (n : Int) := by omega
  go_enter Try.func9, Try.ntmps9
  go_wp2_with fail
  refine (awake_any _).mono ?_
  rintro e w2 ⟨rfl, hb⟩
  have b2 := (Blk.new w 42 #[.int .i64 x, .slice A n c]).below hb (by simp)
  have hbe : Below w.heap.size w w2 := ((Below.refl _ _).alloc (Nat.le_refl _) (.cells #[.int .i64 x, .slice A n c] 42)).trans (hb.mono (by simp))
  have c1 := b2.cell 1
  simp at c1
  have HB := Lib.hid hbe
  clear hb b2 hbe
  go_wp2_with fail
  refine (awake_any _).mono ?_
  rintro e w3 ⟨rfl, hb⟩
  go_wp2_with fail
  go_ret
  exact ⟨rfl, HB.out.trans (hb.mono HB.out.size)⟩

set_option maxHeartbeats 2000000 in
theorem none_small (x : Int) (A : Option Addr) (n c : Nat) (w : World) (h30 : n ≤ 30) (l : List UInt8) (hr : Reads w w.heap.size 1 A n (B8 l)) :
    Calls Try.prog 9 #[.agg #[.int .i64 x, .slice A n c]] w (True_ w) := by
  have h30' : (n : Int) ≤ 30 := by omega
  have hl : l.length = n := by have := hr.1; rw [B8_length] at this; omega
  have HR := Lib.hid hr
  have HLE := Lib.hid hl
  clear hr hl
  go_enter Try.func9, Try.ntmps9
  go_wp2_with fail
  refine (awake_any _).mono ?_
  rintro e w2 ⟨rfl, hb⟩
  have b2 := (Blk.new w 42 #[.int .i64 x, .slice A n c]).below hb (by simp)
  have hbe : Below w.heap.size w w2 := ((Below.refl _ _).alloc (Nat.le_refl _) (.cells #[.int .i64 x, .slice A n c] 42)).trans (hb.mono (by simp))
  have c0 := b2.cell 0
  have c1 := b2.cell 1
  simp at c0 c1
  have HB := Lib.hid hbe
  have B2 := Lib.hid b2
  have hlt := b2.lt
  clear hb b2 hbe
  go_wp2_with fail
  refine (take_nil _ _ _).mono ?_
  rintro e w3 ⟨rfl, hb3⟩
  have c1' := (B2.out.below hb3 B2.out.lt).cell 1
  simp at c1'
  have HB3 := Lib.hid (HB.out.trans (hb3.mono HB.out.size))
  have B3 := Lib.hid (B2.out.below hb3 B2.out.lt)
  have hlt3 := B3.out.lt
  clear hb3 HB B2 c0 c1 hlt
  go_wp2_with fail
  have hin : InAt (w3.alloc (.cells #[.map none, .int .i64 0] 48)) w3.heap.size w3.heap.size none (fun _ => none) ⟨[], 0⟩ :=
    ⟨Nat.le_refl _, Blk.new _ _ _, .inl ⟨rfl, rfl⟩, fun _ => ⟨(fun p hp => by cases hp), fun _ => rfl⟩⟩
  have hrd : ∀ W, Only (fun k => k = w3.heap.size ∨ none = some k) (w3.alloc (.cells #[.map none, .int .i64 0] 48)) W → Reads W W.heap.size 1 A n (B8 l) := by
    intro W hW
    have hz := HB3.out.size
    have h1 : Reads (w3.alloc (.cells #[.map none, .int .i64 0] 48)) w.heap.size 1 A n (B8 l) := (HR.out.below HB3.out).alloc hz _
    refine (h1.only hW (by simp; omega) fun k hk => ?_).more (by have := hW.size; simp at this; omega)
    rintro (e | e)
    · omega
    · cases e
  refine (take_any w3.heap.size w3.heap.size none (fun _ => none) ⟨[], 0⟩ (-1) A n c l _ hin HLE.out hrd (by decide) (by decide) (by omega) (by decide)).mono ?_
  rintro e w4 ⟨rfl, ob', fm', hi4, ho4, _⟩
  have ht : (⟨[], 0⟩ : IS).take (-1) l = ⟨[], 0⟩ := rfl
  rw [ht] at hi4
  have B4 := Lib.hid ((B3.out.alloc (.cells #[.map none, .int .i64 0] 48)).only ho4 (by rintro (e | e); exact absurd e (by omega); cases e))
  have HI4 := Lib.hid hi4
  have HB4 := Lib.hid ((HB3.out.alloc HB3.out.size (.cells #[.map none, .int .i64 0] 48)).trans (ho4.below (by have := HB3.out.size; simp; omega) (fun k hk => by rintro (e | e); have := HB3.out.size; omega; cases e)))
  have c4 := B4.out.cell 1
  simp at c4
  clear hin hrd hi4 ho4 ht HB3 B3 c1'
  generalize w3.heap.size = gi at *
  go_wp2_with (first | (go_at_call 15; refine (send_nil _ _).mono ?_; rintro e w' ⟨rfl, rfl⟩) | (go_at_call 16; refine (tick_nil _).mono ?_; rintro e w' ⟨rfl, rfl⟩) | (go_at_call 18; refine (now_nil _).mono ?_; rintro e w' ⟨rfl, rfl⟩) | (go_at_call 19; refine (idle_nil _).mono ?_; rintro e w' ⟨rfl, rfl⟩) | (go_at_call_of 22 (Value.pointer none); refine (front_nil _).mono ?_; rintro e w' ⟨rfl, rfl⟩) | (go_at_call_of 23 (Value.pointer none); refine (gaps_nil _).mono ?_; rintro e w' ⟨rfl, rfl⟩))
  refine (front_any gi gi ob' fm' ⟨[], 0⟩ w4 HI4.out (by decide) (fun p hp => by cases hp)).mono ?_
  rintro e w5 ⟨A5, c5, rfl, _, hb5⟩
  have HI5 := Lib.hid (HI4.out.below hb5)
  have HB5 := Lib.hid (HB4.out.trans (hb5.mono HB4.out.size))
  have e5 : (IS.front ⟨[], 0⟩).length = 0 := rfl
  rw [e5]
  clear hb5 e5 HI4 HB4
  go_wp2_with fail
  refine (gaps_any gi gi ob' fm' ⟨[], 0⟩ w5 HI5.out (by decide)).mono ?_
  rintro e w6 ⟨A6, c6, rfl, _, hb6⟩
  have HB6 := Lib.hid (HB5.out.trans (hb6.mono HB5.out.size))
  have e6 : (IS.gaps ⟨[], 0⟩).length = 0 := rfl
  rw [e6]
  clear hb6 e6 HI5 HB5
  go_wp2_with fail
  go_ret
  exact ⟨rfl, HB6.out⟩

theorem none_any (x : Int) (A : Option Addr) (n c : Nat) (w : World) (hn : n ≤ 9223372036854775807) (l : List UInt8) (hr : Reads w w.heap.size 1 A n (B8 l)) :
    Calls Try.prog 9 #[.agg #[.int .i64 x, .slice A n c]] w (True_ w) := by
  by_cases h : n ≤ 30
  · exact none_small x A n c w h l hr
  · exact none_great x A n c w hn (by omega)
theorem lineNone_own : ownKnob Try.prog.godebug = none := by kernel_rfl
theorem lineNone_laid : laidOutB Try.prog = true := by kernel_rfl

set_option maxRecDepth 100000 in
theorem lineNone_lifted (os : Os) (started : os.Started) (H : Type) (enc : TypeId × Value → H) :
    ReturnsInHanded {} Try.checked os 9 .any (Rows.lineNoneSpec.pre6 enc Try.prog Try.f9 Rows.lineNoneRow.domain false) (Rows.lineNoneSpec.post enc Try.prog Try.f9 false true false false) := by
  refine returnsInHanded_of_change (C := Try.checked) lineNone_own started (by kernel_rfl) Try.func9
    (ChangeSpec.witness6 (enc := enc) (C := Try.checked) false ⟨#[], #[.agg #[.int .i64 0, .slice none 0 0]], []⟩ 8 (by kernel_rfl) (by kernel_rfl) (by kernel_rfl) (by kernel_rfl)) ?_
  intro W base args ds gs before hval0 hW hcnd _
  have hval : ∀ (j : Nat) t v, Try.f9.params[j]? = some t → args[j]? = some v → Value.okWide Try.prog W .any base t v := hval0
  have hW' := hW
  obtain ⟨p, q, hA0, hV, rfl, hfz, hnd⟩ := hW
  have hA : DataW.TrodAll enc Try.prog W 0 (fun _ => true) true Try.f9.params.toList args.toList ds p := hA0
  rw [Try.params9] at hA hval
  obtain ⟨v0, vs0, d0, ds0, p0, q0, hargs, rfl, rfl, h0, r0⟩ := trodAll_cons hA
  obtain ⟨rfl, rfl, rfl⟩ := trodAll_nil r0
  obtain rfl : args = #[v0] := by cases args; simp_all
  obtain ⟨rfl, rfl⟩ := trodVars_none hV
  have k0 := h0
  have lt0 : ∀ x ∈ p0, x.block < W.heap.size := by obtain ⟨m, hm⟩ := k0; exact DataW.trod_lt m _ _ _ hm
  have o0 := hval 0 42 v0 rfl rfl
  obtain ⟨u0, u1, y0, y1, m, rfl, _, _, t0, t1⟩ := Joins.open_agg2 Try.underlying42 (by kernel_rfl) (by kernel_rfl) o0 h0
  obtain ⟨x, e0, _, wx⟩ := DataW.trod_int Try.underlying3 t0
  obtain ⟨A, n, c, l, rfl, hl, hnc, hcm, hr, hwf⟩ := open_row Try.underlying35 Try.underlying5 (by kernel_rfl) t1
  obtain ⟨b, hb, hbl⟩ := u8_list l hwf
  simp at e0
  subst e0
  rw [hb] at hr
  clear hA0 hval0
  refine (none_any x A n c W (by unfold maxLen at hcm; omega) b hr).mono fun e W' ⟨he, bel⟩ => ?_
  subst he
  exact ⟨_, rfl, _, _, _, [], _, [], hW', trodAll_mk1 (shut_bool Try.underlying4 _), (trodAll_cons_mk (Below.trod lineNone_laid (by kernel_rfl) (of_decide_eq_true (by kernel_rfl)) k0 bel lt0) trodAll_mk0), rfl, bel.frame _, fun h => by cases h⟩

theorem lineNone_proved : Rows.LineNoneSaid :=
  OpenClaim.holds_of_wide 9 Try.f9 rfl rfl rfl rfl rfl rfl rfl ⟨rfl, rfl, rfl, rfl, rfl⟩ rfl rfl rfl rfl rfl (by kernel_rfl) Try.func9 (by kernel_rfl)
    (of_decide_eq_true (by kernel_rfl)) (by unfold Func.isWrapper; first | (rw [if_pos (by decide +kernel)]; kernel_rfl) | (rw [if_neg (by decide +kernel)]; exact ⟨rfl, rfl⟩))
    (fun os started H enc _ => lineNone_lifted os started H enc)
end Go.Proofs.Ytieoeednfgpoiaa
