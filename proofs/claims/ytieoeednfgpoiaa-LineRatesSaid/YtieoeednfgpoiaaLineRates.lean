/- LineRates: for all numbers and bytes the law answers true, and its arguments read as they did. Conditions: none. -/
import Derived.Test.YtieoeednfgpoiaaRows
import Derived.Test.YtieoeednfgpoiaaAwake
import Derived.Test.YtieoeednfgpoiaaClosed
import Derived.Test.YtieoeednfgpoiaaOpen
import Derived.Deep.LoopGhost
namespace Go.Proofs.Ytieoeednfgpoiaa
open Go.ChangeShapes Go.WideShapes Go.ChangeAt Go.RowKit


set_option maxHeartbeats 2000000 in
theorem rates_great (ra da : Int) (A : Option Addr) (n c : Nat) (w : World) (hn : n ≤ 9223372036854775807) (h : 120 < n) :
    Calls Try.prog 7 #[.int .u8 ra, .int .u8 da, .slice A n c] w (True_ w) := by
  have h' : (120 : Int) < (n : Int) := by omega
  go_enter Try.func7, Try.ntmps7
  go_wp2_with fail
  refine (awake_any _).mono ?_
  rintro e w2 ⟨rfl, hb⟩
  go_wp2_with fail
  refine (awake_any _).mono ?_
  rintro e w3 ⟨rfl, hb3⟩
  go_wp2_with fail
  go_ret
  exact ⟨rfl, hb.trans (hb3.mono hb.size)⟩

set_option maxRecDepth 100000 in
set_option maxHeartbeats 4000000 in
theorem rates_small (ra da : Nat) (A : Option Addr) (c : Nat) (b : List UInt8) (w : World) (h1 : ra ≤ 255) (h2 : da ≤ 255) (h : b.length ≤ 120) (hr : Reads w w.heap.size 1 A b.length (B8 b)) :
    Calls Try.prog 7 #[.int .u8 ra, .int .u8 da, .slice A b.length c] w (True_ w) := by
  have HR := Lib.hid hr
  clear hr
  have h' : ((b.length : Nat) : Int) ≤ 120 := by omega
  go_enter Try.func7, Try.ntmps7
  go_wp2_with fail
  refine (awake_any _).mono ?_
  rintro e w2 ⟨rfl, hb⟩
  have HB := Lib.hid hb
  clear hb
  go_wp2_with fail
  obtain ⟨r, hr0, hr1, hr⟩ : ∃ r : Nat, 1 ≤ r ∧ r ≤ 20 ∧ (1 + (ra : Int) % 20) = r := ⟨1 + ra % 20, by omega, by omega, by omega⟩
  obtain ⟨d, hd1, hd⟩ : ∃ d : Nat, d ≤ 19 ∧ ((da : Int) % 20) = d := ⟨da % 20, by omega, by omega⟩
  rw [hr, hd]
  clear hr hd
  refine (new_any r d none 0 0 [] _ (by omega) Reads.none_ (by simp)).mono ?_
  rintro e w3 hN
  have hN0 : errNew r d [] = 0 := by unfold errNew; rw [if_neg (by omega), if_neg (by simp), if_pos (by simp)]
  rcases hN with ⟨h0, _⟩ | ⟨_, hb1, g, bl, bw, rfl, h2, h3, h4, h5, h6, h7, h8⟩
  · exact absurd hN0 h0
  have hl1 := start_at (base := w2.heap.size) h2 h3 h4 h5 h6 h7 h8
  have HL := Lib.hid hl1
  have HB3 := Lib.hid (HB.out.trans (hb1.mono HB.out.size))
  have HZ := Lib.hid HB.out.size
  have HN := Lib.hid hN0
  clear h2 h3 h4 h5 h6 h7 h8 hl1 hb1 HB hN0
  go_wp2_with fail
  refine (send_any g bl bw w2.heap.size w.heap.size _ _ _ _ A b.length c b HL.out (by show 0 + _ ≤ _; omega) (HR.out.below HB3.out)).mono ?_
  rintro e w4 ⟨rfl, wv4, hl4, ho4⟩
  have hb4 : Below w.heap.size w w4 := HB3.out.trans (ho4.below HB3.out.size (fun k hk => by
    have := HL.out.g1
    have := HZ.out
    rintro (e | e)
    · omega
    · simp [Value.ownBlock] at e))
  rw [← SK_zero] at hl4
  have HL4 := Lib.hid hl4
  have HB4 := Lib.hid hb4
  clear hl4 ho4 hb4 HL HB3
  go_wp2_with fail
  have hW : many r b ≤ 120 := (many_le hr0 b 120).2 (by have := Nat.mul_le_mul_left 120 hr0; omega)
  go_loopg [11, 12] (many r b + d) (fun gk m y wr => ∃ k mm yy : Nat, gk + k = many r b + d ∧ (many r b = 0 → k = 0) ∧ m = .int .i64 mm ∧ y = .int .i64 yy ∧ Hid (mm = min (k - d) (many r b) ∧ yy = min (mm * r) b.length) ∧
    Hid (∃ wv fw, LineAt wr w2.heap.size g bl bw wv fw (SK r d [] b k)) ∧ Hid (Below w.heap.size w wr))
  case atStart => exact ⟨0, 0, 0, by omega, fun _ => rfl, rfl, rfl, ⟨by simp, by simp⟩, ⟨_, _, HL4.out⟩, HB4.out⟩
  case round =>
    obtain ⟨k, mm, yy, hgk, hk0, rfl, rfl, HM, HLi, HBe⟩ := hrel
    clear HL4 HB4
    have hok := SK_ok HN.out b (by omega) hr0 k (by omega)
    obtain ⟨wv, fw, hli⟩ := HLi.out
    have hidle := idle_any g bl bw _ wv fw _ wr hli (by have := hok.wait; omega) (by have := hok.short; omega)
    have hnow := now_any g bl bw _ wv fw _ wr hli
    have e0 : (SK r d [] b k).now = (k : Int) := rfl
    rw [e0] at hnow
    clear e0
    cases hib : idleB (SK r d [] b k) with
    | true =>
      rw [hib] at hidle
      have HI := Lib.hid hidle
      have hdone := SK_done r d b k hr0 hib
      have hB := (many_le hr0 b (many r b)).1 (Nat.le_refl _)
      have hB0 := (many_le hr0 b 0)
      rw [Nat.zero_mul] at hB0
      have hmm := HM.out.1
      have hyy := HM.out.2
      by_cases hb0 : b.length = 0
      · obtain rfl : k = 0 := hk0 (by omega)
        obtain rfl : mm = 0 := by omega
        obtain rfl : yy = 0 := by omega
        have HNo := Lib.hid hnow
        clear hidle hnow hok hli hib hdone hB hB0 hmm hyy HM
        go_wp2_with fail
        refine HI.out.mono ?_
        rintro e w' ⟨rfl, rfl⟩
        go_wp2_with fail
        refine HNo.out.mono ?_
        rintro e w' ⟨rfl, rfl⟩
        go_wp2_with fail
        go_ret
        exact ⟨rfl, HBe.out⟩
      · have hk : k = many r b + d := by omega
        have hm1 : mm = many r b := by omega
        have hy1 : yy = b.length := by rw [hyy, hm1]; omega
        have hq : ((b.length : Int) + r - 1) / r = (many r b : Int) := by unfold many; rw [Int.natCast_ediv, Int.natCast_sub (by omega)]; simp
        have hne : ((b.length : Int) == 0) = false := by rw [beq_eq_false_iff_ne]; omega
        subst hm1 hy1
        have hnow' : Calls Try.prog 18 #[.pointer (some ⟨g, 0, none⟩)] wr fun e w' => e = .returned (.int .i64 ((many r b : Int) + d)) ∧ wr = w' := by
          have e : (k : Int) = (many r b : Int) + d := by omega
          rw [e] at hnow; exact hnow
        have HNo := Lib.hid hnow'
        clear hidle hnow hnow' hok hli hib hdone hB hB0 hmm hyy HM hb0 hk
        go_wp2_with fail
        refine HI.out.mono ?_
        rintro e w' ⟨rfl, rfl⟩
        go_wp2_with fail
        refine HNo.out.mono ?_
        rintro e w' ⟨rfl, rfl⟩
        go_wp2_with fail
        go_ret
        exact ⟨rfl, HBe.out⟩
    | false =>
      rw [hib] at hidle
      have HI := Lib.hid hidle
      have HNo := Lib.hid hnow
      have hlt := SK_idle r d [] b k hr0 hib
      have hsome := SK_some r d [] b k hr0 hib
      have HK := Lib.hid hok
      have HS := Lib.hid (SK_tick r d [] b k hr0)
      have ht := tick_any g bl bw _ wv fw _ wr hli hok
      have HT := Lib.hid ht
      have HLI := Lib.hid hli
      clear hidle hnow hok hli hib ht
      go_wp2_with fail
      refine HI.out.mono ?_
      rintro e w' ⟨rfl, rfl⟩
      go_wp2_with fail
      refine HNo.out.mono ?_
      rintro e w' ⟨rfl, rfl⟩
      go_wp2_with fail
      refine HT.out.mono ?_
      rintro e w5 ⟨v, wv5, fw5, rfl, hl5, ho5, hon5⟩
      rw [HS.out.1] at hl5
      rw [HS.out.2] at ho5
      have hb5 : Below w.heap.size w w5 := HBe.out.trans (hon5.below HBe.out.size fun j hj => by
        have := HLI.out.g1
        have := HLI.out.bw1
        have := HZ.out
        rintro (e | e) <;> omega)
      have HL5 := Lib.hid hl5
      have HB5 := Lib.hid hb5
      clear hl5 hb5 hon5 HI HNo HT HLI HS HK HLi HBe
      unfold outK at ho5
      by_cases harr : d ≤ k ∧ k - d < many r b
      · rw [if_pos ⟨harr.1, harr.2, by simp⟩] at ho5
        rcases ho5 with ⟨e, _⟩ | ⟨p, e, hP⟩
        · cases e
        · obtain rfl : pkJ r d b (k - d) = p := by injection e
          obtain ⟨pg, pc, A5, dc, rfl, q0, q1, hod, cs, hbp⟩ := hP.cells
          have hm1 : k = mm + d := by have := HM.out.1; omega
          have hsq : (pkJ r d b (k - d)).seq = (mm : Int) := by show ((k - d : Nat) : Int) = _; omega
          rw [hsq] at q0
          obtain ⟨dl, hdl⟩ : ∃ dl, dl = (pkJ r d b (k - d)).data.length := ⟨_, rfl⟩
          rw [← hdl] at q1
          have hdl2 : dl = min r (b.length - mm * r) := by
            rw [hdl]
            show ((b.drop ((k - d) * r)).take r).length = _
            rw [List.length_take, List.length_drop]
            have e1 : k - d = mm := by omega
            rw [e1]
          have hdr : (dl : Int) ≤ (r : Int) := by omega
          have hy1 : yy + dl = min ((mm + 1) * r) b.length ∧ mm + 1 = min (k + 1 - d) (many r b) := by
            have := HM.out.2
            refine ⟨?_, by omega⟩
            rw [Nat.succ_mul]
            omega
          have hyb : yy + dl ≤ 120 := by have := hy1.1; omega
          have hnow5 : Calls Try.prog 18 #[.pointer (some ⟨g, 0, none⟩)] (w5.alloc (.cells #[.int .i64 (mm : Int), .slice A5 dl dc] 42)) fun e w' => e = .returned (.int .i64 ((mm : Int) + 1 + d)) ∧ w5.alloc (.cells #[.int .i64 (mm : Int), .slice A5 dl dc] 42) = w' := by
            have hn := now_any g bl bw _ wv5 fw5 _ _ (HL5.out.below ((Below.refl w5.heap.size w5).alloc (Nat.le_refl _) (.cells #[.int .i64 (mm : Int), .slice A5 dl dc] 42)))
            have e0 : (SK r d [] b (k + 1)).now = (mm : Int) + 1 + d := by show ((k + 1 : Nat) : Int) = _; omega
            rw [e0] at hn
            exact hn
          have hkb : mm ≤ 120 := by omega
          have HN5 := Lib.hid hnow5
          have HY := Lib.hid hy1
          have HK1 := Lib.hid hm1
          have HMB := Lib.hid harr
          clear e hP hod hbp hm1 hsq hdl hdl2 hy1 hnow5 harr
          go_wp2_with fail
          refine wp_loop_rounds 2 ?_
          rw [rounds_succ]
          go_wp2_with fail
          refine HN5.out.mono ?_
          rintro e w6 ⟨rfl, rfl⟩
          go_wp2_with fail
          rw [rounds_succ]
          go_wp2_with fail
          go_roundg (gk - 1)
          case measure => omega
          case rel =>
            refine ⟨k + 1, mm + 1, yy + dl, by omega, fun h0 => ?_, by go_num, by go_num, ⟨HY.out.2, HY.out.1⟩, ⟨wv5, fw5, HL5.out.below ((Below.refl _ _).alloc (Nat.le_refl _) _)⟩, HB5.out.alloc HB5.out.size _⟩
            have := HMB.out; omega
      · rw [if_neg (fun h => harr ⟨h.1, h.2.1⟩)] at ho5
        rcases ho5 with ⟨_, rfl⟩ | ⟨p, e, _⟩
        · go_wp2_with fail
          refine wp_loop_once ?_
          go_wp2_with fail
          go_roundg (gk - 1)
          case measure => omega
          case rel =>
            have h1 := HM.out.1
            refine ⟨k + 1, mm, yy, by omega, fun h0 => by omega, rfl, rfl, ⟨by omega, HM.out.2⟩, ⟨wv5, fw5, HL5.out⟩, HB5.out⟩
        · cases e

theorem rates_any (ra da : Nat) (A : Option Addr) (c : Nat) (b : List UInt8) (w : World) (h1 : ra ≤ 255) (h2 : da ≤ 255) (h : b.length ≤ 9223372036854775807) (hr : Reads w w.heap.size 1 A b.length (B8 b)) :
    Calls Try.prog 7 #[.int .u8 ra, .int .u8 da, .slice A b.length c] w (True_ w) := by
  by_cases hl : b.length ≤ 120
  · exact rates_small ra da A c b w h1 h2 hl hr
  · exact rates_great ra da A b.length c w h (by omega)

theorem lineRates_own : ownKnob Try.prog.godebug = none := by kernel_rfl
theorem lineRates_laid : laidOutB Try.prog = true := by kernel_rfl

set_option maxRecDepth 100000 in
theorem lineRates_lifted (os : Os) (started : os.Started) (H : Type) (enc : TypeId × Value → H) :
    ReturnsInHanded {} Try.checked os 7 .any (Rows.lineRatesSpec.pre6 enc Try.prog Try.f7 Rows.lineRatesRow.domain false) (Rows.lineRatesSpec.post enc Try.prog Try.f7 false true false false) := by
  refine returnsInHanded_of_change (C := Try.checked) lineRates_own started (by kernel_rfl) Try.func7
    (ChangeSpec.witness6 (enc := enc) (C := Try.checked) false ⟨#[], #[.int .u8 0, .int .u8 0, .slice none 0 0], []⟩ 8 (by kernel_rfl) (by kernel_rfl) (by kernel_rfl) (by kernel_rfl)) ?_
  intro W base args ds gs before hval0 hW hcnd _
  have hval : ∀ (j : Nat) t v, Try.f7.params[j]? = some t → args[j]? = some v → Value.okWide Try.prog W .any base t v := hval0
  have hW' := hW
  obtain ⟨p, q, hA0, hV, rfl, hfz, hnd⟩ := hW
  have hA : DataW.TrodAll enc Try.prog W 0 (fun _ => true) true Try.f7.params.toList args.toList ds p := hA0
  rw [Try.params7] at hA hval
  obtain ⟨v0, vs0, d0, ds0, p0, q0, hargs, rfl, rfl, h0, r0⟩ := trodAll_cons hA
  obtain ⟨v1, vs1, d1, ds1, p1, q1, rfl, rfl, rfl, h1, r1⟩ := trodAll_cons r0
  obtain ⟨v2, vs2, d2, ds2, p2, q2, rfl, rfl, rfl, h2, r2⟩ := trodAll_cons r1
  obtain ⟨rfl, rfl, rfl⟩ := trodAll_nil r2
  obtain rfl : args = #[v0, v1, v2] := by cases args; simp_all
  obtain ⟨rfl, rfl⟩ := trodVars_none hV
  have k0 := h0
  have lt0 : ∀ x ∈ p0, x.block < W.heap.size := by obtain ⟨m, hm⟩ := k0; exact DataW.trod_lt m _ _ _ hm
  have o0 := hval 0 5 v0 rfl rfl
  have k1 := h1
  have lt1 : ∀ x ∈ p1, x.block < W.heap.size := by obtain ⟨m, hm⟩ := k1; exact DataW.trod_lt m _ _ _ hm
  have o1 := hval 1 5 v1 rfl rfl
  have k2 := h2
  have lt2 : ∀ x ∈ p2, x.block < W.heap.size := by obtain ⟨m, hm⟩ := k2; exact DataW.trod_lt m _ _ _ hm
  have o2 := hval 2 35 v2 rfl rfl
  obtain ⟨x, rfl, _, _, wx⟩ := open_int Try.underlying5 o0 h0
  obtain ⟨y, rfl, _, _, wy⟩ := open_int Try.underlying5 o1 h1
  have hx := bounds_u8 wx
  have hy := bounds_u8 wy
  obtain ⟨u, hu⟩ : ∃ u : Nat, x = u := ⟨x.toNat, by omega⟩
  obtain ⟨z, hz⟩ : ∃ z : Nat, y = z := ⟨y.toNat, by omega⟩
  subst hu hz
  obtain ⟨A, n, c, rfl⟩ := okWide_slice Try.underlying35 o2
  obtain ⟨fuel, hf⟩ := h2
  obtain ⟨l, hl, hnc, hcm, hr, hwf⟩ := open_rowS Try.underlying35 Try.underlying5 (by kernel_rfl) hf
  obtain ⟨b, hb, hbl⟩ := u8_list l hwf
  rw [hb] at hr
  obtain rfl : b.length = n := by omega
  have hmax : b.length ≤ 9223372036854775807 := by unfold maxLen at hcm; omega
  clear hA0 hval0
  refine (rates_any u z A c b W (by omega) (by omega) hmax hr).mono fun e W' ⟨he, bel⟩ => ?_
  subst he
  exact ⟨_, rfl, _, _, _, [], _, [], hW', trodAll_mk1 (shut_bool Try.underlying4 _), (trodAll_cons_mk (Below.trod lineRates_laid (by kernel_rfl) (of_decide_eq_true (by kernel_rfl)) k0 bel lt0) (trodAll_cons_mk (Below.trod lineRates_laid (by kernel_rfl) (of_decide_eq_true (by kernel_rfl)) k1 bel lt1) (trodAll_cons_mk (Below.trod lineRates_laid (by kernel_rfl) (of_decide_eq_true (by kernel_rfl)) k2 bel lt2) trodAll_mk0))), rfl, bel.frame _, fun h => by cases h⟩

theorem lineRates_proved : Rows.LineRatesSaid :=
  OpenClaim.holds_of_wide 7 Try.f7 rfl rfl rfl rfl rfl rfl rfl ⟨rfl, rfl, rfl, rfl, rfl⟩ rfl rfl rfl rfl rfl (by kernel_rfl) Try.func7 (by kernel_rfl)
    (of_decide_eq_true (by kernel_rfl)) (by unfold Func.isWrapper; first | (rw [if_pos (by decide +kernel)]; kernel_rfl) | (rw [if_neg (by decide +kernel)]; exact ⟨rfl, rfl⟩))
    (fun os started H enc _ => lineRates_lifted os started H enc)
end Go.Proofs.Ytieoeednfgpoiaa
