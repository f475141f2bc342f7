/- LineFull: for every number the law answers true, and its argument reads as it did. Conditions: none. -/
import Derived.Test.YtieoeednfgpoiaaRows
import Derived.Test.YtieoeednfgpoiaaAwake
import Derived.Test.YtieoeednfgpoiaaOpen
import Derived.Deep.OwnRows
namespace Go.Proofs.Ytieoeednfgpoiaa
open Go.ChangeShapes Go.WideShapes Go.ChangeAt Go.RowKit


theorem reads_zero (w : World) (n : Nat) : Reads (w.alloc (.cells (madeCells #[.int .u8 0] n) 5)) (w.heap.size + 1) 1 (some ⟨w.heap.size, 0, none⟩) n (B8 (List.replicate n 0)) := by
  have h := reads_new w (madeCells #[.int .u8 0] n) 5 n 1 (by rw [size_madeCells]; omega)
  have e : (madeCells #[Value.int .u8 0] n).toList = B8 (List.replicate n 0) := by
    unfold madeCells B8
    apply List.ext_getElem
    · simp
    · intro i h1 h2
      simp [Nat.mod_one]
  rwa [e] at h

set_option maxHeartbeats 2000000 in
theorem full_any (n : Int) (w : World) (h0 : 0 ≤ n) (h1 : n ≤ 255) :
    Calls Try.prog 8 #[.int .u8 n] w (True_ w) := by
  obtain ⟨k, rfl⟩ : ∃ k : Nat, n = k := ⟨n.toNat, by omega⟩
  have hk : k ≤ 255 := by omega
  go_enter Try.func8, Try.ntmps8
  go_wp2_with fail
  refine (awake_any _).mono ?_
  rintro e w2 ⟨rfl, hb⟩
  have HB := Lib.hid hb
  clear hb
  go_wp2_with fail
  refine (new_any 1 0 none 0 0 [] _ (by omega) Reads.none_ (by simp)).mono ?_
  rintro e w3 hN
  have hN0 : errNew 1 0 [] = 0 := by decide
  rcases hN with ⟨h0, _⟩ | ⟨_, hb1, g, bl, bw, rfl, h2, h3, h4, h5, h6, h7, h8⟩
  · exact absurd hN0 h0
  have hl1 := start_at (base := w2.heap.size) h2 h3 h4 h5 h6 h7 h8
  have HL := Lib.hid hl1
  have HB3 := Lib.hid (HB.out.trans (hb1.mono HB.out.size))
  have HZ := Lib.hid HB.out.size
  clear h2 h3 h4 h5 h6 h7 h8 hl1 hb1 HB
  have mk := fun (n : Nat) (z : Int) (hz : z = (n : Int)) (hk : n ≤ 100000000) (wx : World) => (show (Instr.makeSlice 35 (.int .i64 z) (.int .i64 z)).run Try.prog wx = .ok (.slice (some ⟨wx.heap.size, 0, none⟩) n n) (wx.alloc (.cells (madeCells #[.int .u8 0] n) 5)) from
    hz ▸ run_make_row' (P := Try.prog) 35 5 (.int .u8 0) 1 Try.underlying35 u8_info rfl .i64 .i64 n (by omega) (by omega) wx)
  have m1 := mk (4194304 - k) (4194304 - (k : Int)) (by omega) (by omega)
  have m2 := mk (k + 1) ((k : Int) + 1) (by omega) (by omega)
  have m3 := mk k (k : Int) rfl (by omega)
  have m0 : 4194304 - k + k = 4194304 := by omega
  have M0 := Lib.hid m0
  clear mk m0
  go_wp2_with fail
  have hl4 := HL.out.below ((Below.refl w3.heap.size w3).alloc (Nat.le_refl _) (.cells (madeCells #[.int .u8 0] (4194304 - k)) 5))
  refine (send_any g bl bw w2.heap.size (w3.heap.size + 1) _ _ _ _ (some ⟨w3.heap.size, 0, none⟩) (4194304 - k) (4194304 - k) (List.replicate (4194304 - k) 0) hl4 (by show 0 + _ ≤ _; omega) (reads_zero w3 _)).mono ?_
  rintro e w4 ⟨rfl, wv4, hl4, ho4⟩
  have hb4 : Below w.heap.size w w4 := (HB3.out.alloc HB3.out.size _).trans (ho4.below (by have := HB3.out.size; simp; omega) (fun k hk => by
    have := HL.out.g1
    have := HZ.out
    rintro (e | e)
    · omega
    · simp [Value.ownBlock] at e))
  have HL4 := Lib.hid hl4
  have HB4 := Lib.hid hb4
  clear hl4 ho4 hb4 HL HB3
  go_wp2_with fail
  have hw4 : ((LS.start 1 0 []).send (List.replicate (4194304 - k) 0)).wait.length = 4194304 - k := by show ([] ++ _).length = _; simp
  have HW := Lib.hid hw4
  clear hw4
  have hl5 := HL4.out.below ((Below.refl w4.heap.size w4).alloc (Nat.le_refl _) (.cells (madeCells #[.int .u8 0] (k + 1)) 5))
  refine (send_full g bl bw w2.heap.size _ _ _ _ (some ⟨w4.heap.size, 0, none⟩) (k + 1) (k + 1) hl5 (by rw [HW.out]; omega) (by rw [HW.out]; omega) (by omega)).mono ?_
  rintro e w5 ⟨rfl, rfl⟩
  go_wp2_with fail
  generalize hw5 : w4.alloc (.cells (madeCells #[.int .u8 0] (k + 1)) 5) = w5 at *
  have hz5 : w4.heap.size + 1 = w5.heap.size := by rw [← hw5]; simp
  have hb5 : Below w.heap.size w w5 := by rw [← hw5]; exact HB4.out.alloc HB4.out.size _
  have hl6 := hl5.below ((Below.refl w5.heap.size w5).alloc (Nat.le_refl _) (.cells (madeCells #[.int .u8 0] k) 5))
  rw [hz5]
  refine (send_any g bl bw w2.heap.size (w5.heap.size + 1) _ _ _ _ (some ⟨w5.heap.size, 0, none⟩) k k (List.replicate k 0) hl6 (by rw [HW.out]; omega) (reads_zero w5 k)).mono ?_
  rintro e w6 ⟨rfl, wv6, hl7, ho6⟩
  have HL7 := Lib.hid hl7
  have hb6 : Below w.heap.size w w6 := (hb5.alloc hb5.size _).trans (ho6.below (by have := hb5.size; simp; omega) (fun k hk => by
    have := HL4.out.g1
    have := HZ.out
    rintro (e | e)
    · omega
    · have := (HL4.out.wait.lt k e).1; omega))
  have HB6 := Lib.hid hb6
  have hw6 : (((LS.start 1 0 []).send (List.replicate (4194304 - k) 0)).send (List.replicate k 0)).wait.length = 4194304 := by
    show (([] ++ _) ++ _ : List UInt8).length = _
    have := M0.out
    simp
    omega
  have hway : (((LS.start 1 0 []).send (List.replicate (4194304 - k) 0)).send (List.replicate k 0)).way.length = 0 := rfl
  have hidle : idleB (((LS.start 1 0 []).send (List.replicate (4194304 - k) 0)).send (List.replicate k 0)) = false := by
    unfold idleB
    rw [List.isEmpty_eq_false_iff.2 (fun e => by rw [e] at hw6; simp at hw6)]; rfl
  have hI := idle_any g bl bw w2.heap.size wv6 _ _ w6 hl7 (by rw [hw6]; omega) (by rw [hway]; omega)
  rw [hidle] at hI
  have HI := Lib.hid hI
  clear hl7 ho6 hb6 hw6 hway hidle hI hl6 hb5 hz5 hl5 hw5
  go_wp2_with fail
  refine HI.out.mono ?_
  rintro e w7 ⟨rfl, rfl⟩
  go_wp2_with fail
  go_ret
  exact ⟨rfl, HB6.out⟩
theorem lineFull_own : ownKnob Try.prog.godebug = none := by kernel_rfl
theorem lineFull_laid : laidOutB Try.prog = true := by kernel_rfl

set_option maxRecDepth 100000 in
theorem lineFull_lifted (os : Os) (started : os.Started) (H : Type) (enc : TypeId × Value → H) :
    ReturnsInHanded {} Try.checked os 8 .any (Rows.lineFullSpec.pre6 enc Try.prog Try.f8 Rows.lineFullRow.domain false) (Rows.lineFullSpec.post enc Try.prog Try.f8 false true false false) := by
  refine returnsInHanded_of_change (C := Try.checked) lineFull_own started (by kernel_rfl) Try.func8
    (ChangeSpec.witness6 (enc := enc) (C := Try.checked) false ⟨#[], #[.int .u8 0], []⟩ 8 (by kernel_rfl) (by kernel_rfl) (by kernel_rfl) (by kernel_rfl)) ?_
  intro W base args ds gs before hval0 hW hcnd _
  have hval : ∀ (j : Nat) t v, Try.f8.params[j]? = some t → args[j]? = some v → Value.okWide Try.prog W .any base t v := hval0
  have hW' := hW
  obtain ⟨p, q, hA0, hV, rfl, hfz, hnd⟩ := hW
  have hA : DataW.TrodAll enc Try.prog W 0 (fun _ => true) true Try.f8.params.toList args.toList ds p := hA0
  rw [Try.params8] at hA hval
  obtain ⟨v0, vs0, d0, ds0, p0, q0, hargs, rfl, rfl, h0, r0⟩ := trodAll_cons hA
  obtain ⟨rfl, rfl, rfl⟩ := trodAll_nil r0
  obtain rfl : args = #[v0] := by cases args; simp_all
  obtain ⟨rfl, rfl⟩ := trodVars_none hV
  have k0 := h0
  have lt0 : ∀ x ∈ p0, x.block < W.heap.size := by obtain ⟨m, hm⟩ := k0; exact DataW.trod_lt m _ _ _ hm
  have o0 := hval 0 5 v0 rfl rfl
  obtain ⟨x, rfl, _, _, wx⟩ := open_int Try.underlying5 o0 h0
  have hx := bounds_u8 wx
  clear hA0 hval0
  refine (full_any x W hx.1 hx.2).mono fun e W' ⟨he, bel⟩ => ?_
  subst he
  exact ⟨_, rfl, _, _, _, [], _, [], hW', trodAll_mk1 (shut_bool Try.underlying4 _), (trodAll_cons_mk (Below.trod lineFull_laid (by kernel_rfl) (of_decide_eq_true (by kernel_rfl)) k0 bel lt0) trodAll_mk0), rfl, bel.frame _, fun h => by cases h⟩

theorem lineFull_proved : Rows.LineFullSaid :=
  OpenClaim.holds_of_wide 8 Try.f8 rfl rfl rfl rfl rfl rfl rfl ⟨rfl, rfl, rfl, rfl, rfl⟩ rfl rfl rfl rfl rfl (by kernel_rfl) Try.func8 (by kernel_rfl)
    (of_decide_eq_true (by kernel_rfl)) (by unfold Func.isWrapper; first | (rw [if_pos (by decide +kernel)]; kernel_rfl) | (rw [if_neg (by decide +kernel)]; exact ⟨rfl, rfl⟩))
    (fun os started H enc _ => lineFull_lifted os started H enc)
end Go.Proofs.Ytieoeednfgpoiaa
