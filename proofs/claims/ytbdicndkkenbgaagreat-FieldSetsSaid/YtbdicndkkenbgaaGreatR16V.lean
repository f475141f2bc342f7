/- gypsumref16.Values, walked. No condition but sizes. -/
import Derived.Test.YtbdicndkkenbgaaGreatR16A
import Derived.Deep.QuietTactic
namespace Go.Proofs.YtbdicndkkenbgaaGreat
open Go.RowKit

set_option linter.unusedSimpArgs false
set_option linter.unusedVariables false
theorem take_snocN {L : List Nat} {k x : Nat} (h : L[k]? = some x) : L.take (k + 1) = L.take k ++ [x] := by
  have hk := (List.getElem?_eq_some_iff.1 h).1
  rw [List.take_succ_eq_append_getElem hk, (List.getElem?_eq_some_iff.1 h).2]
theorem take_snocI {L : List Int} {k : Nat} {x : Int} (h : L[k]? = some x) : L.take (k + 1) = L.take k ++ [x] := by
  have hk := (List.getElem?_eq_some_iff.1 h).1
  rw [List.take_succ_eq_append_getElem hk, (List.getElem?_eq_some_iff.1 h).2]
attribute [local irreducible] Blk LRow World.alloc World.setCell World.cell? World.frozen? MapV
set_option maxRecDepth 100000 in
set_option maxHeartbeats 8000000 in
theorem refValues_any (N : Int) (A : Option Addr) (c : Nat) (T : List Tri) (m : Nat) (v : Int) (L : List Nat) (Al : Option Addr) (cl : Nat) (LV : List Int) (w : World) (hT : T.length ≤ 1000) (hs : SurfE m T) (hr : RingL m T v L) (ht : TrisAt w w.heap.size A T.length T) (hn : LV.length = 3 * T.length) (hl : Reads w w.heap.size 1 Al LV.length (ZL LV)) :
    Calls Tryz.prog 27 #[.agg #[.int .i64 N, .slice A T.length c], .slice Al LV.length cl, .int .i64 v] w (ValPI (valsL (fun i => LV.getD i 0) L) w) := by
  have HT := Lib.hid ht
  have HL := Lib.hid hl
  have hLl := hr.len
  have HLT := Lib.hid hr.lt
  have HAR : Hid (∀ W, Below w.heap.size w W → Calls Tryz.prog 55 #[.agg #[.int .i64 N, .slice A T.length c], .int .i64 v] W (ValPI (L.map fun x : Nat => (x : Int)) W)) := Lib.hid fun W h => refAround_any N A c T m v L W hT hs hr ((ht.below h).more h.size)
  clear ht hl hs hr
  obtain ⟨V, hVf⟩ : ∃ V : Nat → Int, V = fun i => LV.getD i 0 := ⟨_, rfl⟩
  have HVV : Hid (∀ i, i < 3 * T.length → LV[i]? = some (V i)) := Lib.hid fun i hi => by
    rw [hVf]
    simp only
    rw [List.getD_eq_getElem?_getD, List.getElem?_eq_getElem (by omega)]
    rfl
  rw [← hVf]
  clear hVf
  obtain ⟨i0, hi0, hz0, hz1, hz2⟩ := info_parts int_infoC
  obtain ⟨V0, hV⟩ : ∃ V, V = w.alloc (.cells #[.int .i64 N, .slice A T.length c] 24) := ⟨_, rfl⟩
  have GA0 : Hid (Blk V0 w.heap.size 24 #[.int .i64 N, .slice A T.length c]) := by subst hV; exact Lib.hid (Blk.new _ _ _)
  have HB0 : Hid (Below w.heap.size w V0) := by subst hV; exact Lib.hid (bw_alloc (Below.refl _ _) _)
  go_enter Tryz.func27, Tryz.ntmps27
  go_upto_region 1 with (fail)
  rw [← hV]
  clear hV
  obtain ⟨ga, hga⟩ : ∃ g, g = w.heap.size := ⟨_, rfl⟩
  rw [← hga] at GA0
  simp only [← hga]
  clear hga
  obtain ⟨s0, s1, _, _, _⟩ := soup_facts GA0.out
  go_wp2_with fail
  refine (HAR.out V0 HB0.out).mono ?_
  rintro e w1 ⟨Aa, ca, rfl, hown, hb⟩
  have HB1 := Lib.hid (bw_call HB0.out hb)
  have hlm : (L.map fun x : Nat => (x : Int)).length = L.length := by simp
  rw [hlm] at hown ⊢
  have HA1 : Hid (Reads w1 w1.heap.size 1 Aa L.length ((L.map fun x : Nat => (x : Int)).flatMap cellsI)) := Lib.hid (Reads.of_own hown)
  clear hb hown GA0 HB0 s0 s1 HAR hlm
  go_wp2_with fail
  go_loopw [7, 9] (fun ov iv wr => ∃ (k : Nat) (A' : Option Addr) (c' : Nat), k ≤ L.length ∧ ov = .slice A' (valsL V (L.take k)).length c' ∧ iv = .int .i64 (k : Int) ∧ Hid (wr.ownsRow w1.heap.size 3 1 (.slice A' (valsL V (L.take k)).length c') (valsL V (L.take k)).length ((valsL V (L.take k)).flatMap cellsI)) ∧ Hid (Below w1.heap.size w1 wr)) (fun _ iv _ => L.length - (intOf iv).toNat)
  case atStart => exact ⟨0, none, 0, by omega, rfl, rfl, Lib.hid (World.ownsRow_nil _ _ _ _), Lib.hid (Below.refl _ _)⟩
  case round =>
    obtain ⟨k, A', c', hk, rfl, rfl, HOk, HCk⟩ := hrel
    obtain ⟨wB, hwB⟩ : ∃ wB : World, wB = wr := ⟨_, rfl⟩
    rw [← hwB] at HOk HCk ⊢
    clear hwB
    by_cases hlt : k < L.length
    rotate_left
    · obtain rfl : k = L.length := by omega
      have hki : ¬ (L.length : Int) < (L.length : Int) := by omega
      rw [List.take_length] at HOk ⊢
      go_wp2_with fail
      go_ret
      exact ⟨A', c', rfl, own_mono HOk.out HB1.out.size, bw_call HB1.out HCk.out⟩
    have hki : (k : Int) < (L.length : Int) := by omega
    obtain ⟨x, hx⟩ : ∃ x, L[k]? = some x := ⟨_, List.getElem?_eq_getElem hlt⟩
    have hx3 : x < 3 * T.length := HLT.out x (List.mem_of_getElem? hx)
    have hxi : (x : Int) < (LV.length : Int) := by omega
    have HNX := Lib.hid (show valsL V (L.take (k + 1)) = if V x ∈ valsL V (L.take k) then valsL V (L.take k) else valsL V (L.take k) ++ [V x] by rw [take_snocN hx]; exact valsL_snoc _ _)
    have hpl := valsL_len (l := V) (L.take k)
    rw [List.length_take] at hpl
    obtain ⟨pr, HPR⟩ : ∃ pr, Hid (valsL V (L.take k) = pr) := ⟨_, Lib.hid rfl⟩
    rw [HPR.out] at HNX HOk hpl ⊢
    have HBW := Lib.hid (bw_call HB1.out HCk.out)
    obtain ⟨adl, z, rfl, hbl, hz, hlc⟩ := zl_read ((HL.out.below HBW.out)) (show x < LV.length by omega)
    rw [HVV.out x hx3] at hz
    injection hz with hz
    subst hz
    obtain ⟨ada, rfl, hac⟩ := readCI (HA1.out.below HCk.out) (show (L.map fun x : Nat => (x : Int))[k]? = some (x : Int) by rw [List.getElem?_map, hx]; rfl)
    have HRO := Lib.hid (Reads.of_own HOk.out)
    clear hbl hx
    go_wp2_with fail
    go_loopw [10, 11] (fun bv jv wr => ∃ j d : Nat, j ≤ pr.length ∧ bv = .bool (decide (V x ∈ pr.take j)) ∧ jv = .int .i64 (j : Int) ∧ wr = wB.drewN d) (fun _ jv _ => pr.length - (intOf jv).toNat)
    case atStart => exact ⟨0, 0, by omega, by simp, rfl, rfl⟩
    case round =>
      obtain ⟨j, d, hj, rfl, rfl, hwr⟩ := hrel
      rw [hwr]
      clear hwr
      by_cases hjl : j < pr.length
      · have hji : (j : Int) < (pr.length : Int) := by omega
        obtain ⟨y, hy⟩ : ∃ y, pr[j]? = some y := ⟨_, List.getElem?_eq_getElem hjl⟩
        obtain ⟨ado, rfl, hoc⟩ := readCI HRO.out hy
        have HTJ := Lib.hid (take_snocI hy)
        clear hy
        by_cases hm : V x ∈ pr.take j
        · rw [decide_eq_true hm]
          have HM : Hid (V x ∈ pr.take (j + 1)) := Lib.hid (by rw [HTJ.out, List.mem_append]; exact .inl hm)
          clear hm
          go_wp2_with fail
          go_quiet (fail)
          go_wp2_with fail
          exact ⟨⟨j + 1, _, by omega, by rw [decide_eq_true HM.out], by go_num, rfl⟩, by simp [intOf]; omega⟩
        · rw [decide_eq_false hm]
          have HM : Hid (V x ∈ pr.take (j + 1) ↔ y = V x) := Lib.hid (by
            rw [HTJ.out, List.mem_append, List.mem_singleton]
            exact ⟨fun h => (h.resolve_left hm).symm, fun h => .inr h.symm⟩)
          clear hm
          by_cases hyx : y = V x
          · have hyb : (y == V x) = true := by rw [beq_iff_eq]; exact hyx
            have HM1 := Lib.hid (HM.out.2 hyx)
            clear hyx HM
            go_wp2_with fail
            go_quiet (fail)
            go_wp2_with fail
            exact ⟨⟨j + 1, _, by omega, by rw [decide_eq_true HM1.out], by go_num, rfl⟩, by simp [intOf]; omega⟩
          · have hyb : (y == V x) = false := by rw [beq_eq_false_iff_ne]; exact hyx
            have HM1 := Lib.hid (fun h => hyx (HM.out.1 h))
            clear hyx HM
            go_wp2_with fail
            go_quiet (fail)
            go_wp2_with fail
            exact ⟨⟨j + 1, _, by omega, by rw [decide_eq_false HM1.out], by go_num, rfl⟩, by simp [intOf]; omega⟩
      obtain rfl : j = pr.length := by omega
      have hji : ¬ (pr.length : Int) < (pr.length : Int) := by omega
      rw [List.take_length]
      by_cases hm : V x ∈ pr
      · rw [decide_eq_true hm]
        rw [if_pos hm] at HNX
        clear hm
        go_wp2_with fail
        exact ⟨⟨k + 1, A', c', by omega, by rw [HNX.out], by go_num, Lib.hid (by rw [HNX.out]; exact HOk.out), Lib.hid (below_drewN HCk.out _)⟩, by simp [intOf]; omega⟩
      · rw [decide_eq_false hm]
        rw [if_neg hm] at HNX
        clear hm
        obtain ⟨wC, hwC⟩ : ∃ wC, wC = wB.drewN d := ⟨_, rfl⟩
        have hac' : wC.cell? (ada.add k) = some (.int .i64 (x : Int)) := by rw [hwC]; exact (World.cell?_drewN _ _ _).trans hac
        have hlc' : wC.cell? (adl.add x) = some (.int .i64 (V x)) := by rw [hwC]; exact (World.cell?_drewN _ _ _).trans hlc
        have HOC : Hid (wC.ownsRow w1.heap.size 3 1 (.slice A' pr.length c') pr.length (pr.flatMap cellsI)) := by rw [hwC]; exact Lib.hid HOk.out
        have HCC : Hid (Below w1.heap.size w1 wC) := by rw [hwC]; exact Lib.hid (below_drewN HCk.out _)
        rw [← hwC]
        clear hwC hac hlc HOk HCk HRO
        have HBE : Hid (Below w1.heap.size w1 (wC.alloc (.cells #[.int .i64 (V x)] 3))) := Lib.hid (bw_alloc HCC.out _)
        have HOE : Hid ((wC.alloc (.cells #[.int .i64 (V x)] 3)).ownsRow w1.heap.size 3 1 (.slice A' pr.length c') pr.length (pr.flatMap cellsI)) := Lib.hid (own_same HOC.out fun k hk => Below.heap_alloc _ _ k (HOC.out.lt k hk).2)
        go_upto_region 5 with (at_builtin; go_must (refine wpList_append_sl _ rfl (.tmp 44) (.tmp 52) _ rfl w1.heap.size 3 i0 _ 1 8 Tryz.underlying46 hi0 hz0 hz1 hz2 rfl (by omega) (.slice A' pr.length c') pr.length (pr.flatMap cellsI) rfl HOE.out (wC.heap.size + 1) (some ⟨wC.heap.size, 0, none⟩) 1 1 [.int .i64 (V x)] rfl (reads_new wC #[.int .i64 (V x)] 3 1 1 rfl) (by intro u hu; simp at hu; subst hu; rfl) (by simp only [maxLen]; omega) (by omega) (bw_size HBE.out) ?_); intro A5 c5 w5 hown5 hg5 hat5)
        have HON : Hid (w5.ownsRow w1.heap.size 3 1 (.slice A5 (pr ++ [V x]).length c5) (pr ++ [V x]).length ((pr ++ [V x]).flatMap cellsI)) := Lib.hid (by
          rw [List.length_append, List.flatMap_append]
          exact hown5)
        have HBN : Hid (Below w1.heap.size w1 w5) := Lib.hid (bw_grow HBE.out hg5 fun q hq => (HOE.out.lt q hq).1)
        have hln : (pr ++ [V x]).length = pr.length + 1 := by simp
        clear hown5 hg5 hat5 HOE HBE HOC HCC
        go_wp2_with fail
        exact ⟨⟨k + 1, A5, c5, by omega, by rw [HNX.out, hln], by go_num, Lib.hid (by rw [HNX.out]; exact HON.out), HBN⟩, by simp [intOf]; omega⟩
end Go.Proofs.YtbdicndkkenbgaaGreat
