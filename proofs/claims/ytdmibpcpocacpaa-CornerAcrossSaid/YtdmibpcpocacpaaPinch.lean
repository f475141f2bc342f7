/- certify.pinch, walked: vertices whose triangles aren't all connected. No condition. -/
import Derived.Test.YtdmibpcpocacpaaPinch1
namespace Go.Proofs.Ytdmibpcpocacpaa
open Go.RowKit

theorem ints_info : (Try.prog.info? 52).map (fun i => (i.zero, i.size, i.bytes)) = some (some (.slice none 0 0), 1, 24) := by kernel_rfl
theorem madeRows (m : Nat) : madeCells (Value.slice none 0 0).cells m = Array.replicate m (.slice none 0 0) := by
  apply Array.ext'
  refine List.ext_getElem? fun i => ?_
  by_cases hi : i < m
  · simp [madeCells, hi, Value.cells, Nat.mod_one]
  · simp [madeCells, hi, Value.cells]

set_option maxRecDepth 100000 in
set_option maxHeartbeats 8000000 in
theorem pinch_any (m : Nat) (A : Option Addr) (n c : Nat) (T : List Tri) (w : World) (hm : m ≤ 4096) (hn : n ≤ 1000) (ht : TrisAt w w.heap.size A n T) (hok : ∀ t ∈ T, TriOk m t) (huse : ∀ v, v < m → atL T n (v : Int) ≠ []) :
    Calls Try.prog 51 #[.agg #[.int .i64 m, .slice A n c]] w (WitPost w (picks 6 (fun v => !connB T (v : Int) (atL T n (v : Int))) m)) := by
  obtain ⟨i0, hi0, hz0, hz1, hz2⟩ := info_parts wit_info
  obtain ⟨i1, hi1, hy0, hy1, hy2⟩ := info_parts int_info
  obtain ⟨i2, hi2, hx0, hx1, hx2⟩ := info_parts ints_info
  have hmk := fun W => run_make_rowN (P := Try.prog) 80 52 i2 (.slice none 0 0) Try.underlying80 hi2 hx0 .i64 .i64 m m (Nat.le_refl _) (by rw [hx2]; omega) (by omega) W
  rw [hx1, Nat.mul_one, madeRows] at hmk
  have HT := Lib.hid ht
  have HOK := Lib.hid hok
  have HUSE := Lib.hid huse
  clear ht hok huse hx0 hx1 hx2
  go_enter Try.func51, Try.ntmps51
  go_wp2_with fail
  obtain ⟨W, hW⟩ : ∃ W, W = w.alloc (.cells #[.int .i64 m, .slice A n c] 24) := ⟨_, rfl⟩
  have HX : Hid (Blk W w.heap.size 24 #[.int .i64 m, .slice A n c]) := by subst hW; exact Lib.hid (Blk.new _ _ _)
  have HW : Hid (Below w.heap.size w W) := by subst hW; exact Lib.hid ((Below.refl _ _).alloc (Nat.le_refl _) _)
  have hws : w.heap.size < W.heap.size := HX.out.lt
  have hWs : W.heap.size = w.heap.size + 1 := by subst hW; simp
  rw [← hWs, ← hW]
  clear hW hWs hmk
  have HR0 : Hid (RowsAt (W.alloc (.cells (Array.replicate m (.slice none 0 0)) 52)) W.heap.size W.heap.size m (atL T 0) (Array.replicate m (.slice none 0 0)) (fun _ => none)) :=
    Lib.hid ⟨Blk.new _ _ _, by simp, fun v hv => by simp [hv], HadAt.start _ _ _⟩
  have HB0 : Hid (Below W.heap.size W (W.alloc (.cells (Array.replicate m (.slice none 0 0)) 52))) := Lib.hid ((Below.refl _ _).alloc (Nat.le_refl _) _)
  have HWE : Hid (∃ b, b = W.heap.size) := Lib.hid ⟨_, rfl⟩
  go_loopw [17] (fun iv wr => ∃ k : Nat, k ≤ n ∧ iv = .int .i64 k ∧ ∃ cells fe, Hid (RowsAt wr W.heap.size W.heap.size m (atL T k) cells fe) ∧ Hid (Below W.heap.size W wr)) (fun iv _ => n - (intOf iv).toNat)
  case atStart => exact ⟨0, by omega, rfl, _, _, HR0, HB0⟩
  case round =>
    obtain ⟨k, hk, rfl, cells, fe, HR, HB⟩ := hrel
    clear HR0 HB0
    have hwz := HB.out.size
    by_cases hlt : k < n
    · obtain ⟨ad, t, rfl, htk, htm, hadb, hc3⟩ := ((HT.out.below HW.out).below (HB.out.mono (Nat.le_of_lt hws))).at_ hlt
      obtain ⟨d0, d1, d2, d3, d4, d5⟩ := hc3
      have HEK := Lib.hid (atL_succ htk (HOK.out t htm))
      have htok := HOK.out t htm
      have HVR : Hid (∀ x ∈ verts t, 0 ≤ x ∧ x < (m : Int)) := by
        refine Lib.hid fun x hx => ?_
        obtain ⟨a0, a1, b0, b1, c0, c1, _, _, _⟩ := htok
        simp [verts] at hx
        rcases hx with rfl | rfl | rfl <;> omega
      have HAL : Hid (∀ y, (atL T k y).length ≤ 1000) := Lib.hid fun y => Nat.le_trans (atL_len T k y) (by omega)
      obtain ⟨ta, tb, tc⟩ := t
      have HVA := Lib.hid (fun j hj => verts_at ⟨ta, tb, tc⟩ (j := j) hj)
      generalize hvs : verts ⟨ta, tb, tc⟩ = vs at *
      have hvl : vs.length = 3 := by rw [← hvs]; rfl
      simp only at d0 d1 d2 d3 d4 d5
      have HVL := Lib.hid hvl
      generalize atL T k = Ek at *
      clear htk htm hvs hvl htok
      go_wp2_with fail
      have HRA := Lib.hid (HR.out.below ((Below.refl _ wr).alloc (Nat.le_refl _) (.cells #[.int .i64 ta, .int .i64 tb, .int .i64 tc] 50)))
      have HBA := Lib.hid (HB.out.alloc HB.out.size (.cells #[.int .i64 ta, .int .i64 tb, .int .i64 tc] 50))
      clear HR HB d0 d1 d2 d3 d4 d5
      obtain ⟨wB, rfl⟩ : ∃ wB : World, wB = wr := ⟨_, rfl⟩
      go_loopw [23] (fun jv wq => ∃ j : Nat, j ≤ 3 ∧ jv = .int .i64 j ∧ ∃ cells fe, Hid (RowsAt wq W.heap.size W.heap.size m ((vs.take j).foldl (addE (-1) k) Ek) cells fe) ∧ Hid (Below W.heap.size W wq)) (fun jv _ => 3 - (intOf jv).toNat)
      case atStart => exact ⟨0, by omega, rfl, _, _, HRA, HBA⟩
      case round =>
        obtain ⟨j, hj, rfl, cells2, fe2, HR2, HB2⟩ := hrel
        clear HRA HBA
        have hwz2 := HB2.out.size
        by_cases hjt : j < 3
        · obtain ⟨x, hx, hix⟩ := HVA.out j hjt
          have HES : Hid ((vs.take (j + 1)).foldl (addE (-1) k) Ek = addE (-1) k ((vs.take j).foldl (addE (-1) k) Ek) x) := Lib.hid (foldl_snoc_take _ _ _ _ hx)
          obtain ⟨hx0, hx1⟩ := HVR.out x (List.mem_of_getElem? hx)
          have hEl : ∀ y, ((vs.take j).foldl (addE (-1) k) Ek y).length ≤ 2000 := fun y => by
            have h1 := fold_len (i := k) (-1) (vs.take j) Ek y
            have h2 := HAL.out y
            have h3 : (vs.take j).length ≤ 3 := by rw [List.length_take, HVL.out]; omega
            omega
          generalize (vs.take j).foldl (addE (-1) k) Ek = Ej at *
          clear hx
          obtain ⟨xn, rfl⟩ := Int.eq_ofNat_of_zero_le hx0
          have hxm : xn < m := by omega
          have hel := hEl (xn : Int)
          obtain ⟨Ak, ck, hcell, hfe, hrow⟩ := HR2.out.row hxm
          have HFE := Lib.hid hfe
          have HROW := Lib.hid hrow
          have hgl := HR2.out.blk.lt
          clear hfe hrow hEl
          go_wp2_with (at_builtin; go_must (refine wpList_append_sl _ rfl (.tmp 31) (.tmp 33) _ rfl W.heap.size 3 i1 _ 1 8 Try.underlying52 hi1 hy0 hy1 hy2 rfl (by omega) (.slice Ak (Ej (xn : Int)).length ck) _ _ rfl (HROW.out.alloc _) (wr.heap.size + 1) (some ⟨wr.heap.size, 0, none⟩) 1 1 [.int .i64 (k : Int)] rfl (reads_newN _ _ _ 1 1 rfl rfl) (by simp [Value.oneCell']) (by simp only [maxLen]; omega) (by omega) (by simp; omega) ?_); intro A1 c1 w1 hown1 hg1 hat1; obtain ⟨hce, hfr, cells5, fe5, hr5⟩ := HR2.out.app hxm k HFE.out ((Below.refl _ _).alloc (Nat.le_refl _) _) hown1 hg1 hat1; have HR5 := Lib.hid hr5; have HG5 := Lib.hid hg1; clear hr5 hown1 hg1 hat1)
          refine ⟨⟨j + 1, by omega, by go_num, cells5, fe5, ?_, ?_⟩, by simp [intOf]; omega⟩
          · rw [HES.out]
            have e : addE (-1) k Ej (xn : Int) = fun y => if y = (xn : Int) then Ej (xn : Int) ++ [k] else Ej y := by unfold addE; rw [if_neg (by omega)]
            rw [e]
            exact HR5
          · refine Lib.hid ?_
            exact ((HB2.out.alloc HB2.out.size _).grown HG5.out (by simp; omega) fun i hi => (HROW.out.lt i hi).1).setCell (Nat.le_refl _) _
        · obtain rfl : j = 3 := by omega
          go_wp2_with fail
          refine ⟨⟨k + 1, by omega, by go_num, cells2, fe2, ?_, HB2⟩, by simp [intOf]; omega⟩
          have := HR2.out
          rw [List.take_of_length_le (by rw [HVL.out]; exact Nat.le_refl _), ← HEK.out] at this
          exact Lib.hid this
    · obtain rfl : k = n := by omega
      obtain ⟨V, rfl⟩ : ∃ V : World, V = wr := ⟨_, rfl⟩
      have HVB : Hid (Below w.heap.size w V) := Lib.hid (HW.out.trans (HB.out.mono (Nat.le_of_lt hws)))
      have hwV : w.heap.size < V.heap.size := by omega
      have HXV := Lib.hid (HX.out.below HB.out hws)
      clear hlt hk
      go_wp2_with fail
      go_loopw [8, 40] (fun lv iv wr => ∃ v : Nat, v ≤ m ∧ iv = .int .i64 v ∧ WitRel V wr (picks 6 (fun v => !connB T (v : Int) (atL T k (v : Int))) v) lv) (fun _ iv _ => m - (intOf iv).toNat)
      case atStart => exact ⟨0, by omega, rfl, WitRel.start0 _⟩
      case round =>
        obtain ⟨v, hv, rfl, A', c', rfl, HO, HBW⟩ := hrel
        by_cases hlt : v < m
        · have hr3 := HR.out.below HBW.out
          obtain ⟨Ak, ck, hcell, _, hrow⟩ := hr3.row hlt
          have b0 := (HXV.out.below HBW.out hwV).cell 0
          have b1 := (HXV.out.below HBW.out hwV).cell 1
          simp at b0 b1
          have HP := Lib.hid (picks_succ 6 (fun v => !connB T (v : Int) (atL T k (v : Int))) v)
          have hpl := picks_len 6 (fun v => !connB T (v : Int) (atL T k (v : Int))) v
          have hsz := HBW.out.size
          have HROW := Lib.hid hrow
          have hbe := HVB.out.trans (HBW.out.mono HVB.out.size)
          have HTG := Lib.hid (together_any m (v : Int) A Ak k c ck T (atL T k (v : Int)) wr hm hn ((HT.out.below hbe).more hbe.size) HOK.out (Reads.of_own hrow) (atL_nodup _ _ _) atL_lt (HUSE.out v hlt))
          clear hr3 hrow hbe
          go_wp2_with fail
          refine HTG.out.mono ?_
          rintro e w2 ⟨rfl, hb2⟩
          have hsz2 := hb2.size
          have HB2 := Lib.hid hb2
          have HO2 : Hid (WitRow w2 V.heap.size A' c' (picks 6 (fun v => !connB T (v : Int) (atL T k (v : Int))) v)) := Lib.hid (own_same HO.out fun i hi => hb2.block i (HO.out.lt i hi).2)
          have HBW2 := Lib.hid (HBW.out.trans (hb2.mono HBW.out.size))
          clear hb2 HTG
          cases hcb : connB T (v : Int) (atL T k (v : Int)) with
          | true =>
            have HCB := Lib.hid hcb
            clear hcb
            go_wp2_with fail
            refine ⟨⟨v + 1, by omega, by go_num, ?_⟩, by simp [intOf]; omega⟩
            rw [HP.out, if_neg (by rw [HCB.out]; decide)]
            exact ⟨A', c', rfl, HO2, HBW2⟩
          | false =>
            have HCB := Lib.hid hcb
            clear hcb
            go_wp2_with (at_builtin; go_must (refine wpList_append_sl _ rfl (.tmp 50) (.tmp 53) _ rfl V.heap.size 41 i0 _ 3 24 Try.underlying67 hi0 hz0 hz1 hz2 rfl (by omega) (.slice A' (picks 6 (fun v => !connB T (v : Int) (atL T k (v : Int))) v).length c') _ _ rfl (HO2.out.alloc _) (w2.heap.size + 1) (some ⟨w2.heap.size, 0, none⟩) 1 1 (w3 (6, (v : Int), 0)) rfl (reads_newN _ _ _ 1 3 rfl rfl) (by simp [w3, Value.oneCell']) (by simp only [maxLen]; omega) (by omega) (by simp; omega) ?_); intro A1 c1 w1 hown1 hg1 hat1)
            refine ⟨⟨v + 1, by omega, by go_num, ?_⟩, by simp [intOf]; omega⟩
            rw [HP.out, if_pos (by rw [HCB.out]; decide)]
            exact WitRel.grow HO2 HBW2 ((Below.refl _ _).alloc (Nat.le_refl _) _) hown1 hg1
        · obtain rfl : v = m := by omega
          go_wp2_with fail
          go_ret
          exact ⟨A', c', rfl, own_mono HO.out HVB.out.size, HVB.out.trans (HBW.out.mono HVB.out.size)⟩
end Go.Proofs.Ytdmibpcpocacpaa
