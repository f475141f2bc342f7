/- The law SymmetryGroups, walked: it holds. No condition. -/
import Derived.Test.YtiajlmajenabiaaGreatSymA
namespace Go.Proofs.YtiajlmajenabiaaGreat
open Go.RowKit

set_option linter.unusedSimpArgs false
set_option linter.unusedVariables false
theorem idL_succ (i : Nat) : idL (i + 1) = idL i ++ [(i : Int)] := by
  unfold idL
  rw [List.range_succ, List.map_append]
  rfl
attribute [local irreducible] Blk World.alloc World.setCell World.cell? World.frozen? MapV MapI
set_option maxRecDepth 100000 in
set_option maxHeartbeats 8000000 in
theorem lawGroups_any (N : Int) (A : Option Addr) (c : Nat) (T : List Tri) (w : World) (ht : TrisAt w w.heap.size A T.length T) :
    Calls Tryz.prog 10 #[.agg #[.int .i64 N, .slice A T.length c]] w (BoolPost w true) := by
  have HT := Lib.hid ht
  clear ht
  obtain ⟨i0, hi0, hz0, hz1, hz2⟩ := info_parts int_infoC
  obtain ⟨k, hk⟩ : ∃ k, k = T.length := ⟨_, rfl⟩
  rw [← hk] at HT ⊢
  have HK := Lib.hid hk
  clear hk
  go_enter Tryz.func10, Tryz.ntmps10
  go_upto_region 1 with (fail)
  obtain ⟨wA, hwA⟩ : ∃ U, U = w.alloc (.cells #[.int .i64 N, .slice A k c] 24) := ⟨_, rfl⟩
  have K1A : Hid (Blk wA w.heap.size 24 #[.int .i64 N, .slice A k c]) := by subst hwA; exact Lib.hid (Blk.new _ _ _)
  have HBA : Hid (Below w.heap.size w wA) := by subst hwA; exact Lib.hid (bw_alloc (Below.refl _ _) _)
  rw [← hwA]
  obtain ⟨b1, hb1⟩ : ∃ b, b = w.heap.size := ⟨_, rfl⟩
  have HG1 : Hid (w.heap.size ≤ b1) := Lib.hid (by omega)
  rw [← hb1] at K1A
  simp only [← hb1]
  clear hwA hb1
  have HAW := Lib.hid (awake_any wA)
  go_wp2_with fail
  refine HAW.out.mono ?_
  rintro e w1 ⟨rfl, hb⟩
  have HB1 := Lib.hid (bw_call HBA.out hb)
  have K11 := Lib.hid (K1A.out.below hb K1A.out.lt)
  clear hb HAW K1A HBA
  have p0 : w1.cell? ⟨b1, 0, none⟩ = some (.int .i64 N) := K11.out.cell 0
  have p1 : w1.cell? ⟨b1, 1, none⟩ = some (.slice A k c) := K11.out.cell 1
  have HGR := Lib.hid (great47_any N A k c w1)
  by_cases hbig : big47 N k
  · rw [if_pos hbig] at HGR
    go_wp2_with fail
    refine HGR.out.mono ?_
    rintro e w2 ⟨rfl, hb⟩
    have HB2 := Lib.hid (bw_call HB1.out hb)
    clear hb
    go_wp2_with fail
    go_ret
    exact ⟨rfl, HB2.out⟩
  rw [if_neg hbig] at HGR
  have hk14 : k ≤ 14 := by unfold big47 at hbig; omega
  clear hbig
  go_wp2_with fail
  refine HGR.out.mono ?_
  rintro e w2 ⟨rfl, hb⟩
  have HB2 := Lib.hid (bw_call HB1.out hb)
  have K12 := Lib.hid (K11.out.below hb K11.out.lt)
  clear hb HGR K11 HB1 p0 p1
  have p0 : w2.cell? ⟨b1, 0, none⟩ = some (.int .i64 N) := K12.out.cell 0
  have p1 : w2.cell? ⟨b1, 1, none⟩ = some (.slice A k c) := K12.out.cell 1
  have HAL : Hid (Calls Tryz.prog 25 #[.agg #[.int .i64 N, .slice A k c]] w2 (AllAny w2 N T)) := Lib.hid (by
    have := symAll_any N A c T w2 (by have := HK.out; omega) (by rw [← HK.out]; exact tris_on HB2.out HT.out)
    rw [← HK.out] at this
    exact this)
  go_wp2_with fail
  refine HAL.out.mono ?_
  rintro e w3 ⟨Al, cl, ws, er, rfl, hI, hws, hb⟩
  have HB3 := Lib.hid (bw_call HB2.out hb)
  have K13 := Lib.hid (K12.out.below hb K12.out.lt)
  have HWS := Lib.hid hws
  have HG3 : Hid (w.heap.size ≤ w2.heap.size) := Lib.hid HB2.out.size
  clear hb hws HAL p0 p1 K12 HB2
  cases hI with
  | no _ =>
    go_wp2_with fail
    go_ret
    exact ⟨rfl, HB3.out⟩
  | full m _ _ _ =>
    go_wp2_with fail
    go_ret
    exact ⟨rfl, HB3.out⟩
  | yes m ws hN hs hle hp ho =>
    subst hN
    have HS := Lib.hid hs
    have HP := Lib.hid hp
    have HO := Lib.hid ho
    obtain ⟨nw, hnw⟩ : ∃ n, n = ws.length := ⟨_, rfl⟩
    have HNW := Lib.hid hnw
    rw [← hnw]
    have hm := hs.m1
    clear hs hp ho hle hnw
    by_cases h60 : 60 < nw
    · have h60i : (60 : Int) < (nw : Int) := by omega
      go_wp2_with fail
      go_ret
      exact ⟨rfl, HB3.out⟩
    have h60i : ¬ (60 : Int) < (nw : Int) := by omega
    go_wp2_with fail
    go_loopw [5, 6] (fun sv iv wr => ∃ (i : Nat) (A5 : Option Addr) (c5 : Nat), i ≤ m ∧ sv = .slice A5 i c5 ∧ iv = .int .i64 (i : Int) ∧ Hid (wr.ownsRow w3.heap.size 3 1 (.slice A5 i c5) i (ZL (idL i))) ∧ Hid (Below w3.heap.size w3 wr)) (fun _ iv _ => m - (intOf iv).toNat)
    case atStart => exact ⟨0, none, 0, by omega, rfl, rfl, Lib.hid (World.ownsRow_nil _ _ _ _), Lib.hid (Below.refl _ _)⟩
    case round =>
      obtain ⟨i, A5, c5, him, rfl, rfl, HOr, HBr⟩ := hrel
      obtain ⟨wE, hwE⟩ : ∃ wE : World, wE = wr := ⟨_, rfl⟩
      rw [← hwE] at HOr HBr ⊢
      clear hwE
      have K1E := Lib.hid (K13.out.below HBr.out K13.out.lt)
      have p0 : wE.cell? ⟨b1, 0, none⟩ = some (.int .i64 (m : Int)) := K1E.out.cell 0
      by_cases hin : i < m
      · have hii : (i : Int) < (m : Int) := by omega
        go_wp2_with (at_builtin; go_must (refine wpList_append_sl _ rfl (.tmp 30) (.tmp 32) _ rfl w3.heap.size 3 i0 _ 1 8 Tryz.underlying25 hi0 hz0 hz1 hz2 rfl (by omega) (.slice A5 i c5) i (ZL (idL i)) rfl (own_up HOr.out _) (wE.heap.size + 1) (some ⟨wE.heap.size, 0, none⟩) 1 1 [.int .i64 (i : Int)] rfl (reads_newN _ _ _ 1 1 rfl rfl) (by simp [Value.oneCell']) (by simp only [maxLen]; omega) (by omega) (bw_size (bw_alloc HBr.out _)) ?_); intro A6 c6 w5 hown5 hg5 hat5)
        have HO5 : Hid (w5.ownsRow w3.heap.size 3 1 (.slice A6 (i + 1) c6) (i + 1) (ZL (idL (i + 1)))) := Lib.hid (by
          rw [idL_succ]
          unfold ZL at hown5 ⊢
          rw [List.map_append]
          exact hown5)
        have HB5 : Hid (Below w3.heap.size w3 w5) := Lib.hid (bw_grow (bw_alloc HBr.out _) hg5 fun x hx => (World.ownsRow.lt HOr.out x hx).1)
        go_roundw
        case rel => exact ⟨i + 1, A6, c6, by omega, rfl, by go_num, HO5, HB5⟩
        case measure => simp [intOf]; omega
      · obtain rfl : i = m := by omega
        have hii : ¬ (i : Int) < (i : Int) := by omega
        obtain ⟨hg1, hg2, l, hl⟩ := all_group HS.out HP.out HO.out
        have hbd : ∀ a ∈ ws, a.length ≤ 4096 := fun a ha => by
          have := (allR_iff HS.out a).1 (HP.out.mem_iff.1 ha)
          rw [this.len]
          exact hm
        obtain ⟨L, e1, r1⟩ := ways_in HWS.out hbd
        have hLl : L.length = nw := by rw [HNW.out, ← e1, List.length_map]
        have hpos : 0 < nw := by rw [HNW.out, hl]; simp
        have hpi : (0 : Int) < (nw : Int) := by omega
        have HR : Hid (RowsIn wE wE.heap.size Al nw L) := Lib.hid (by rw [← hLl]; exact (r1.below HBr.out).more HBr.out.size)
        have hmy : ∀ x ∈ L, x.2.length ≤ 100000 := fun x hx => by have := hbd x.2 (by rw [← e1]; exact List.mem_map_of_mem hx); omega
        obtain ⟨ad, hA, hLi, hmem, y, _⟩ := HR.out.at_ (k := 0) hpos
        obtain ⟨x, hx⟩ : ∃ x, x = wayAt L 0 := ⟨_, rfl⟩
        rw [← hx] at hLi hmem y
        have hxl : x.2 = idL i := by
          have e2 : (L.map Prod.snd)[0]? = (idL i :: l)[0]? := by rw [e1, hl]
          rw [List.getElem?_map, hLi] at e2
          simpa using e2
        have hr := HR.out.each x hmem
        have HEQ : Hid (Calls Tryz.prog 33 #[wayC x, .slice A5 i c5] wE (BoolPost wE true)) := Lib.hid (by
          have := refInts_any x.2 (idL i) wE.heap.size wE.heap.size x.1.1 A5 x.1.2 c5 wE (by have := hmy x hmem; omega) hr.1 (by rw [idL_len]; exact Reads.of_own HOr.out)
          rw [decide_eq_true hxl, idL_len] at this
          refine this.mono ?_
          rintro e w' ⟨rfl, q, rfl⟩
          exact ⟨rfl, below_drewN (Below.refl _ _) _⟩)
        have HGA : Hid (∀ W, Below wE.heap.size wE W → Calls Tryz.prog 31 #[.int .i64 (i : Int), .slice Al nw cl] W (BoolPost W true)) := Lib.hid fun W hW => by
          have := group_any (i : Int) Al cl L W (by omega) hmy (by rw [hLl]; exact (HR.out.below hW).more hW.size)
          rw [hLl, e1, decide_eq_true hg1] at this
          exact this
        have HGB : Hid (∀ W, Below wE.heap.size wE W → Calls Tryz.prog 31 #[.int .i64 ((i : Int) + 1), .slice Al nw cl] W (BoolPost W false)) := Lib.hid fun W hW => by
          have := group_any ((i : Int) + 1) Al cl L W (by omega) hmy (by rw [hLl]; exact (HR.out.below hW).more hW.size)
          rw [hLl, e1, decide_eq_false hg2] at this
          exact this
        have HB4 : Hid (Below w.heap.size w wE) := Lib.hid (bw_call HB3.out HBr.out)
        obtain ⟨⟨xa, xc⟩, xl⟩ := x
        unfold wayC at y HEQ
        dsimp only at y HEQ
        obtain ⟨nx, hnx⟩ : ∃ n, n = xl.length := ⟨_, rfl⟩
        rw [← hnx] at y HEQ
        subst hA
        have had : ad.add 0 = ad := by obtain ⟨x1, x2, x3⟩ := ad; cases x3 <;> simp [Addr.add]
        rw [had] at y
        clear had hg1 hg2 hl hbd e1 r1 hLl hmy hx hLi hmem hxl hr hnx hpos
        have hw1 : IntKind.i64.wrap ((i : Int) + 1) = (i : Int) + 1 := IntWalk.i64_in _ (by omega)
        go_wp2_with fail
        refine HEQ.out.mono ?_
        rintro e w5 ⟨rfl, hb⟩
        have HB5 := Lib.hid hb
        have K15 := Lib.hid (K1E.out.below hb K1E.out.lt)
        clear hb p0
        have p0 : w5.cell? ⟨b1, 0, none⟩ = some (.int .i64 (i : Int)) := K15.out.cell 0
        have HG5 := Lib.hid (HGA.out w5 HB5.out)
        go_wp2_with fail
        refine HG5.out.mono ?_
        rintro e w6 ⟨rfl, hb⟩
        have HB6 := Lib.hid (bw_call HB5.out hb)
        have K16 := Lib.hid (K15.out.below hb K15.out.lt)
        clear hb p0
        have p0 : w6.cell? ⟨b1, 0, none⟩ = some (.int .i64 (i : Int)) := K16.out.cell 0
        have HG6 := Lib.hid (HGB.out w6 HB6.out)
        go_wp2_with fail
        refine HG6.out.mono ?_
        rintro e w7 ⟨rfl, hb⟩
        have HB7 := Lib.hid (bw_call HB4.out (bw_call HB6.out hb))
        clear hb
        go_wp2_with fail
        go_ret
        exact ⟨rfl, HB7.out⟩
theorem lawGroupsN_any (N : Int) (A : Option Addr) (n c : Nat) (T : List Tri) (w : World) (ht : TrisAt w w.heap.size A n T) :
    Calls Tryz.prog 10 #[.agg #[.int .i64 N, .slice A n c]] w (BoolPost w true) := by
  obtain rfl : n = T.length := ht.len.symm
  exact lawGroups_any N A c T w ht
end Go.Proofs.YtiajlmajenabiaaGreat
