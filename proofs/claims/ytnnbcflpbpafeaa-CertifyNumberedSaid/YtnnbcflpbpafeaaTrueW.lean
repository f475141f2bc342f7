/- CertifyTrue, walked. No condition. -/
import Derived.Test.YtnnbcflpbpafeaaTrue9
import Derived.Test.YtnnbcflpbpafeaaWake9
namespace Go.Proofs.Ytnnbcflpbpafeaa
open Go.RowKit

theorem great_ex2 {N : Int} {A : Option Addr} {n c : Nat} {w : World} (b : Bool) (h : (decide (40 < n) || decide (40 < N)) = b) : Calls Try.prog 12 #[.agg #[.int .i64 N, .slice A n c]] w fun e w' => e = .returned (.bool b) ∧ Below w.heap.size w w' := by
  subst h
  exact great_any N A n c w
/-- The two arguments' blocks, and what lies below. -/
structure TwoBlk (w wr : World) (g : Nat) (N s x y z : Value) : Prop where
  s : Blk wr g 24 #[N, s]
  x : Blk wr (g + 1) 34 #[x, y, z]
  below : Below w.heap.size w wr
theorem TwoBlk.on {w wr w' : World} {g : Nat} {N s x y z : Value} (h : TwoBlk w wr g N s x y z) (hb : Below wr.heap.size wr w') : TwoBlk w w' g N s x y z :=
  ⟨h.s.below hb h.s.lt, h.x.below hb h.x.lt, h.below.trans (hb.mono h.below.size)⟩
theorem TwoBlk.cells {w wr : World} {g : Nat} {N s x y z : Value} (h : TwoBlk w wr g N s x y z) :
    wr.cell? ⟨g, 0, none⟩ = some N ∧ wr.cell? ⟨g, 1, none⟩ = some s ∧ wr.cell? ⟨g + 1, 0, none⟩ = some x ∧ wr.cell? ⟨g + 1, 1, none⟩ = some y ∧ wr.cell? ⟨g + 1, 2, none⟩ = some z :=
  ⟨h.s.cell 0, h.s.cell 1, h.x.cell 0, h.x.cell 1, h.x.cell 2⟩

set_option maxRecDepth 100000 in
set_option maxHeartbeats 8000000 in
theorem trueLaw_any (N : Int) (A : Option Addr) (n c : Nat) (T : List Tri) (x : Int × Int × Int) (w : World) (ht : TrisAt w w.heap.size A n T) :
    Calls Try.prog 10 #[.agg #[.int .i64 N, .slice A n c], wv x] w (TrueB w) := by
  obtain rfl : n = T.length := ht.len.symm
  obtain ⟨xa, xb, xc⟩ := x
  have HTR := Lib.hid fun y w hn h => true_any N A T.length c T y w hn h
  simp only [wv] at HTR ⊢
  have HT := Lib.hid ht
  clear ht
  go_enter Try.func10, Try.ntmps10
  go_wp2_with fail
  obtain ⟨W, hW⟩ : ∃ W, W = (w.alloc (.cells #[.int .i64 N, .slice A T.length c] 24)).alloc (.cells #[.int .i64 xa, .int .i64 xb, .int .i64 xc] 34) := ⟨_, rfl⟩
  have H0 : Hid (TwoBlk w W w.heap.size (.int .i64 N) (.slice A T.length c) (.int .i64 xa) (.int .i64 xb) (.int .i64 xc)) := by
    subst hW
    exact Lib.hid ⟨(Blk.new _ _ _).alloc _, Blk.new_ (by simp) _ _, ((Below.refl _ _).alloc (Nat.le_refl _) _).alloc (by simp) _⟩
  rw [← hW]
  clear hW
  generalize w.heap.size = g at H0 ⊢
  refine (awake_any _).mono ?_
  rintro e w1 ⟨rfl, hb⟩
  have H1 := Lib.hid (H0.out.on hb)
  clear hb H0
  obtain ⟨c0, c1, c2, c3, c4⟩ := H1.out.cells
  by_cases hgr : (decide (40 < T.length) || decide (40 < N)) = true
  · go_wp2_with fail
    refine (great_ex2 true hgr).mono ?_
    rintro e w2 ⟨rfl, hb⟩
    have H2 := Lib.hid (H1.out.on hb)
    clear hb H1 c0 c1 c2 c3 c4
    go_wp2_with fail
    refine (awake_any _).mono ?_
    rintro e w3 ⟨rfl, hb⟩
    have H3 := Lib.hid (H2.out.on hb)
    clear hb H2
    go_wp2_with fail
    go_ret
    exact ⟨rfl, H3.out.below⟩
  · have hgf : (decide (40 < T.length) || decide (40 < N)) = false := by cases h : (decide (40 < T.length) || decide (40 < N)) with | true => exact absurd h hgr | false => rfl
    have hn40 : T.length ≤ 1000 := by simp at hgr; omega
    clear hgr
    go_wp2_with fail
    refine (great_ex2 false hgf).mono ?_
    rintro e w2 ⟨rfl, hb⟩
    have H2 := Lib.hid (H1.out.on hb)
    clear hb H1 c0 c1 c2 c3 c4 hgf
    obtain ⟨c0, c1, c2, c3, c4⟩ := H2.out.cells
    go_wp2_with fail
    refine (rall_any N A T.length c T w2 hn40 ((HT.out.below H2.out.below).more H2.out.below.size)).mono ?_
    rintro e w7 ⟨A7, c7, rfl, hr7, hb7⟩
    have H7 := Lib.hid (H2.out.on hb7)
    have HM7 := Lib.hid (wits_at hr7)
    have hml := row_len hr7
    clear hb7 hr7 H2 c0 c1 c2 c3 c4
    obtain ⟨R, hR⟩ : ∃ R, R = refAll N T := ⟨_, rfl⟩
    have HRR := Lib.hid hR
    rw [← hR] at HM7 hml ⊢
    clear hR
    have hm2 : R.length ≤ 9223372036854775807 := hml
    clear hml
    go_wp2_with fail
    go_loopw [5, 20] (fun tv iv wr => ∃ k : Nat, k ≤ R.length ∧ iv = .int .i64 k ∧ tv = .bool (decide ((xa, xb, xc) ∈ R.take k)) ∧ Hid (Below w7.heap.size w7 wr)) (fun _ iv _ => R.length - (intOf iv).toNat)
    case atStart => exact ⟨0, by omega, rfl, by simp, Lib.hid (Below.refl _ _)⟩
    case round =>
      obtain ⟨k, hk, rfl, rfl, HB⟩ := hrel
      by_cases hlt : k < R.length
      · obtain ⟨ad, t, rfl, htk, _, hadb, hc3⟩ := (HM7.out.below HB.out).at_ hlt
        obtain ⟨d0, d1, d2, d3, d4, d5⟩ := hc3
        obtain ⟨ta, tb, tc⟩ := t
        have hLk : R[k]? = some (ta, tb, tc) := by
          rw [List.getElem?_map] at htk
          cases h : R[k]? with
          | none => rw [h] at htk; cases htk
          | some y =>
            obtain ⟨y1, y2, y3⟩ := y
            rw [h] at htk
            simp [asTri] at htk
            obtain ⟨rfl, rfl, rfl⟩ := htk
            rfl
        have HTK := Lib.hid (take_snoc_ R k hLk)
        have H8 := Lib.hid (H7.out.on HB.out)
        obtain ⟨c0, c1, c2, c3, c4⟩ := H8.out.cells
        have hg1 := H8.out.x.lt
        have hg2 : g + 1 < wr.heap.size + 1 := by omega
        have hk0 : (0 : Int) ≤ (k : Int) := by omega
        have hk1 : (k : Int) < (R.length : Int) := by omega
        have hadb1 : (ad.add (k * 3)).block < wr.heap.size := by
          rw [block_of_add]
          exact Nat.lt_of_lt_of_le hadb HB.out.size
        have hadb2 : (ad.add (k * 3)).block < wr.heap.size + 1 := by omega
        simp only at d0 d1 d2 d3 d4 d5
        have hrun := fun w => run_eq_wit (xa, xb, xc) (ta, tb, tc) w
        simp only [wv] at hrun
        clear htk hLk
        have HE : Hid (decide ((xa, xb, xc) ∈ R.take (k + 1)) = (decide ((xa, xb, xc) ∈ R.take k) || decide ((xa, xb, xc) = (ta, tb, tc)))) := Lib.hid (by
          rw [HTK.out, Bool.eq_iff_iff]
          simp only [Bool.or_eq_true, decide_eq_true_eq, List.mem_append, List.mem_singleton])
        generalize decide ((xa, xb, xc) = (ta, tb, tc)) = b2 at *
        generalize decide ((xa, xb, xc) ∈ R.take k) = b1 at *
        go_wp2_with fail
        all_goals
          refine ⟨⟨k + 1, by omega, by go_num, ?_, Lib.hid (HB.out.alloc HB.out.size _)⟩, by simp [intOf]; omega⟩
          rw [HE.out]
          simp [*]
      · obtain rfl : k = R.length := by omega
        have H8 := Lib.hid (H7.out.on HB.out)
        have HTB := Lib.hid (HTR.out (xa, xb, xc))
        rw [← HRR.out] at HTB
        rw [List.take_length]
        clear H7 HM7 HB
        generalize decide ((xa, xb, xc) ∈ R) = b at *
        obtain ⟨wB, hwB⟩ : ∃ wB : World, wB = wr := ⟨_, rfl⟩
        rw [← hwB] at H8 ⊢
        clear hwB
        have HTW := Lib.hid ((HT.out.below H8.out.below).more H8.out.below.size)
        obtain ⟨c0, c1, c2, c3, c4⟩ := H8.out.cells
        have HTC := Lib.hid (HTB.out wB hn40 HTW.out)
        clear HTB
        go_wp2_with fail
        refine HTC.out.mono ?_
        rintro e w9 ⟨rfl, hb⟩
        have H9 := Lib.hid (H8.out.on hb)
        clear hb H8 HTC HTW c0 c1 c2 c3 c4
        obtain ⟨c0, c1, c2, c3, c4⟩ := H9.out.cells
        have HTW := Lib.hid ((HT.out.below H9.out.below).more H9.out.below.size)
        have HALL := Lib.hid (all_any N A T.length c T w9 hn40 HTW.out)
        rw [allL_ref, ← HRR.out] at HALL
        go_wp2_with fail
        refine HALL.out.mono ?_
        rintro e wA ⟨A6, c6, rfl, hr6, hb⟩
        have HA := Lib.hid (H9.out.on hb)
        have HMA := Lib.hid (wits_at hr6)
        clear hb hr6 H9 HTW HALL c0 c1 c2 c3 c4
        go_wp2_with fail
        go_loopw [39] (fun iv wz => ∃ k : Nat, k ≤ R.length ∧ iv = .int .i64 k ∧ Hid (Below wA.heap.size wA wz)) (fun iv _ => R.length - (intOf iv).toNat)
        case atStart => exact ⟨0, by omega, rfl, Lib.hid (Below.refl _ _)⟩
        case round =>
          obtain ⟨k, hk, rfl, HB⟩ := hrel
          by_cases hlt : k < R.length
          · obtain ⟨ad, t, rfl, htk, _, hadb, hc3⟩ := (HMA.out.below HB.out).at_ hlt
            obtain ⟨d0, d1, d2, d3, d4, d5⟩ := hc3
            obtain ⟨ta, tb, tc⟩ := t
            have hLk : R[k]? = some (ta, tb, tc) := by
              rw [List.getElem?_map] at htk
              cases h : R[k]? with
              | none => rw [h] at htk; cases htk
              | some y =>
                obtain ⟨y1, y2, y3⟩ := y
                rw [h] at htk
                simp [asTri] at htk
                obtain ⟨rfl, rfl, rfl⟩ := htk
                rfl
            have hmem : (ta, tb, tc) ∈ refAll N T := by rw [← HRR.out]; exact List.mem_of_getElem? hLk
            have HKD := Lib.hid (check_kind hmem)
            have HTB := Lib.hid (HTR.out (ta, tb, tc))
            rw [decide_eq_true hmem] at HTB
            have H8 := Lib.hid (HA.out.on HB.out)
            obtain ⟨c0, c1, c2, c3, c4⟩ := H8.out.cells
            have hg1 := H8.out.s.lt
            have hg2 : g < wr.heap.size + 1 := by omega
            have hk0 : (0 : Int) ≤ (k : Int) := by omega
            have hk1 : (k : Int) < (R.length : Int) := by omega
            have hadb1 : (ad.add (k * 3)).block < wr.heap.size := by
              rw [block_of_add]
              exact Nat.lt_of_lt_of_le hadb HB.out.size
            have hadb2 : (ad.add (k * 3)).block < wr.heap.size + 1 := by omega
            simp only at d0 d1 d2 d3 d4 d5
            clear htk hLk hmem
            go_wp2_with fail
            have HCH := Lib.hid fun w h => check_any N A T.length c T w hn40 h
            obtain ⟨ka, kb, kc⟩ : Int × Int × Int := checkR N T
            obtain ⟨z, hz⟩ : ∃ z, z = checkR N T := ⟨_, rfl⟩
            rw [← hz] at HCH HKD
            clear hz
            obtain ⟨ka, kb, kc⟩ := z
            obtain rfl : ta = ka := HKD.out
            obtain ⟨V, hV⟩ : ∃ V, V = wr.alloc (.cells #[.int .i64 ta, .int .i64 tb, .int .i64 tc] 34) := ⟨_, rfl⟩
            have HVB : Hid (Below wr.heap.size wr V) := by subst hV; exact Lib.hid ((Below.refl _ _).alloc (Nat.le_refl _) _)
            have HX : Hid (Blk V wr.heap.size 34 #[.int .i64 ta, .int .i64 tb, .int .i64 tc]) := by subst hV; exact Lib.hid (Blk.new _ _ _)
            rw [← hV]
            clear hV HKD d0 d1 d2 d3 d4 d5 c0 c1 c2 c3 c4 hg1 hg2 hadb1 hadb2
            have HTV := Lib.hid ((HT.out.below (H8.out.on HVB.out).below).more (H8.out.on HVB.out).below.size)
            have H9 := Lib.hid (H8.out.on HVB.out)
            have HBV : Hid (Below wA.heap.size wA V) := Lib.hid (HB.out.trans (HVB.out.mono HB.out.size))
            have z0 := H9.out.s.cell 0
            have z1 := H9.out.s.cell 1
            have x0 := HX.out.cell 0
            have x1 := HX.out.cell 1
            have x2 := HX.out.cell 2
            simp at z0 z1 x0 x1 x2
            generalize wr.heap.size = q at *
            have HS := Lib.hid (HeldX.mk (g := g) (q := ⟨q, 0, none⟩) z0 z1 ⟨x0, x1, x2, x0, x1, x2⟩)
            have HG := Lib.hid H9.out.s.lt
            have HQ := Lib.hid HX.out.lt
            have HB0 := Lib.hid (Below.refl V.heap.size V)
            have hfld : ∀ w, (Instr.field 34 (.agg #[.int .i64 ta, .int .i64 kb, .int .i64 kc]) 0).run Try.prog w = .ok (.int .i64 ta) w := fun _ => by kernel_rfl
            go_region_held3 (fun w' => w'.cell? ⟨g, 0, none⟩ = some (.int .i64 N) ∧ w'.cell? ⟨g, 1, none⟩ = some (.slice A T.length c) ∧ w'.cell? ⟨q, 0, none⟩ = some (.int .i64 ta) ∧ w'.cell? ⟨q, 1, none⟩ = some (.int .i64 tb) ∧ w'.cell? ⟨q, 2, none⟩ = some (.int .i64 tc) ∧ Below V.heap.size V w')
              (first | exact HS.out.on HG.out HQ.out (below_drew HB0.out) | exact HS.out.on HG.out HQ.out (below_then (by assumption) hb2) | exact HS.out.on HG.out HQ.out (below_then (by assumption) hb))
              (first | (go_at_call 21; refine (HTB.out _ hn40 (tris_then (by assumption) HTV.out)).mono ?_; rintro e w' ⟨rfl, hb⟩) | (go_at_call 15; refine (HCH.out _ (tris_then (by assumption) HTV.out)).mono ?_; rintro e w'' ⟨he, hb2⟩; rw [show wv (ta, kb, kc) = .agg #[.int .i64 ta, .int .i64 kb, .int .i64 kc] from rfl] at he; subst he))
            go_wp2_with fail
            refine ⟨⟨k + 1, by omega, by go_num, Lib.hid (HBV.out.trans (Below.mono (of6 (by assumption)) HBV.out.size))⟩, by simp [intOf]; omega⟩
          · obtain rfl : k = R.length := by omega
            go_wp2_with fail
            go_ret
            exact ⟨rfl, (HA.out.on HB.out).below⟩
end Go.Proofs.Ytnnbcflpbpafeaa
