/- soup.Pick, walked. No condition. -/
import Derived.Test.YtdmibpcpocacpaaFits8
import Derived.Test.YtdmibpcpocacpaaCorner
import Derived.Test.YtdmibpcpocacpaaIRow
namespace Go.Proofs.Ytdmibpcpocacpaa
open Go.RowKit

set_option linter.unusedSimpArgs false
set_option linter.unusedVariables false
attribute [local irreducible] Blk LRow World.alloc World.setCell KeepO World.cell? World.frozen?
set_option maxRecDepth 100000 in
set_option maxHeartbeats 8000000 in
theorem pick_any (N : Int) (A : Option Addr) (n c : Nat) (T : List Tri) (Al : Option Addr) (m cl : Nat) (l : List Int) (w : World) (hn : n ≤ 1000) (hm : m ≤ 1000) (ht : TrisAt w w.heap.size A n T) (hl : Reads w w.heap.size 1 Al m (ZL l)) :
    Calls Try.prog 36 #[.agg #[.int .i64 N, .slice A n c], .slice Al m cl] w (PickPost w (pickL N T l)) := by
  obtain rfl : n = T.length := ht.len.symm
  obtain rfl : m = l.length := by have := hl.1; simp [ZL] at this; exact this.symm
  have HT := Lib.hid ht
  have HL := Lib.hid hl
  obtain ⟨i0, hi0, hz0, hz1, hz2⟩ := info_parts ltri_info
  clear ht hl
  go_enter Try.func36, Try.ntmps36
  go_wp2_with fail
  obtain ⟨V, hV⟩ : ∃ V, V = (w.alloc (.cells #[.int .i64 N, .slice A T.length c] 24)).alloc (.cells #[.int .i64 0, .slice none 0 0] 24) := ⟨_, rfl⟩
  have HX : Hid (Blk V w.heap.size 24 #[.int .i64 N, .slice A T.length c]) := by subst hV; exact Lib.hid ((Blk.new _ _ _).alloc _)
  have HR : Hid (Blk V (w.heap.size + 1) 24 #[.int .i64 0, .slice none 0 0]) := by subst hV; exact Lib.hid (blk_new1 _ _ _ _)
  have HB : Hid (Below w.heap.size w V) := by subst hV; exact Lib.hid (bw_alloc (bw_alloc (Below.refl _ _) _) _)
  rw [← hV]
  clear hV
  obtain ⟨gs, hgs⟩ : ∃ gs, gs = w.heap.size := ⟨_, rfl⟩
  obtain ⟨gr, hgr⟩ : ∃ gr, gr = w.heap.size + 1 := ⟨_, rfl⟩
  have HGS : Hid (w.heap.size ≤ gs) := Lib.hid (by omega)
  have HGR : Hid (w.heap.size ≤ gr ∧ gr ≠ gs) := Lib.hid (by omega)
  rw [← hgr] at HR ⊢
  rw [← hgs] at HX
  simp only [← hgs]
  clear hgs hgr
  refine (fits_any N A T.length c T V (by omega) ((HT.out.below HB.out).more HB.out.size)).mono ?_
  rintro e w1 ⟨rfl, hb⟩
  have HX1 := Lib.hid (blk_call HX.out hb)
  have HR1 := Lib.hid (blk_call HR.out hb)
  have HB1 := Lib.hid (bw_call HB.out hb)
  clear hb HX HR HB
  cases hf : fitL N T with
  | false =>
    have HP : Hid (pickL N T l = (0, [], 1)) := Lib.hid (by unfold pickL; rw [if_pos hf])
    obtain ⟨r0, r1, r2, r3, _⟩ := soup_facts HR1.out
    go_wp2_with fail
    obtain ⟨f0, f1, _, _, _⟩ := soup_facts (soup_set HR1.out (.int .i64 0) (.slice none 0 0))
    refine bodyPost_ret (v := .tuple #[.agg #[.int .i64 0, .slice none 0 0], .int .i64 1]) ?_ rfl (pick_post HP.out (LRow.nil _ _) (bw_set (bw_set HB1.out HGR.out.1 _) HGR.out.1 _))
    simp [results, Try.results36, go_sem, f0, f1]
  | true =>
    obtain ⟨s0, s1, _, _, sl⟩ := soup_facts HX1.out
    go_wp2_with fail
    obtain ⟨V, hV⟩ : ∃ V, V = w1.alloc (.cells #[.int .i64 N, .slice none 0 0] 24) := ⟨_, rfl⟩
    have HO : Hid (OneSoup V w.heap.size w1.heap.size (.int .i64 N) none 0 []) := by subst hV; exact Lib.hid ⟨Blk.new _ _ _, LRow.nil _ _, bw_size HB1.out⟩
    have HV : Hid (Below w1.heap.size w1 V) := by subst hV; exact Lib.hid (bw_alloc (Below.refl _ _) _)
    rw [← hV]
    have HX2 := Lib.hid (blk_call HX1.out HV.out)
    have HR2 := Lib.hid (blk_call HR1.out HV.out)
    have HB2 := Lib.hid (bw_call HB1.out HV.out)
    have HGO : Hid (w1.heap.size ≠ gs ∧ w1.heap.size ≠ gr) := Lib.hid ⟨by have := HX1.out.lt; omega, by have := HR1.out.lt; omega⟩
    generalize w1.heap.size = go at *
    clear hV HX1 HR1 HB1 HV s0 s1 sl
    go_loopw [22] (fun iv wr => ∃ k : Nat, k ≤ l.length ∧ iv = .int .i64 k ∧ Hid ((l.take k).any (outOf (3 * T.length)) = false) ∧ Hid (Below V.heap.size V wr)) (fun iv _ => l.length - (intOf iv).toNat)
    case atStart => exact ⟨0, by omega, rfl, Lib.hid (by simp), Lib.hid (Below.refl _ _)⟩
    case round =>
      obtain ⟨k, hk, rfl, HK, HBK⟩ := hrel
      have HBW := Lib.hid (bw_call HB2.out HBK.out)
      by_cases hlt : k < l.length
      · obtain ⟨ad, u, rfl, had, hu, hc⟩ := ((HL.out.below HBW.out).more HBW.out.size).at_ hlt
        obtain ⟨x, hx, rfl⟩ := zl_at hu
        have HLX := Lib.hid hx
        clear hu hx
        obtain ⟨s0, s1, _, _, _⟩ := soup_facts (blk_call HX2.out HBK.out)
        obtain ⟨r0, r1, r2, r3, _⟩ := soup_facts (blk_call HR2.out HBK.out)
        have hk0 : (0 : Int) ≤ (k : Int) := by omega
        have hk1 : (k : Int) < (l.length : Int) := by omega
        by_cases hbad : outOf (3 * T.length) x = true
        · have HP : Hid (pickL N T l = (0, [], 2)) := Lib.hid (by
            unfold pickL
            rw [if_neg (by rw [hf]; simp), if_pos]
            exact List.any_eq_true.2 ⟨x, List.mem_of_getElem? HLX.out, hbad⟩)
          obtain ⟨f0, f1, _, _, _⟩ := soup_facts (soup_set (blk_call HR2.out HBK.out) (.int .i64 0) (.slice none 0 0))
          have hbad2 : x < 0 ∨ 3 * (T.length : Int) ≤ x := by simpa [outOf] using hbad
          by_cases hx0 : x < 0
          · go_wp2_with fail
            refine bodyPost_ret (v := .tuple #[.agg #[.int .i64 0, .slice none 0 0], .int .i64 2]) ?_ rfl (pick_post HP.out (LRow.nil _ _) (bw_set (bw_set HBW.out HGR.out.1 _) HGR.out.1 _))
            simp [results, Try.results36, go_sem, f0, f1]
          · have hx1 : 3 * (T.length : Int) ≤ x := by omega
            go_wp2_with fail
            refine bodyPost_ret (v := .tuple #[.agg #[.int .i64 0, .slice none 0 0], .int .i64 2]) ?_ rfl (pick_post HP.out (LRow.nil _ _) (bw_set (bw_set HBW.out HGR.out.1 _) HGR.out.1 _))
            simp [results, Try.results36, go_sem, f0, f1]
        · have hok : outOf (3 * T.length) x = false := by simpa using hbad
          have hin : 0 ≤ x ∧ x < 3 * (T.length : Int) := by simp [outOf] at hok; omega
          obtain ⟨hx0, hx1⟩ := hin
          go_wp2_with fail
          refine ⟨⟨k + 1, by omega, by go_num, Lib.hid ?_, HBK⟩, by simp [intOf]; omega⟩
          rw [take_snoc_Z l k HLX.out, List.any_append, HK.out]
          simp [hok]
      · obtain rfl : k = l.length := by omega
        have hall := HK.out
        rw [List.take_length] at hall
        have HP : Hid (pickL N T l = (N, l.map (pickT T), 0)) := Lib.hid (by unfold pickL; rw [if_neg (by rw [hf]; simp), if_neg (by rw [hall]; simp)])
        have HALL := Lib.hid hall
        have hl8 : ¬ (8192 : Int) < (l.length : Int) := by omega
        obtain ⟨w3, hw3⟩ : ∃ w3 : World, w3 = wr := ⟨_, rfl⟩
        rw [← hw3] at HBK HBW ⊢
        clear hw3
        go_wp2_with fail
        have HO2 := Lib.hid (HO.out.on HBK.out)
        have HX3 := Lib.hid (blk_call HX2.out HBK.out)
        have HR3 := Lib.hid (blk_call HR2.out HBK.out)
        clear HO HX2 HR2 HBK HK hall
        go_loopw [44] (fun iv wr => ∃ (k : Nat) (A' : Option Addr) (c' : Nat), k ≤ l.length ∧ iv = .int .i64 k ∧ Hid (OneSoup wr w.heap.size go (.int .i64 N) A' c' ((l.take k).map (pickT T))) ∧ Hid (Blk wr gs 24 #[.int .i64 N, .slice A T.length c]) ∧ Hid (Blk wr gr 24 #[.int .i64 0, .slice none 0 0]) ∧ Hid (Below w.heap.size w wr)) (fun iv _ => l.length - (intOf iv).toNat)
        case atStart => exact ⟨0, none, 0, by omega, rfl, HO2, HX3, HR3, HBW⟩
        case round =>
          obtain ⟨k, A', c', hk, rfl, HOK, HXK, HRK, HBK⟩ := hrel
          by_cases hlt : k < l.length
          · obtain ⟨ad, u, rfl, had, hu, hc⟩ := ((HL.out.below HBK.out).more HBK.out.size).at_ hlt
            obtain ⟨x, hx, rfl⟩ := zl_at hu
            have hin : outOf (3 * T.length) x = false := by
              cases e : outOf (3 * T.length) x with
              | false => rfl
              | true =>
                have : l.any (outOf (3 * T.length)) = true := List.any_eq_true.2 ⟨x, List.mem_of_getElem? hx, e⟩
                rw [HALL.out] at this
                cases this
            have HLX := Lib.hid hx
            clear hu hx
            have hin : 0 ≤ x ∧ x < 3 * (T.length : Int) := by simp [outOf] at hin; omega
            obtain ⟨xn, rfl⟩ := Int.eq_ofNat_of_zero_le hin.1
            have hqn : xn / 3 < T.length := by omega
            obtain ⟨ad2, t, e2, htk, _, hadb, hc3⟩ := ((HT.out.below HBK.out).more HBK.out.size).at_ hqn
            cases e2
            obtain ⟨d0, d1, d2, d3, d4, d5⟩ := hc3
            obtain ⟨s0, s1, _, _, _⟩ := soup_facts HXK.out
            have HPT : Hid (pickT T (xn : Int) = turnT (xn % 3) t) := Lib.hid (by unfold pickT; rw [show ((xn : Int)).toNat = xn from rfl, tri_of htk])
            have hk0 : (0 : Int) ≤ (k : Int) := by omega
            have hk1 : (k : Int) < (l.length : Int) := by omega
            obtain ⟨L, hL⟩ : ∃ L, L = (l.take k).map (pickT T) := ⟨_, rfl⟩
            rw [← hL] at HOK
            have hLl : L.length ≤ 1000 := by rw [hL]; simp; omega
            have HLS : Hid (L ++ [turnT (xn % 3) t] = (l.take (k + 1)).map (pickT T)) := Lib.hid (by rw [hL, take_snoc_Z l k HLX.out, List.map_append, List.map_cons, HPT.out]; rfl)
            clear hL HPT HLX
            go_wp2_with fail
            obtain ⟨w8, hw8⟩ : ∃ w8, w8 = wr.alloc (.cells #[.int .i64 t.a, .int .i64 t.b, .int .i64 t.c] 50) := ⟨_, rfl⟩
            have HTB : Hid (Blk w8 wr.heap.size 50 #[.int .i64 t.a, .int .i64 t.b, .int .i64 t.c]) := by subst hw8; exact Lib.hid (Blk.new _ _ _)
            have HO8 : Hid (OneSoup w8 w.heap.size go (.int .i64 N) A' c' L) := by subst hw8; exact Lib.hid (HOK.out.alloc _)
            have HX8 : Hid (Blk w8 gs 24 #[.int .i64 N, .slice (some ad2) T.length c]) := by subst hw8; exact Lib.hid (HXK.out.alloc _)
            have HR8 : Hid (Blk w8 gr 24 #[.int .i64 0, .slice none 0 0]) := by subst hw8; exact Lib.hid (HRK.out.alloc _)
            have HB8 : Hid (Below w.heap.size w w8) := by subst hw8; exact Lib.hid (bw_alloc HBK.out _)
            rw [← hw8]
            have HTR : Hid (∀ j, (Value.slice A' L.length c').ownBlock = some j → j < wr.heap.size) := Lib.hid fun j hj => (HOK.out.r.owns.lt j hj).2
            generalize wr.heap.size = tb at *
            clear hw8 d0 d1 d2 d3 d4 d5 s0 s1 hc HOK HXK HRK HBK hadb had
            obtain ⟨row, hrow⟩ : ∃ row, row = (Value.slice A' L.length c').ownBlock := ⟨_, rfl⟩
            have HK0 := Lib.hid (KeepO.refl w8.heap.size row w8)
            obtain ⟨o0, o1, o2, o3, ol⟩ := HO8.out.cells
            have HS : Hid (∀ w', KeepO w8.heap.size row w8 w' → w'.cell? ⟨tb, 0, none⟩ = some (.int .i64 t.a) ∧ w'.cell? ⟨tb, 1, none⟩ = some (.int .i64 t.b) ∧ w'.cell? ⟨tb, 2, none⟩ = some (.int .i64 t.c) ∧ w'.cell? ⟨go, 1, none⟩ = some (.slice A' L.length c') ∧ KeepO w8.heap.size row w8 w') := Lib.hid fun w' h => by
              have e := fun j => h.get (p := ⟨tb, j, none⟩) HTB.out.lt (Nat.ne_of_lt HTB.out.lt) (fun e => by rw [hrow] at e; exact absurd (HTR.out tb e.symm) (Nat.lt_irrefl _))
              exact ⟨(e 0).trans (HTB.out.cell 0), (e 1).trans (HTB.out.cell 1), (e 2).trans (HTB.out.cell 2), (h.get (p := ⟨go, 1, none⟩) ol (Nat.ne_of_lt ol) (fun e => by rw [hrow] at e; exact soup_tri_ne HO8.out.r HO8.out.t go e.symm rfl)).trans o1, h⟩
            have HKO : Hid (∀ w', (w'.cell? ⟨tb, 0, none⟩ = some (.int .i64 t.a) ∧ w'.cell? ⟨tb, 1, none⟩ = some (.int .i64 t.b) ∧ w'.cell? ⟨tb, 2, none⟩ = some (.int .i64 t.c) ∧ w'.cell? ⟨go, 1, none⟩ = some (.slice A' L.length c') ∧ KeepO w8.heap.size row w8 w') → KeepO w8.heap.size row w8 w') := Lib.hid fun w' h => h.2.2.2.2
            subst hrow
            rcases (by omega : (xn : Int) % 3 = 0 ∨ (xn : Int) % 3 = 1 ∨ (xn : Int) % 3 = 2) with h | h | h
            · rw [h]
              have hxr : xn % 3 = 0 := by omega
              rw [hxr] at HLS
              have v1 : IntKind.i64.wrap 1 = 1 := by decide
              have m1 : Int.tmod 1 3 = 1 := by decide
              have u1' : IntKind.i64.wrap 1 = 1 := by decide
              have v2 : IntKind.i64.wrap 2 = 2 := by decide
              have m2 : Int.tmod 2 3 = 2 := by decide
              have u2' : IntKind.i64.wrap 2 = 2 := by decide
              refine wp_region_till (S := fun w' => w'.cell? ⟨tb, 0, none⟩ = some (.int .i64 t.a) ∧ w'.cell? ⟨tb, 1, none⟩ = some (.int .i64 t.b) ∧ w'.cell? ⟨tb, 2, none⟩ = some (.int .i64 t.c) ∧ w'.cell? ⟨go, 1, none⟩ = some (.slice A' L.length c') ∧ KeepO w8.heap.size (Value.slice A' L.length c').ownBlock w8 w') 19 (by kernel_rfl) ?_ (fun hHeld => ?_)
              · (refine HS.out _ ?_; repeat (first | exact HK0.out | exact hK5 | assumption | refine KeepO.alloc ?_ _ | refine KeepO.drew ?_ | refine KeepO.set ?_ _ | exact HKO.out _ (by assumption)))
              refine Till.take (i := 0) (v := ?vt1) rfl (by kernel_rfl) (by kernel_rfl) (by kernel_rfl) (by kernel_rfl) (fun _ _ _ h => h) (Or.inl ⟨by rfl, ?ht1⟩) (by assumption) ?restt1
              case ht1 => (intro w hSw; (try dsimp only at hSw); go_simp; try with_reducible rfl)
              (try simp only [Act.put, List.setIfInBounds_toArray, List.set_cons_zero, List.set_cons_succ])
              refine Till.take (i := 1) (v := ?vt2) rfl (by kernel_rfl) (by kernel_rfl) (by kernel_rfl) (by kernel_rfl) (fun _ _ _ h => h) (Or.inl ⟨by rfl, ?ht2⟩) (by assumption) ?restt2
              case ht2 => (intro w hSw; (try dsimp only at hSw); go_simp; try with_reducible rfl)
              (try simp only [Act.put, List.setIfInBounds_toArray, List.set_cons_zero, List.set_cons_succ])
              refine Till.take (i := 2) (v := ?vt3) rfl (by kernel_rfl) (by kernel_rfl) (by kernel_rfl) (by kernel_rfl) (fun _ _ _ h => h) (Or.inl ⟨by rfl, ?ht3⟩) (by assumption) ?restt3
              case ht3 => (intro w hSw; (try dsimp only at hSw); go_simp; try with_reducible rfl)
              (try simp only [Act.put, List.setIfInBounds_toArray, List.set_cons_zero, List.set_cons_succ])
              refine Till.take (i := 3) (v := ?vt4) rfl (by kernel_rfl) (by kernel_rfl) (by kernel_rfl) (by kernel_rfl) (fun _ _ _ h => h) (Or.inl ⟨by rfl, ?ht4⟩) (by assumption) ?restt4
              case ht4 => (intro w hSw; (try dsimp only at hSw); go_simp; try with_reducible rfl)
              (try simp only [Act.put, List.setIfInBounds_toArray, List.set_cons_zero, List.set_cons_succ])
              refine Till.take (i := 4) (v := ?vt5) rfl (by kernel_rfl) (by kernel_rfl) (by kernel_rfl) (by kernel_rfl) (fun _ _ _ h => h) (Or.inl ⟨by rfl, ?ht5⟩) (by assumption) ?restt5
              case ht5 => (intro w hSw; (try dsimp only at hSw); go_simp; try with_reducible rfl)
              (try simp only [Act.put, List.setIfInBounds_toArray, List.set_cons_zero, List.set_cons_succ])
              refine Till.take (i := 5) (v := ?vt6) rfl (by kernel_rfl) (by kernel_rfl) (by kernel_rfl) (by kernel_rfl) (fun _ _ _ h => h) (Or.inl ⟨by rfl, ?ht6⟩) (by assumption) ?restt6
              case ht6 => (intro w hSw; (try dsimp only at hSw); go_simp; try with_reducible rfl)
              (try simp only [Act.put, List.setIfInBounds_toArray, List.set_cons_zero, List.set_cons_succ])
              refine Till.take (i := 6) (v := ?vt7) rfl (by kernel_rfl) (by kernel_rfl) (by kernel_rfl) (by kernel_rfl) (fun _ _ _ h => h) (Or.inl ⟨by rfl, ?ht7⟩) (by assumption) ?restt7
              case ht7 => (intro w hSw; (try dsimp only at hSw); go_simp; try with_reducible rfl)
              (try simp only [Act.put, List.setIfInBounds_toArray, List.set_cons_zero, List.set_cons_succ])
              refine Till.take (i := 7) (v := ?vt8) rfl (by kernel_rfl) (by kernel_rfl) (by kernel_rfl) (by kernel_rfl) (fun _ _ _ h => h) (Or.inl ⟨by rfl, ?ht8⟩) (by assumption) ?restt8
              case ht8 => (intro w hSw; (try dsimp only at hSw); go_simp; try with_reducible rfl)
              (try simp only [Act.put, List.setIfInBounds_toArray, List.set_cons_zero, List.set_cons_succ])
              refine Till.take (i := 8) (v := ?vt9) rfl (by kernel_rfl) (by kernel_rfl) (by kernel_rfl) (by kernel_rfl) (fun _ _ _ h => h) (Or.inl ⟨by rfl, ?ht9⟩) (by assumption) ?restt9
              case ht9 => (intro w hSw; (try dsimp only at hSw); go_simp; try with_reducible rfl)
              (try simp only [Act.put, List.setIfInBounds_toArray, List.set_cons_zero, List.set_cons_succ])
              refine Till.take (i := 9) (v := ?vt10) rfl (by kernel_rfl) (by kernel_rfl) (by kernel_rfl) (by kernel_rfl) (fun _ _ _ h => h) (Or.inl ⟨by rfl, ?ht10⟩) (by assumption) ?restt10
              case ht10 => (intro w hSw; (try dsimp only at hSw); go_simp; try with_reducible rfl)
              (try simp only [Act.put, List.setIfInBounds_toArray, List.set_cons_zero, List.set_cons_succ])
              refine Till.take (i := 10) (v := ?vt11) rfl (by kernel_rfl) (by kernel_rfl) (by kernel_rfl) (by kernel_rfl) (fun _ _ _ h => h) (Or.inl ⟨by rfl, ?ht11⟩) (by assumption) ?restt11
              case ht11 => (intro w hSw; (try dsimp only at hSw); go_simp; try with_reducible rfl)
              (try simp only [Act.put, List.setIfInBounds_toArray, List.set_cons_zero, List.set_cons_succ])
              refine Till.take (i := 11) (v := ?vt12) rfl (by kernel_rfl) (by kernel_rfl) (by kernel_rfl) (by kernel_rfl) (fun _ _ _ h => h) (Or.inl ⟨by rfl, ?ht12⟩) (by assumption) ?restt12
              case ht12 => (intro w hSw; (try dsimp only at hSw); go_simp; try with_reducible rfl)
              (try simp only [Act.put, List.setIfInBounds_toArray, List.set_cons_zero, List.set_cons_succ])
              refine Till.take (i := 12) (v := ?vt13) rfl (by kernel_rfl) (by kernel_rfl) (by kernel_rfl) (by kernel_rfl) (fun _ _ _ h => h) (Or.inl ⟨by rfl, ?ht13⟩) (by assumption) ?restt13
              case ht13 => (intro w hSw; (try dsimp only at hSw); go_simp; try with_reducible rfl)
              (try simp only [Act.put, List.setIfInBounds_toArray, List.set_cons_zero, List.set_cons_succ])
              refine Till.take (i := 13) (v := ?vt14) rfl (by kernel_rfl) (by kernel_rfl) (by kernel_rfl) (by kernel_rfl) (fun _ _ _ h => h) (Or.inl ⟨by rfl, ?ht14⟩) (by assumption) ?restt14
              case ht14 => (intro w hSw; (try dsimp only at hSw); go_simp; try with_reducible rfl)
              (try simp only [Act.put, List.setIfInBounds_toArray, List.set_cons_zero, List.set_cons_succ])
              refine Till.take (i := 14) (v := ?vt15) rfl (by kernel_rfl) (by kernel_rfl) (by kernel_rfl) (by kernel_rfl) (fun _ _ _ h => h) (Or.inl ⟨by rfl, ?ht15⟩) (by assumption) ?restt15
              case ht15 => (intro w hSw; (try dsimp only at hSw); go_simp; try with_reducible rfl)
              (try simp only [Act.put, List.setIfInBounds_toArray, List.set_cons_zero, List.set_cons_succ])
              refine Till.take (i := 15) (v := ?vt16) rfl (by kernel_rfl) (by kernel_rfl) (by kernel_rfl) (by kernel_rfl) (fun _ _ _ h => h) (Or.inl ⟨by rfl, ?ht16⟩) (by assumption) ?restt16
              case ht16 => (intro w hSw; (try dsimp only at hSw); go_simp; try with_reducible rfl)
              (try simp only [Act.put, List.setIfInBounds_toArray, List.set_cons_zero, List.set_cons_succ])
              refine Till.ready (rs := [16]) (by kernel_rfl) (by simp) ?_
              refine TillEach.cons rfl (fun K hK => ?_) ?_
              · go_simp
                refine hK.out _ _ ?_ (fun hHeld => ?_)
                · (refine HS.out _ ?_; repeat (first | exact HK0.out | exact hK5 | assumption | refine KeepO.alloc ?_ _ | refine KeepO.drew ?_ | refine KeepO.set ?_ _ | exact HKO.out _ (by assumption)))
                clear hK K
                (try simp only [Act.put, List.setIfInBounds_toArray, List.set_cons_zero, List.set_cons_succ])
                refine Till.ready (rs := [17]) (by kernel_rfl) (by simp) ?_
                refine TillEach.cons rfl (fun K hK => ?_) ?_
                · refine step_append_sl _ (by rfl) (.tmp 57) (.tmp 72) _ (by rfl) w.heap.size 50 i0 _ 3 24 Try.underlying22 hi0 hz0 hz1 hz2 rfl (by omega) (.slice A' L.length c') L.length (L.flatMap Tri.cells) (by rfl) ((HO8.out).alloc _).drew.r.owns (w8.heap.size + 1) (some ⟨w8.heap.size, 0, none⟩) 1 1 [.int .i64 t.a, .int .i64 t.b, .int .i64 t.c] (by rfl) (reads_newN _ _ _ 1 3 rfl rfl).drew (by simp [Value.oneCell']) (by simp only [maxLen]; omega) (by omega) (bw_size (bw_drew (bw_alloc HB8.out _))) ?_
                  intro A5 c5 w5 hown5 hg5 hat5
                  obtain ⟨z0, z1, z2⟩ := OneSoup.facts ((HO8.out).alloc _).drew hg5
                  have hB5 : Below w.heap.size w w5 := bw_grow (bw_drew (bw_alloc HB8.out _)) hg5 (fun x hx => (HO8.out.r.owns.lt x hx).1)
                  have hK5 := KeepO.grow (KeepO.drew (KeepO.alloc HK0.out _)) hg5
                  refine hK.out _ _ ?_ (fun hHeld => ?_)
                  · (refine HS.out _ ?_; repeat (first | exact HK0.out | exact hK5 | assumption | refine KeepO.alloc ?_ _ | refine KeepO.drew ?_ | refine KeepO.set ?_ _ | exact HKO.out _ (by assumption)))
                  clear hK K
                  (try simp only [Act.put, List.setIfInBounds_toArray, List.set_cons_zero, List.set_cons_succ])
                  refine Till.take (i := 18) (v := ?vt17) rfl (by kernel_rfl) (by kernel_rfl) (by kernel_rfl) (by kernel_rfl) (fun _ _ _ h => h) (Or.inl ⟨by rfl, ?ht17⟩) (by assumption) ?restt17
                  case ht17 => (intro w hSw; (try dsimp only at hSw); go_simp; try with_reducible rfl)
                  (try simp only [Act.put, List.setIfInBounds_toArray, List.set_cons_zero, List.set_cons_succ])
                  refine Till.ready (rs := [19]) (by kernel_rfl) (by simp) ?_
                  refine TillEach.last rfl (fun K hK => ?_)
                  · go_simp
                    refine hK.out _ _ ?_
                    clear hK K
                    (try simp only [Act.put, List.setIfInBounds_toArray, List.set_cons_zero, List.set_cons_succ])
                    refine Till.done (by kernel_rfl) ?_ _
                    go_wp2_with fail
                    refine ⟨⟨k + 1, A5, c5, by omega, by go_num, Lib.hid ?_, Lib.hid ?_, Lib.hid ?_, Lib.hid (bw_set hB5 HO8.out.g _)⟩, by simp [intOf]; omega⟩
                    · rw [← HLS.out]
                      exact OneSoup.push ((HO8.out).alloc _).drew hown5 (by simp) (by simp [Tri.cells, turnT]) hg5
                    · exact (Blk.grown ((HX8.out).alloc _).drew hg5 (fun e => soup_tri_ne HO8.out.r HX8.out gs e.symm rfl)).far HGO.out.1.symm _
                    · exact (Blk.grown ((HR8.out).alloc _).drew hg5 (fun e => soup_tri_ne HO8.out.r HR8.out gr e.symm rfl)).far HGO.out.2.symm _
                exact TillEach.nil
              exact TillEach.nil
            · rw [h]
              have hxr : xn % 3 = 1 := by omega
              rw [hxr] at HLS
              have v1 : IntKind.i64.wrap 2 = 2 := by decide
              have m1 : Int.tmod 2 3 = 2 := by decide
              have u1' : IntKind.i64.wrap 2 = 2 := by decide
              have v2 : IntKind.i64.wrap 3 = 3 := by decide
              have m2 : Int.tmod 3 3 = 0 := by decide
              have u2' : IntKind.i64.wrap 0 = 0 := by decide
              refine wp_region_till (S := fun w' => w'.cell? ⟨tb, 0, none⟩ = some (.int .i64 t.a) ∧ w'.cell? ⟨tb, 1, none⟩ = some (.int .i64 t.b) ∧ w'.cell? ⟨tb, 2, none⟩ = some (.int .i64 t.c) ∧ w'.cell? ⟨go, 1, none⟩ = some (.slice A' L.length c') ∧ KeepO w8.heap.size (Value.slice A' L.length c').ownBlock w8 w') 19 (by kernel_rfl) ?_ (fun hHeld => ?_)
              · (refine HS.out _ ?_; repeat (first | exact HK0.out | exact hK5 | assumption | refine KeepO.alloc ?_ _ | refine KeepO.drew ?_ | refine KeepO.set ?_ _ | exact HKO.out _ (by assumption)))
              refine Till.take (i := 0) (v := ?vt18) rfl (by kernel_rfl) (by kernel_rfl) (by kernel_rfl) (by kernel_rfl) (fun _ _ _ h => h) (Or.inl ⟨by rfl, ?ht18⟩) (by assumption) ?restt18
              case ht18 => (intro w hSw; (try dsimp only at hSw); go_simp; try with_reducible rfl)
              (try simp only [Act.put, List.setIfInBounds_toArray, List.set_cons_zero, List.set_cons_succ])
              refine Till.take (i := 1) (v := ?vt19) rfl (by kernel_rfl) (by kernel_rfl) (by kernel_rfl) (by kernel_rfl) (fun _ _ _ h => h) (Or.inl ⟨by rfl, ?ht19⟩) (by assumption) ?restt19
              case ht19 => (intro w hSw; (try dsimp only at hSw); go_simp; try with_reducible rfl)
              (try simp only [Act.put, List.setIfInBounds_toArray, List.set_cons_zero, List.set_cons_succ])
              refine Till.take (i := 2) (v := ?vt20) rfl (by kernel_rfl) (by kernel_rfl) (by kernel_rfl) (by kernel_rfl) (fun _ _ _ h => h) (Or.inl ⟨by rfl, ?ht20⟩) (by assumption) ?restt20
              case ht20 => (intro w hSw; (try dsimp only at hSw); go_simp; try with_reducible rfl)
              (try simp only [Act.put, List.setIfInBounds_toArray, List.set_cons_zero, List.set_cons_succ])
              refine Till.take (i := 3) (v := ?vt21) rfl (by kernel_rfl) (by kernel_rfl) (by kernel_rfl) (by kernel_rfl) (fun _ _ _ h => h) (Or.inl ⟨by rfl, ?ht21⟩) (by assumption) ?restt21
              case ht21 => (intro w hSw; (try dsimp only at hSw); go_simp; try with_reducible rfl)
              (try simp only [Act.put, List.setIfInBounds_toArray, List.set_cons_zero, List.set_cons_succ])
              refine Till.take (i := 4) (v := ?vt22) rfl (by kernel_rfl) (by kernel_rfl) (by kernel_rfl) (by kernel_rfl) (fun _ _ _ h => h) (Or.inl ⟨by rfl, ?ht22⟩) (by assumption) ?restt22
              case ht22 => (intro w hSw; (try dsimp only at hSw); go_simp; try with_reducible rfl)
              (try simp only [Act.put, List.setIfInBounds_toArray, List.set_cons_zero, List.set_cons_succ])
              refine Till.take (i := 5) (v := ?vt23) rfl (by kernel_rfl) (by kernel_rfl) (by kernel_rfl) (by kernel_rfl) (fun _ _ _ h => h) (Or.inl ⟨by rfl, ?ht23⟩) (by assumption) ?restt23
              case ht23 => (intro w hSw; (try dsimp only at hSw); go_simp; try with_reducible rfl)
              (try simp only [Act.put, List.setIfInBounds_toArray, List.set_cons_zero, List.set_cons_succ])
              refine Till.take (i := 6) (v := ?vt24) rfl (by kernel_rfl) (by kernel_rfl) (by kernel_rfl) (by kernel_rfl) (fun _ _ _ h => h) (Or.inl ⟨by rfl, ?ht24⟩) (by assumption) ?restt24
              case ht24 => (intro w hSw; (try dsimp only at hSw); go_simp; try with_reducible rfl)
              (try simp only [Act.put, List.setIfInBounds_toArray, List.set_cons_zero, List.set_cons_succ])
              refine Till.take (i := 7) (v := ?vt25) rfl (by kernel_rfl) (by kernel_rfl) (by kernel_rfl) (by kernel_rfl) (fun _ _ _ h => h) (Or.inl ⟨by rfl, ?ht25⟩) (by assumption) ?restt25
              case ht25 => (intro w hSw; (try dsimp only at hSw); go_simp; try with_reducible rfl)
              (try simp only [Act.put, List.setIfInBounds_toArray, List.set_cons_zero, List.set_cons_succ])
              refine Till.take (i := 8) (v := ?vt26) rfl (by kernel_rfl) (by kernel_rfl) (by kernel_rfl) (by kernel_rfl) (fun _ _ _ h => h) (Or.inl ⟨by rfl, ?ht26⟩) (by assumption) ?restt26
              case ht26 => (intro w hSw; (try dsimp only at hSw); go_simp; try with_reducible rfl)
              (try simp only [Act.put, List.setIfInBounds_toArray, List.set_cons_zero, List.set_cons_succ])
              refine Till.take (i := 9) (v := ?vt27) rfl (by kernel_rfl) (by kernel_rfl) (by kernel_rfl) (by kernel_rfl) (fun _ _ _ h => h) (Or.inl ⟨by rfl, ?ht27⟩) (by assumption) ?restt27
              case ht27 => (intro w hSw; (try dsimp only at hSw); go_simp; try with_reducible rfl)
              (try simp only [Act.put, List.setIfInBounds_toArray, List.set_cons_zero, List.set_cons_succ])
              refine Till.take (i := 10) (v := ?vt28) rfl (by kernel_rfl) (by kernel_rfl) (by kernel_rfl) (by kernel_rfl) (fun _ _ _ h => h) (Or.inl ⟨by rfl, ?ht28⟩) (by assumption) ?restt28
              case ht28 => (intro w hSw; (try dsimp only at hSw); go_simp; try with_reducible rfl)
              (try simp only [Act.put, List.setIfInBounds_toArray, List.set_cons_zero, List.set_cons_succ])
              refine Till.take (i := 11) (v := ?vt29) rfl (by kernel_rfl) (by kernel_rfl) (by kernel_rfl) (by kernel_rfl) (fun _ _ _ h => h) (Or.inl ⟨by rfl, ?ht29⟩) (by assumption) ?restt29
              case ht29 => (intro w hSw; (try dsimp only at hSw); go_simp; try with_reducible rfl)
              (try simp only [Act.put, List.setIfInBounds_toArray, List.set_cons_zero, List.set_cons_succ])
              refine Till.take (i := 12) (v := ?vt30) rfl (by kernel_rfl) (by kernel_rfl) (by kernel_rfl) (by kernel_rfl) (fun _ _ _ h => h) (Or.inl ⟨by rfl, ?ht30⟩) (by assumption) ?restt30
              case ht30 => (intro w hSw; (try dsimp only at hSw); go_simp; try with_reducible rfl)
              (try simp only [Act.put, List.setIfInBounds_toArray, List.set_cons_zero, List.set_cons_succ])
              refine Till.take (i := 13) (v := ?vt31) rfl (by kernel_rfl) (by kernel_rfl) (by kernel_rfl) (by kernel_rfl) (fun _ _ _ h => h) (Or.inl ⟨by rfl, ?ht31⟩) (by assumption) ?restt31
              case ht31 => (intro w hSw; (try dsimp only at hSw); go_simp; try with_reducible rfl)
              (try simp only [Act.put, List.setIfInBounds_toArray, List.set_cons_zero, List.set_cons_succ])
              refine Till.take (i := 14) (v := ?vt32) rfl (by kernel_rfl) (by kernel_rfl) (by kernel_rfl) (by kernel_rfl) (fun _ _ _ h => h) (Or.inl ⟨by rfl, ?ht32⟩) (by assumption) ?restt32
              case ht32 => (intro w hSw; (try dsimp only at hSw); go_simp; try with_reducible rfl)
              (try simp only [Act.put, List.setIfInBounds_toArray, List.set_cons_zero, List.set_cons_succ])
              refine Till.take (i := 15) (v := ?vt33) rfl (by kernel_rfl) (by kernel_rfl) (by kernel_rfl) (by kernel_rfl) (fun _ _ _ h => h) (Or.inl ⟨by rfl, ?ht33⟩) (by assumption) ?restt33
              case ht33 => (intro w hSw; (try dsimp only at hSw); go_simp; try with_reducible rfl)
              (try simp only [Act.put, List.setIfInBounds_toArray, List.set_cons_zero, List.set_cons_succ])
              refine Till.ready (rs := [16]) (by kernel_rfl) (by simp) ?_
              refine TillEach.cons rfl (fun K hK => ?_) ?_
              · go_simp
                refine hK.out _ _ ?_ (fun hHeld => ?_)
                · (refine HS.out _ ?_; repeat (first | exact HK0.out | exact hK5 | assumption | refine KeepO.alloc ?_ _ | refine KeepO.drew ?_ | refine KeepO.set ?_ _ | exact HKO.out _ (by assumption)))
                clear hK K
                (try simp only [Act.put, List.setIfInBounds_toArray, List.set_cons_zero, List.set_cons_succ])
                refine Till.ready (rs := [17]) (by kernel_rfl) (by simp) ?_
                refine TillEach.cons rfl (fun K hK => ?_) ?_
                · refine step_append_sl _ (by rfl) (.tmp 57) (.tmp 72) _ (by rfl) w.heap.size 50 i0 _ 3 24 Try.underlying22 hi0 hz0 hz1 hz2 rfl (by omega) (.slice A' L.length c') L.length (L.flatMap Tri.cells) (by rfl) ((HO8.out).alloc _).drew.r.owns (w8.heap.size + 1) (some ⟨w8.heap.size, 0, none⟩) 1 1 [.int .i64 t.b, .int .i64 t.c, .int .i64 t.a] (by rfl) (reads_newN _ _ _ 1 3 rfl rfl).drew (by simp [Value.oneCell']) (by simp only [maxLen]; omega) (by omega) (bw_size (bw_drew (bw_alloc HB8.out _))) ?_
                  intro A5 c5 w5 hown5 hg5 hat5
                  obtain ⟨z0, z1, z2⟩ := OneSoup.facts ((HO8.out).alloc _).drew hg5
                  have hB5 : Below w.heap.size w w5 := bw_grow (bw_drew (bw_alloc HB8.out _)) hg5 (fun x hx => (HO8.out.r.owns.lt x hx).1)
                  have hK5 := KeepO.grow (KeepO.drew (KeepO.alloc HK0.out _)) hg5
                  refine hK.out _ _ ?_ (fun hHeld => ?_)
                  · (refine HS.out _ ?_; repeat (first | exact HK0.out | exact hK5 | assumption | refine KeepO.alloc ?_ _ | refine KeepO.drew ?_ | refine KeepO.set ?_ _ | exact HKO.out _ (by assumption)))
                  clear hK K
                  (try simp only [Act.put, List.setIfInBounds_toArray, List.set_cons_zero, List.set_cons_succ])
                  refine Till.take (i := 18) (v := ?vt34) rfl (by kernel_rfl) (by kernel_rfl) (by kernel_rfl) (by kernel_rfl) (fun _ _ _ h => h) (Or.inl ⟨by rfl, ?ht34⟩) (by assumption) ?restt34
                  case ht34 => (intro w hSw; (try dsimp only at hSw); go_simp; try with_reducible rfl)
                  (try simp only [Act.put, List.setIfInBounds_toArray, List.set_cons_zero, List.set_cons_succ])
                  refine Till.ready (rs := [19]) (by kernel_rfl) (by simp) ?_
                  refine TillEach.last rfl (fun K hK => ?_)
                  · go_simp
                    refine hK.out _ _ ?_
                    clear hK K
                    (try simp only [Act.put, List.setIfInBounds_toArray, List.set_cons_zero, List.set_cons_succ])
                    refine Till.done (by kernel_rfl) ?_ _
                    go_wp2_with fail
                    refine ⟨⟨k + 1, A5, c5, by omega, by go_num, Lib.hid ?_, Lib.hid ?_, Lib.hid ?_, Lib.hid (bw_set hB5 HO8.out.g _)⟩, by simp [intOf]; omega⟩
                    · rw [← HLS.out]
                      exact OneSoup.push ((HO8.out).alloc _).drew hown5 (by simp) (by simp [Tri.cells, turnT]) hg5
                    · exact (Blk.grown ((HX8.out).alloc _).drew hg5 (fun e => soup_tri_ne HO8.out.r HX8.out gs e.symm rfl)).far HGO.out.1.symm _
                    · exact (Blk.grown ((HR8.out).alloc _).drew hg5 (fun e => soup_tri_ne HO8.out.r HR8.out gr e.symm rfl)).far HGO.out.2.symm _
                exact TillEach.nil
              exact TillEach.nil
            · rw [h]
              have hxr : xn % 3 = 2 := by omega
              rw [hxr] at HLS
              have v1 : IntKind.i64.wrap 3 = 3 := by decide
              have m1 : Int.tmod 3 3 = 0 := by decide
              have u1' : IntKind.i64.wrap 0 = 0 := by decide
              have v2 : IntKind.i64.wrap 4 = 4 := by decide
              have m2 : Int.tmod 4 3 = 1 := by decide
              have u2' : IntKind.i64.wrap 1 = 1 := by decide
              refine wp_region_till (S := fun w' => w'.cell? ⟨tb, 0, none⟩ = some (.int .i64 t.a) ∧ w'.cell? ⟨tb, 1, none⟩ = some (.int .i64 t.b) ∧ w'.cell? ⟨tb, 2, none⟩ = some (.int .i64 t.c) ∧ w'.cell? ⟨go, 1, none⟩ = some (.slice A' L.length c') ∧ KeepO w8.heap.size (Value.slice A' L.length c').ownBlock w8 w') 19 (by kernel_rfl) ?_ (fun hHeld => ?_)
              · (refine HS.out _ ?_; repeat (first | exact HK0.out | exact hK5 | assumption | refine KeepO.alloc ?_ _ | refine KeepO.drew ?_ | refine KeepO.set ?_ _ | exact HKO.out _ (by assumption)))
              refine Till.take (i := 0) (v := ?vt35) rfl (by kernel_rfl) (by kernel_rfl) (by kernel_rfl) (by kernel_rfl) (fun _ _ _ h => h) (Or.inl ⟨by rfl, ?ht35⟩) (by assumption) ?restt35
              case ht35 => (intro w hSw; (try dsimp only at hSw); go_simp; try with_reducible rfl)
              (try simp only [Act.put, List.setIfInBounds_toArray, List.set_cons_zero, List.set_cons_succ])
              refine Till.take (i := 1) (v := ?vt36) rfl (by kernel_rfl) (by kernel_rfl) (by kernel_rfl) (by kernel_rfl) (fun _ _ _ h => h) (Or.inl ⟨by rfl, ?ht36⟩) (by assumption) ?restt36
              case ht36 => (intro w hSw; (try dsimp only at hSw); go_simp; try with_reducible rfl)
              (try simp only [Act.put, List.setIfInBounds_toArray, List.set_cons_zero, List.set_cons_succ])
              refine Till.take (i := 2) (v := ?vt37) rfl (by kernel_rfl) (by kernel_rfl) (by kernel_rfl) (by kernel_rfl) (fun _ _ _ h => h) (Or.inl ⟨by rfl, ?ht37⟩) (by assumption) ?restt37
              case ht37 => (intro w hSw; (try dsimp only at hSw); go_simp; try with_reducible rfl)
              (try simp only [Act.put, List.setIfInBounds_toArray, List.set_cons_zero, List.set_cons_succ])
              refine Till.take (i := 3) (v := ?vt38) rfl (by kernel_rfl) (by kernel_rfl) (by kernel_rfl) (by kernel_rfl) (fun _ _ _ h => h) (Or.inl ⟨by rfl, ?ht38⟩) (by assumption) ?restt38
              case ht38 => (intro w hSw; (try dsimp only at hSw); go_simp; try with_reducible rfl)
              (try simp only [Act.put, List.setIfInBounds_toArray, List.set_cons_zero, List.set_cons_succ])
              refine Till.take (i := 4) (v := ?vt39) rfl (by kernel_rfl) (by kernel_rfl) (by kernel_rfl) (by kernel_rfl) (fun _ _ _ h => h) (Or.inl ⟨by rfl, ?ht39⟩) (by assumption) ?restt39
              case ht39 => (intro w hSw; (try dsimp only at hSw); go_simp; try with_reducible rfl)
              (try simp only [Act.put, List.setIfInBounds_toArray, List.set_cons_zero, List.set_cons_succ])
              refine Till.take (i := 5) (v := ?vt40) rfl (by kernel_rfl) (by kernel_rfl) (by kernel_rfl) (by kernel_rfl) (fun _ _ _ h => h) (Or.inl ⟨by rfl, ?ht40⟩) (by assumption) ?restt40
              case ht40 => (intro w hSw; (try dsimp only at hSw); go_simp; try with_reducible rfl)
              (try simp only [Act.put, List.setIfInBounds_toArray, List.set_cons_zero, List.set_cons_succ])
              refine Till.take (i := 6) (v := ?vt41) rfl (by kernel_rfl) (by kernel_rfl) (by kernel_rfl) (by kernel_rfl) (fun _ _ _ h => h) (Or.inl ⟨by rfl, ?ht41⟩) (by assumption) ?restt41
              case ht41 => (intro w hSw; (try dsimp only at hSw); go_simp; try with_reducible rfl)
              (try simp only [Act.put, List.setIfInBounds_toArray, List.set_cons_zero, List.set_cons_succ])
              refine Till.take (i := 7) (v := ?vt42) rfl (by kernel_rfl) (by kernel_rfl) (by kernel_rfl) (by kernel_rfl) (fun _ _ _ h => h) (Or.inl ⟨by rfl, ?ht42⟩) (by assumption) ?restt42
              case ht42 => (intro w hSw; (try dsimp only at hSw); go_simp; try with_reducible rfl)
              (try simp only [Act.put, List.setIfInBounds_toArray, List.set_cons_zero, List.set_cons_succ])
              refine Till.take (i := 8) (v := ?vt43) rfl (by kernel_rfl) (by kernel_rfl) (by kernel_rfl) (by kernel_rfl) (fun _ _ _ h => h) (Or.inl ⟨by rfl, ?ht43⟩) (by assumption) ?restt43
              case ht43 => (intro w hSw; (try dsimp only at hSw); go_simp; try with_reducible rfl)
              (try simp only [Act.put, List.setIfInBounds_toArray, List.set_cons_zero, List.set_cons_succ])
              refine Till.take (i := 9) (v := ?vt44) rfl (by kernel_rfl) (by kernel_rfl) (by kernel_rfl) (by kernel_rfl) (fun _ _ _ h => h) (Or.inl ⟨by rfl, ?ht44⟩) (by assumption) ?restt44
              case ht44 => (intro w hSw; (try dsimp only at hSw); go_simp; try with_reducible rfl)
              (try simp only [Act.put, List.setIfInBounds_toArray, List.set_cons_zero, List.set_cons_succ])
              refine Till.take (i := 10) (v := ?vt45) rfl (by kernel_rfl) (by kernel_rfl) (by kernel_rfl) (by kernel_rfl) (fun _ _ _ h => h) (Or.inl ⟨by rfl, ?ht45⟩) (by assumption) ?restt45
              case ht45 => (intro w hSw; (try dsimp only at hSw); go_simp; try with_reducible rfl)
              (try simp only [Act.put, List.setIfInBounds_toArray, List.set_cons_zero, List.set_cons_succ])
              refine Till.take (i := 11) (v := ?vt46) rfl (by kernel_rfl) (by kernel_rfl) (by kernel_rfl) (by kernel_rfl) (fun _ _ _ h => h) (Or.inl ⟨by rfl, ?ht46⟩) (by assumption) ?restt46
              case ht46 => (intro w hSw; (try dsimp only at hSw); go_simp; try with_reducible rfl)
              (try simp only [Act.put, List.setIfInBounds_toArray, List.set_cons_zero, List.set_cons_succ])
              refine Till.take (i := 12) (v := ?vt47) rfl (by kernel_rfl) (by kernel_rfl) (by kernel_rfl) (by kernel_rfl) (fun _ _ _ h => h) (Or.inl ⟨by rfl, ?ht47⟩) (by assumption) ?restt47
              case ht47 => (intro w hSw; (try dsimp only at hSw); go_simp; try with_reducible rfl)
              (try simp only [Act.put, List.setIfInBounds_toArray, List.set_cons_zero, List.set_cons_succ])
              refine Till.take (i := 13) (v := ?vt48) rfl (by kernel_rfl) (by kernel_rfl) (by kernel_rfl) (by kernel_rfl) (fun _ _ _ h => h) (Or.inl ⟨by rfl, ?ht48⟩) (by assumption) ?restt48
              case ht48 => (intro w hSw; (try dsimp only at hSw); go_simp; try with_reducible rfl)
              (try simp only [Act.put, List.setIfInBounds_toArray, List.set_cons_zero, List.set_cons_succ])
              refine Till.take (i := 14) (v := ?vt49) rfl (by kernel_rfl) (by kernel_rfl) (by kernel_rfl) (by kernel_rfl) (fun _ _ _ h => h) (Or.inl ⟨by rfl, ?ht49⟩) (by assumption) ?restt49
              case ht49 => (intro w hSw; (try dsimp only at hSw); go_simp; try with_reducible rfl)
              (try simp only [Act.put, List.setIfInBounds_toArray, List.set_cons_zero, List.set_cons_succ])
              refine Till.take (i := 15) (v := ?vt50) rfl (by kernel_rfl) (by kernel_rfl) (by kernel_rfl) (by kernel_rfl) (fun _ _ _ h => h) (Or.inl ⟨by rfl, ?ht50⟩) (by assumption) ?restt50
              case ht50 => (intro w hSw; (try dsimp only at hSw); go_simp; try with_reducible rfl)
              (try simp only [Act.put, List.setIfInBounds_toArray, List.set_cons_zero, List.set_cons_succ])
              refine Till.ready (rs := [16]) (by kernel_rfl) (by simp) ?_
              refine TillEach.cons rfl (fun K hK => ?_) ?_
              · go_simp
                refine hK.out _ _ ?_ (fun hHeld => ?_)
                · (refine HS.out _ ?_; repeat (first | exact HK0.out | exact hK5 | assumption | refine KeepO.alloc ?_ _ | refine KeepO.drew ?_ | refine KeepO.set ?_ _ | exact HKO.out _ (by assumption)))
                clear hK K
                (try simp only [Act.put, List.setIfInBounds_toArray, List.set_cons_zero, List.set_cons_succ])
                refine Till.ready (rs := [17]) (by kernel_rfl) (by simp) ?_
                refine TillEach.cons rfl (fun K hK => ?_) ?_
                · refine step_append_sl _ (by rfl) (.tmp 57) (.tmp 72) _ (by rfl) w.heap.size 50 i0 _ 3 24 Try.underlying22 hi0 hz0 hz1 hz2 rfl (by omega) (.slice A' L.length c') L.length (L.flatMap Tri.cells) (by rfl) ((HO8.out).alloc _).drew.r.owns (w8.heap.size + 1) (some ⟨w8.heap.size, 0, none⟩) 1 1 [.int .i64 t.c, .int .i64 t.a, .int .i64 t.b] (by rfl) (reads_newN _ _ _ 1 3 rfl rfl).drew (by simp [Value.oneCell']) (by simp only [maxLen]; omega) (by omega) (bw_size (bw_drew (bw_alloc HB8.out _))) ?_
                  intro A5 c5 w5 hown5 hg5 hat5
                  obtain ⟨z0, z1, z2⟩ := OneSoup.facts ((HO8.out).alloc _).drew hg5
                  have hB5 : Below w.heap.size w w5 := bw_grow (bw_drew (bw_alloc HB8.out _)) hg5 (fun x hx => (HO8.out.r.owns.lt x hx).1)
                  have hK5 := KeepO.grow (KeepO.drew (KeepO.alloc HK0.out _)) hg5
                  refine hK.out _ _ ?_ (fun hHeld => ?_)
                  · (refine HS.out _ ?_; repeat (first | exact HK0.out | exact hK5 | assumption | refine KeepO.alloc ?_ _ | refine KeepO.drew ?_ | refine KeepO.set ?_ _ | exact HKO.out _ (by assumption)))
                  clear hK K
                  (try simp only [Act.put, List.setIfInBounds_toArray, List.set_cons_zero, List.set_cons_succ])
                  refine Till.take (i := 18) (v := ?vt51) rfl (by kernel_rfl) (by kernel_rfl) (by kernel_rfl) (by kernel_rfl) (fun _ _ _ h => h) (Or.inl ⟨by rfl, ?ht51⟩) (by assumption) ?restt51
                  case ht51 => (intro w hSw; (try dsimp only at hSw); go_simp; try with_reducible rfl)
                  (try simp only [Act.put, List.setIfInBounds_toArray, List.set_cons_zero, List.set_cons_succ])
                  refine Till.ready (rs := [19]) (by kernel_rfl) (by simp) ?_
                  refine TillEach.last rfl (fun K hK => ?_)
                  · go_simp
                    refine hK.out _ _ ?_
                    clear hK K
                    (try simp only [Act.put, List.setIfInBounds_toArray, List.set_cons_zero, List.set_cons_succ])
                    refine Till.done (by kernel_rfl) ?_ _
                    go_wp2_with fail
                    refine ⟨⟨k + 1, A5, c5, by omega, by go_num, Lib.hid ?_, Lib.hid ?_, Lib.hid ?_, Lib.hid (bw_set hB5 HO8.out.g _)⟩, by simp [intOf]; omega⟩
                    · rw [← HLS.out]
                      exact OneSoup.push ((HO8.out).alloc _).drew hown5 (by simp) (by simp [Tri.cells, turnT]) hg5
                    · exact (Blk.grown ((HX8.out).alloc _).drew hg5 (fun e => soup_tri_ne HO8.out.r HX8.out gs e.symm rfl)).far HGO.out.1.symm _
                    · exact (Blk.grown ((HR8.out).alloc _).drew hg5 (fun e => soup_tri_ne HO8.out.r HR8.out gr e.symm rfl)).far HGO.out.2.symm _
                exact TillEach.nil
              exact TillEach.nil
          · obtain rfl : k = l.length := by omega
            obtain ⟨o0, o1, _, _, _⟩ := HOK.out.cells
            obtain ⟨r0, r1, r2, r3, _⟩ := soup_facts HRK.out
            rw [List.take_length] at o1
            have HOE := HOK.out
            rw [List.take_length] at HOE
            go_wp2_with fail
            obtain ⟨f0, f1, _, _, _⟩ := soup_facts (soup_set HRK.out (.int .i64 N) (.slice A' (l.map (pickT T)).length c'))
            rw [List.length_map] at f0 f1
            refine bodyPost_ret (v := .tuple #[.agg #[.int .i64 N, .slice A' (l.map (pickT T)).length c'], .int .i64 0]) ?_ rfl (pick_post HP.out ((HOE.r.soup_set HRK.out _ _)) (bw_set (bw_set HBK.out HGR.out.1 _) HGR.out.1 _))
            simp [results, Try.results36, go_sem, f0, f1]
end Go.Proofs.Ytdmibpcpocacpaa
