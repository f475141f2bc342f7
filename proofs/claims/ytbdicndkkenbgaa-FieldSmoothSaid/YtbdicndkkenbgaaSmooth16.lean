/- FieldSmooth, walked. -/
import Derived.Test.YtbdicndkkenbgaaWake16
import Derived.Test.YtbdicndkkenbgaaIsW15
import Derived.Test.YtbdicndkkenbgaaDegW
namespace Go.Proofs.Ytbdicndkkenbgaa
open Go.RowKit

set_option linter.unusedSimpArgs false
set_option linter.unusedVariables false
attribute [local irreducible] Blk LRow World.alloc World.setCell World.cell? World.frozen? MapV
set_option maxRecDepth 100000 in
set_option maxHeartbeats 4000000 in
theorem smoothF1_any (bl bt g m : Nat) (T : List Tri) (Al : Option Addr) (cl : Nat) (l : List Int) (c : Nat) (w : World) (hc : c < 3 * T.length) (h1 : w.cell? ⟨bl, 0, none⟩ = some (.slice Al l.length cl)) (h2 : w.cell? ⟨bt, 0, none⟩ = some (.pointer (some ⟨g, 0, none⟩)))
    (hr : Reads w w.heap.size 1 Al l.length (ZL l)) (ht : TabN w g m T) :
    Calls Try.prog 10 #[.int .i64 (c : Int), .pointer (some ⟨bl, 0, none⟩), .pointer (some ⟨bt, 0, none⟩)] w (IntPost w (valN l (cv T c).toNat)) := by
  have HT := Lib.hid ht
  have HL := Lib.hid h1
  have HBT := Lib.hid h2
  have HR := Lib.hid hr
  have hcv := cv_ok ht.s.ok hc
  have hm := ht.s.m1
  have HVX : Hid (∀ W, TabN W g m T → Calls Try.prog 12 #[.pointer (some ⟨g, 0, none⟩), .int .i64 (c : Int)] W (IntPost W (cv T c))) := Lib.hid fun W h => h.vertex hc
  obtain ⟨k, hk⟩ := Int.eq_ofNat_of_zero_le hcv.1
  rw [hk, show ((k : Int)).toNat = k from rfl]
  rw [hk] at HVX hcv
  clear h1 h2 hr ht hk
  go_enter Try.func10, Try.ntmps10
  go_upto_region 1 with (fail)
  refine wp_region_till (S := fun w' => w'.cell? ⟨bl, 0, none⟩ = some (.slice Al l.length cl) ∧ w'.cell? ⟨bt, 0, none⟩ = some (.pointer (some ⟨g, 0, none⟩))) 5 (by kernel_rfl) ⟨(cell_drew_own _ _).trans HL.out, (cell_drew_own _ _).trans HBT.out⟩ (fun hHeld => ?_)
  refine Till.take (i := 0) (v := ?vt1) rfl (by kernel_rfl) (by kernel_rfl) (by kernel_rfl) (by kernel_rfl) (fun _ _ _ h => h) (Or.inl ⟨by rfl, ?ht1⟩) (by assumption) ?restt1
  case ht1 => (intro w hSw; (try dsimp only at hSw); go_simp; try with_reducible rfl)
  (try simp only [Act.put, List.setIfInBounds_toArray, List.set_cons_zero, List.set_cons_succ])
  refine Till.take (i := 1) (v := ?vt2) rfl (by kernel_rfl) (by kernel_rfl) (by kernel_rfl) (by kernel_rfl) (fun _ _ _ h => h) (Or.inl ⟨by rfl, ?ht2⟩) (by assumption) ?restt2
  case ht2 => (intro w hSw; (try dsimp only at hSw); go_simp; try with_reducible rfl)
  (try simp only [Act.put, List.setIfInBounds_toArray, List.set_cons_zero, List.set_cons_succ])
  refine Till.take (i := 2) (v := ?vt3) rfl (by kernel_rfl) (by kernel_rfl) (by kernel_rfl) (by kernel_rfl) (fun _ _ _ h => h) (Or.inl ⟨by rfl, ?ht3⟩) (by assumption) ?restt3
  case ht3 => (intro w hSw; (try dsimp only at hSw); go_simp; try with_reducible rfl)
  (try simp only [Act.put, List.setIfInBounds_toArray, List.set_cons_zero, List.set_cons_succ])
  refine Till.ready (rs := [3]) (by kernel_rfl) (by simp) ?_
  refine TillEach.cons rfl (fun K hK => ?_) ?_
  · go_simp
    go_wp2_with (go_at_call 12; refine (HVX.out _ HT.out.drew).mono ?_; rintro e w2 ⟨rfl, hb⟩)
    have HB2 := Lib.hid (bw_call ((Below.refl _ _).drew) hb)
    have L2 := Lib.hid ((HB2.out.cell (p := ⟨bl, 0, none⟩) (World.block_lt_of_cell? _ _ HL.out)).trans HL.out)
    have T2 := Lib.hid ((HB2.out.cell (p := ⟨bt, 0, none⟩) (World.block_lt_of_cell? _ _ HBT.out)).trans HBT.out)
    have HR2 := Lib.hid ((HR.out.below HB2.out).more HB2.out.size)
    clear hb
    refine hK.out _ _ ?_ (fun hHeld => ?_)
    · exact ⟨L2.out, T2.out⟩
    clear hK K
    (try simp only [Act.put, List.setIfInBounds_toArray, List.set_cons_zero, List.set_cons_succ])
    refine Till.ready (rs := [4]) (by kernel_rfl) (by simp) ?_
    refine TillEach.cons rfl (fun K hK => ?_) ?_
    · go_simp
      go_wp2_with (go_at_call 11; refine (value_any Al cl l k _ w2.heap.size (by omega) HR2.out).mono ?_; rintro e w' ⟨rfl, hw⟩; replace hw := hw.symm; subst hw)
      refine hK.out _ _ ?_ (fun hHeld => ?_)
      · exact ⟨L2.out, T2.out⟩
      clear hK K
      (try simp only [Act.put, List.setIfInBounds_toArray, List.set_cons_zero, List.set_cons_succ])
      refine Till.ready (rs := [5]) (by kernel_rfl) (by simp) ?_
      refine TillEach.last rfl (fun K hK => ?_)
      · go_simp
        refine hK.out _ _ ?_
        clear hK K
        (try simp only [Act.put, List.setIfInBounds_toArray, List.set_cons_zero, List.set_cons_succ])
        refine Till.done (by kernel_rfl) ?_ _
        go_wp2_with fail
        go_ret
        exact ⟨rfl, HB2.out⟩
    exact TillEach.nil
  exact TillEach.nil
set_option maxHeartbeats 4000000 in
theorem smoothF2_any (bl : Nat) (Al : Option Addr) (cl : Nat) (l : List Int) (c : Nat) (w : World) (hc : c < 1000000) (h1 : w.cell? ⟨bl, 0, none⟩ = some (.slice Al l.length cl))
    (hr : Reads w w.heap.size 1 Al l.length (ZL l)) :
    Calls Try.prog 13 #[.int .i64 (c : Int), .pointer (some ⟨bl, 0, none⟩)] w (IntPost w (valN l (c / 3))) := by
  have HR := Lib.hid hr
  clear hr
  obtain ⟨q, hq⟩ : ∃ q, c / 3 = q := ⟨_, rfl⟩
  have hd : Int.tdiv (c : Int) 3 = (q : Int) := by rw [← hq]; exact tdiv_nat c 3
  have hw : IntKind.i64.wrap (q : Int) = (q : Int) := IntWalk.i64_in _ (by omega)
  have hql : q < 1000000 := by omega
  rw [hq]
  clear hq
  go_enter Try.func13, Try.ntmps13
  go_wp2_with fail
  refine (value_any Al cl l q w w.heap.size hql HR.out).mono ?_
  rintro e w' ⟨rfl, hw⟩
  replace hw := hw.symm
  subst hw
  go_wp2_with fail
  go_ret
  exact ⟨rfl, Below.refl _ _⟩
set_option maxRecDepth 100000 in
set_option maxHeartbeats 8000000 in
theorem smoothLaw_any (N : Int) (A : Option Addr) (n c : Nat) (T : List Tri) (Al : Option Addr) (nl cl : Nat) (l : List Int) (w : World) (hnl : l.length = nl) (hnl2 : nl ≤ 9223372036854775807) (ht : TrisAt w w.heap.size A n T) (hl : Reads w w.heap.size 1 Al nl (ZL l)) :
    Calls Try.prog 3 #[.agg #[.int .i64 N, .slice A n c], .slice Al nl cl] w (BoolPost w true) := by
  obtain rfl : n = T.length := ht.len.symm
  subst hnl
  have HT := Lib.hid ht
  have HRL := Lib.hid hl
  clear ht hl
  obtain ⟨V, hV⟩ : ∃ V, V = (w.alloc (.cells #[.int .i64 N, .slice A T.length c] 24)).alloc (.cells #[.slice Al l.length cl] 25) := ⟨_, rfl⟩
  have GA0 : Hid (Blk V w.heap.size 24 #[.int .i64 N, .slice A T.length c]) := by subst hV; exact Lib.hid ((Blk.new _ _ _).alloc _)
  have GL0 : Hid (Blk V (w.heap.size + 1) 25 #[.slice Al l.length cl]) := by subst hV; exact Lib.hid (blk_new1 _ _ _ _)
  have HB0 : Hid (Below w.heap.size w V) := by subst hV; exact Lib.hid (bw_alloc (bw_alloc (Below.refl _ _) _) _)
  go_enter Try.func3, Try.ntmps3
  go_upto_region 1 with (fail)
  rw [← hV]
  clear hV
  obtain ⟨ga, hga⟩ : ∃ g, g = w.heap.size := ⟨_, rfl⟩
  obtain ⟨gl, hgl⟩ : ∃ g, g = w.heap.size + 1 := ⟨_, rfl⟩
  rw [← hgl] at GL0 ⊢
  rw [← hga] at GA0
  simp only [← hga]
  clear hga hgl
  go_wp2_with fail
  refine (awake_any V).mono ?_
  rintro e w1 ⟨rfl, hb⟩
  have GA1 := Lib.hid (blk_call GA0.out hb)
  have GL1 := Lib.hid (blk_call GL0.out hb)
  have HB1 := Lib.hid (bw_call HB0.out hb)
  clear hb HB0 GA0 GL0
  obtain ⟨s0, s1, _, _, _⟩ := soup_facts GA1.out
  go_wp2_with fail
  refine (table12_any N A c T w1 ((HT.out.below HB1.out).more HB1.out.size)).mono ?_
  rintro e w2 (⟨rfl, hb, hno⟩ | ⟨g, m, rfl, hT40, hck, rfl, htab, hb⟩)
  · have GA2 := Lib.hid (blk_call GA1.out hb)
    have HB2 := Lib.hid (bw_call HB1.out hb)
    clear hb GL1 GA1 HB1 s0 s1
    obtain ⟨w3, hw3⟩ : ∃ w3, w3 = w2.alloc (.cells #[.pointer none] 27) := ⟨_, rfl⟩
    have GA3 : Hid (Blk w3 ga 24 #[.int .i64 N, .slice A T.length c]) := by subst hw3; exact Lib.hid (GA2.out.alloc _)
    have GT3 : Hid (Blk w3 w2.heap.size 27 #[.pointer none]) := by subst hw3; exact Lib.hid (Blk.new _ _ _)
    have HB3 : Hid (Below w.heap.size w w3) := by subst hw3; exact Lib.hid (bw_alloc HB2.out _)
    clear GA2 HB2
    go_upto_region 4 with (fail)
    rw [← hw3]
    clear hw3
    obtain ⟨gt, hgt⟩ : ∃ g, g = w2.heap.size := ⟨_, rfl⟩
    rw [← hgt] at GT3 ⊢
    clear hgt
    have q0 := GT3.out.cell 0
    simp at q0
    obtain ⟨s0, s1, _, _, _⟩ := soup_facts GA3.out
    by_cases hT40 : 40 < T.length
    · have hi : (40 : Int) < (T.length : Int) := by omega
      go_wp2_with fail
      go_ret
      exact ⟨rfl, HB3.out⟩
    have hi : ¬ (40 : Int) < (T.length : Int) := by omega
    have hck := hno.resolve_left hT40
    have HIS := Lib.hid (is15_any N A c T w3 (by omega) ((HT.out.below HB3.out).more HB3.out.size))
    rw [decide_eq_false hck] at HIS
    clear hno hck
    go_wp2_with fail
    refine HIS.out.mono ?_
    rintro e w4 ⟨rfl, hb⟩
    go_wp2_with fail
    go_ret
    exact ⟨rfl, bw_call HB3.out hb⟩
  have GA2 := Lib.hid (blk_call GA1.out hb)
  have GL2 := Lib.hid (blk_call GL1.out hb)
  have HB2 := Lib.hid (bw_call HB1.out hb)
  have HT2 := Lib.hid htab
  clear hb GL1 GA1 HB1 s0 s1 htab hck
  obtain ⟨w3, hw3⟩ : ∃ w3, w3 = w2.alloc (.cells #[.pointer (some ⟨g, 0, none⟩)] 27) := ⟨_, rfl⟩
  have GA3 : Hid (Blk w3 ga 24 #[.int .i64 (m : Int), .slice A T.length c]) := by subst hw3; exact Lib.hid (GA2.out.alloc _)
  have GL3 : Hid (Blk w3 gl 25 #[.slice Al l.length cl]) := by subst hw3; exact Lib.hid (GL2.out.alloc _)
  have GT3 : Hid (Blk w3 w2.heap.size 27 #[.pointer (some ⟨g, 0, none⟩)]) := by subst hw3; exact Lib.hid (Blk.new _ _ _)
  have HT3 : Hid (TabN w3 g m T) := by subst hw3; exact Lib.hid (HT2.out.alloc _)
  have HB3 : Hid (Below w.heap.size w w3) := by subst hw3; exact Lib.hid (bw_alloc HB2.out _)
  clear GA2 GL2 HT2 HB2
  go_upto_region 4 with (fail)
  rw [← hw3]
  clear hw3
  obtain ⟨gt, hgt⟩ : ∃ g, g = w2.heap.size := ⟨_, rfl⟩
  rw [← hgt] at GT3 ⊢
  clear hgt
  have q0 := GT3.out.cell 0
  simp at q0
  have HRW : Hid (∀ W, Below w3.heap.size w3 W → Reads W W.heap.size 1 Al l.length (ZL l)) := Lib.hid fun W h => (HRL.out.below (bw_call HB3.out h)).more (bw_call HB3.out h).size
  go_wp2_with fail
  refine (newI_pure 10 #[.pointer (some ⟨gl, 0, none⟩), .pointer (some ⟨gt, 0, none⟩)] (enters_of Try.func10 (by kernel_rfl) rfl) g m T (fun k => valN l (cv T k).toNat) w3 (by omega) HT3.out
    (fun k W hk hW => smoothF1_any gl gt g m T Al cl l k W hk ((hW.cell (p := ⟨gl, 0, none⟩) GL3.out.lt).trans (GL3.out.cell 0)) ((hW.cell (p := ⟨gt, 0, none⟩) GT3.out.lt).trans (GT3.out.cell 0)) (HRW.out W hW) (HT3.out.below hW))).mono ?_
  rintro e w4 ⟨gf, Af, cf, rfl, hf, hb⟩
  have HF4 := Lib.hid hf
  have GA4 := Lib.hid (blk_call GA3.out hb)
  have GL4 := Lib.hid (blk_call GL3.out hb)
  have GT4 := Lib.hid (blk_call GT3.out hb)
  have HT4 := Lib.hid (HT3.out.below hb)
  have HB4 := Lib.hid (bw_call HB3.out hb)
  clear hf hb GA3 GL3 GT3 HT3 HRW q0
  have q0 := GT4.out.cell 0
  simp at q0
  have HRW : Hid (∀ W, Below w4.heap.size w4 W → Reads W W.heap.size 1 Al l.length (ZL l)) := Lib.hid fun W h => (HRL.out.below (bw_call HB4.out h)).more (bw_call HB4.out h).size
  go_wp2_with fail
  refine (newI_pure 13 #[.pointer (some ⟨gl, 0, none⟩)] (enters_of Try.func13 (by kernel_rfl) rfl) g m T (fun k => valN l (k / 3)) w4 (by omega) HT4.out
    (fun k W hk hW => smoothF2_any gl Al cl l k W (by omega) ((hW.cell (p := ⟨gl, 0, none⟩) GL4.out.lt).trans (GL4.out.cell 0)) (HRW.out W hW))).mono ?_
  rintro e w5 ⟨gh, Ah, ch, rfl, hf, hb⟩
  have HG5 := Lib.hid hf
  have HF5 := Lib.hid (HF4.out.below hb)
  have GA5 := Lib.hid (blk_call GA4.out hb)
  have GL5 := Lib.hid (blk_call GL4.out hb)
  have GT5 := Lib.hid (blk_call GT4.out hb)
  have HT5 := Lib.hid (HT4.out.below hb)
  have HB5 := Lib.hid (bw_call HB4.out hb)
  have hm4 := HT5.out.s.m1
  clear hf hb GA4 GL4 GT4 HT4 HRW q0 HF4
  obtain ⟨BF, hBF⟩ : ∃ BF, BF = w3.heap.size := ⟨_, rfl⟩
  obtain ⟨BG, hBG⟩ : ∃ BG, BG = w4.heap.size := ⟨_, rfl⟩
  rw [← hBF] at HF5
  rw [← hBG] at HG5
  clear hBF hBG
  go_wp2_with fail
  go_loopw [8] (fun vv wr => ∃ v : Nat, v ≤ m ∧ vv = .int .i64 (v : Int) ∧ Hid (FAt wr 61 3 1 BF gf g Af cf (3 * T.length) ((List.range (3 * T.length)).flatMap fun i => cellsI ((fun k => valN l (cv T k).toNat) i))) ∧ Hid (FAt wr 61 3 1 BG gh g Ah ch (3 * T.length) ((List.range (3 * T.length)).flatMap fun i => cellsI ((fun k => valN l (k / 3)) i))) ∧ Hid (Blk wr ga 24 #[.int .i64 (m : Int), .slice A T.length c]) ∧ Hid (Blk wr gl 25 #[.slice Al l.length cl]) ∧ Hid (Blk wr gt 27 #[.pointer (some ⟨g, 0, none⟩)]) ∧ Hid (TabN wr g m T) ∧ Hid (Below w.heap.size w wr)) (fun vv _ => m - (intOf vv).toNat)
  case atStart => exact ⟨0, by omega, rfl, HF5, HG5, GA5, GL5, GT5, HT5, HB5⟩
  case round =>
    obtain ⟨v, hv, rfl, HFA, HGA, GAA, GLA, GTA, HTA, HBA⟩ := hrel
    obtain ⟨wA, hwA⟩ : ∃ wA : World, wA = wr := ⟨_, rfl⟩
    rw [← hwA] at HFA HGA GAA GLA GTA HTA HBA ⊢
    clear hwA HF5 HG5 GA5 GL5 GT5 HT5 HB5
    obtain ⟨s0, s1, _, _, _⟩ := soup_facts GAA.out
    by_cases hlt : v < m
    rotate_left
    · obtain rfl : v = m := by omega
      have hvi : ¬ (v : Int) < (v : Int) := by omega
      go_wp2_with fail
      go_ret
      exact ⟨rfl, HBA.out⟩
    have hvi : (v : Int) < (m : Int) := by omega
    obtain ⟨sv, bv, bo, M, L, hring⟩ := ring_ex HTA.out.s hlt
    have HRG : Hid (RingL m T (v : Int) L) := Lib.hid (.inr ⟨v, rfl, hlt, sv, bv, bo, M, hring⟩)
    have hne := hring.on.ne
    have e1 : valsL (fun k => valN l (cv T k).toNat) L = [valN l v] := valsL_const hne fun k hk => by rw [hring.vv k hk]; rfl
    have HS1 : Hid (∀ W, FAt W 61 3 1 BF gf g Af cf (3 * T.length) ((List.range (3 * T.length)).flatMap fun i => cellsI ((fun k => valN l (cv T k).toNat) i)) → TabN W g m T → Calls Try.prog 14 #[.pointer (some ⟨gf, 0, none⟩), .int .i64 (v : Int)] W (BoolPost W true)) := Lib.hid fun W h1 h2 => by
      have := smoothI_any gf g m BF T Af cf (fun k => valN l (cv T k).toNat) v L W (by omega) h1 h2 HRG.out
      rw [e1, decide_eq_true (by rfl)] at this
      exact this
    have HV1 : Hid (∀ W, FAt W 61 3 1 BF gf g Af cf (3 * T.length) ((List.range (3 * T.length)).flatMap fun i => cellsI ((fun k => valN l (cv T k).toNat) i)) → TabN W g m T → Calls Try.prog 16 #[.pointer (some ⟨gf, 0, none⟩), .int .i64 (v : Int)] W (ValPI [valN l v] W)) := Lib.hid fun W h1 h2 => by
      have := valuesI_any gf g m BF T Af cf (fun k => valN l (cv T k).toNat) v L W (by omega) h1 h2 HRG.out
      rw [e1] at this
      exact this
    have HX : Hid (1 ≤ (valsL (fun k => valN l (k / 3)) L).length ∧ (valsL (fun k => valN l (k / 3)) L).length ≤ L.length ∧ L.length ≤ 120) := Lib.hid ⟨valsL_ne hne, valsL_len _, by have := HRG.out.len; omega⟩
    have HS2 : Hid (∀ W, FAt W 61 3 1 BG gh g Ah ch (3 * T.length) ((List.range (3 * T.length)).flatMap fun i => cellsI ((fun k => valN l (k / 3)) i)) → TabN W g m T → Calls Try.prog 14 #[.pointer (some ⟨gh, 0, none⟩), .int .i64 (v : Int)] W (BoolPost W (decide ((valsL (fun k => valN l (k / 3)) L).length = 1)))) := Lib.hid fun W h1 h2 => smoothI_any gh g m BG T Ah ch (fun k => valN l (k / 3)) v L W (by omega) h1 h2 HRG.out
    have HV2 : Hid (∀ W, FAt W 61 3 1 BG gh g Ah ch (3 * T.length) ((List.range (3 * T.length)).flatMap fun i => cellsI ((fun k => valN l (k / 3)) i)) → TabN W g m T → Calls Try.prog 16 #[.pointer (some ⟨gh, 0, none⟩), .int .i64 (v : Int)] W (ValPI (valsL (fun k => valN l (k / 3)) L) W)) := Lib.hid fun W h1 h2 => valuesI_any gh g m BG T Ah ch (fun k => valN l (k / 3)) v L W (by omega) h1 h2 HRG.out
    have HD : Hid (∀ W, TabN W g m T → Calls Try.prog 17 #[.pointer (some ⟨g, 0, none⟩), .int .i64 (v : Int)] W (IntPost W (L.length : Int))) := Lib.hid fun W h => degree_any g m T v L W HRG.out (by have := HRG.out.len; omega) h
    clear e1 hring hne HRG
    generalize valsL (fun k => valN l (k / 3)) L = X at *
    unfold ValPI at HV1 HV2
    go_upto_region 11 with (fail)
    refine wp_region_held_drew (S := fun w' => w'.cell? ⟨gl, 0, none⟩ = some (.slice Al l.length cl)) (by kernel_rfl) (GLA.out.drew.cell 0) (fun hHeld => ?_)
    refine held_take (i := 0) (v := ?v1) rfl (by kernel_rfl) (by kernel_rfl) (by kernel_rfl) (fun _ _ _ h => h) (Or.inl ⟨by rfl, ?hy1⟩) (by assumption) ?rest1
    case hy1 => (intro w hSw; (try dsimp only at hSw); go_simp; try with_reducible rfl)
    (try simp only [Act.put, List.setIfInBounds_toArray, List.set_cons_zero, List.set_cons_succ])
    refine held_take (i := 1) (v := ?v2) rfl (by kernel_rfl) (by kernel_rfl) (by kernel_rfl) (fun _ _ _ h => h) (Or.inl ⟨by rfl, ?hy2⟩) (by assumption) ?rest2
    case hy2 => (intro w hSw; (try dsimp only at hSw); go_simp; try with_reducible rfl)
    (try simp only [Act.put, List.setIfInBounds_toArray, List.set_cons_zero, List.set_cons_succ])
    refine wpAnyH_ready (rs := [2]) (by kernel_rfl) (by simp) ?_
    refine held_cons rfl (fun K hK => ?_) ?_
    · go_simp
      go_wp2_with (go_at_call 14; refine (HS1.out _ HFA.out.drew HTA.out.drew).mono ?_; rintro e v1 ⟨rfl, hb⟩)
      have GL1 := Lib.hid (blk_call GLA.out.drew hb)
      have HT1 := Lib.hid (HTA.out.drew.below hb)
      have HF1 := Lib.hid (HFA.out.drew.below hb)
      have HG1 := Lib.hid (HGA.out.drew.below hb)
      have GA1 := Lib.hid (blk_call GAA.out.drew hb)
      have GT1 := Lib.hid (blk_call GTA.out.drew hb)
      have HB1 := Lib.hid (bw_call (bw_drew HBA.out) hb)
      clear hb
      refine hK.out _ _ ?_ (fun hHeld => ?_)
      · exact GL1.out.cell 0
      clear hK K
      (try simp only [Act.put, List.setIfInBounds_toArray, List.set_cons_zero, List.set_cons_succ])
      refine held_take (i := 3) (v := ?v3) rfl (by kernel_rfl) (by kernel_rfl) (by kernel_rfl) (fun _ _ _ h => h) (Or.inl ⟨by rfl, ?hy3⟩) (by assumption) ?rest3
      case hy3 => (intro w hSw; (try dsimp only at hSw); go_simp; try with_reducible rfl)
      (try simp only [Act.put, List.setIfInBounds_toArray, List.set_cons_zero, List.set_cons_succ])
      refine held_take (i := 4) (v := ?v4) rfl (by kernel_rfl) (by kernel_rfl) (by kernel_rfl) (fun _ _ _ h => h) (Or.inl ⟨by rfl, ?hy4⟩) (by assumption) ?rest4
      case hy4 => (intro w hSw; (try dsimp only at hSw); go_simp; try with_reducible rfl)
      (try simp only [Act.put, List.setIfInBounds_toArray, List.set_cons_zero, List.set_cons_succ])
      refine held_take (i := 5) (v := ?v5) rfl (by kernel_rfl) (by kernel_rfl) (by kernel_rfl) (fun _ _ _ h => h) (Or.inl ⟨by rfl, ?hy5⟩) (by assumption) ?rest5
      case hy5 => (intro w hSw; (try dsimp only at hSw); go_simp; try with_reducible rfl)
      (try simp only [Act.put, List.setIfInBounds_toArray, List.set_cons_zero, List.set_cons_succ])
      refine held_take (i := 6) (v := ?v6) rfl (by kernel_rfl) (by kernel_rfl) (by kernel_rfl) (fun _ _ _ h => h) (Or.inl ⟨by rfl, ?hy6⟩) (by assumption) ?rest6
      case hy6 => (intro w hSw; (try dsimp only at hSw); go_simp; try with_reducible rfl)
      (try simp only [Act.put, List.setIfInBounds_toArray, List.set_cons_zero, List.set_cons_succ])
      refine held_take (i := 8) (v := ?v7) rfl (by kernel_rfl) (by kernel_rfl) (by kernel_rfl) (fun _ _ _ h => h) (Or.inl ⟨by rfl, ?hy7⟩) (by assumption) ?rest7
      case hy7 => (intro w hSw; (try dsimp only at hSw); go_simp; try with_reducible rfl)
      (try simp only [Act.put, List.setIfInBounds_toArray, List.set_cons_zero, List.set_cons_succ])
      refine held_take (i := 9) (v := ?v8) rfl (by kernel_rfl) (by kernel_rfl) (by kernel_rfl) (fun _ _ _ h => h) (Or.inl ⟨by rfl, ?hy8⟩) (by assumption) ?rest8
      case hy8 => (intro w hSw; (try dsimp only at hSw); go_simp; try with_reducible rfl)
      (try simp only [Act.put, List.setIfInBounds_toArray, List.set_cons_zero, List.set_cons_succ])
      refine wpAnyH_ready (rs := [7]) (by kernel_rfl) (by simp) ?_
      refine held_cons rfl (fun K hK => ?_) ?_
      · go_simp
        go_wp2_with (go_at_call 16; refine (HV1.out _ HF1.out HT1.out).mono ?_; rintro e v2 ⟨A2, c2, rfl, hr2, hb⟩)
        have HR2 := Lib.hid hr2
        clear hr2
        have GL2 := Lib.hid (blk_call GL1.out hb)
        have HT2 := Lib.hid (HT1.out.below hb)
        have HF2 := Lib.hid (HF1.out.below hb)
        have HG2 := Lib.hid (HG1.out.below hb)
        have GA2 := Lib.hid (blk_call GA1.out hb)
        have GT2 := Lib.hid (blk_call GT1.out hb)
        have HB2 := Lib.hid (bw_call HB1.out hb)
        clear hb
        refine hK.out _ _ ?_ (fun hHeld => ?_)
        · exact GL2.out.cell 0
        clear hK K
        (try simp only [Act.put, List.setIfInBounds_toArray, List.set_cons_zero, List.set_cons_succ])
        refine wpAnyH_ready (rs := [10]) (by kernel_rfl) (by simp) ?_
        refine held_cons rfl (fun K hK => ?_) ?_
        · go_simp
          go_wp2_with (go_at_call 11; refine (value_any Al cl l v _ w.heap.size (by omega) (HRL.out.below HB2.out)).mono ?_; rintro e w' ⟨rfl, hw⟩; replace hw := hw.symm; subst hw)
          refine hK.out _ _ ?_ (fun hHeld => ?_)
          · exact GL2.out.cell 0
          clear hK K
          (try simp only [Act.put, List.setIfInBounds_toArray, List.set_cons_zero, List.set_cons_succ])
          refine wpAnyH_ready (rs := [11]) (by kernel_rfl) (by simp) ?_
          refine held_cons rfl (fun K hK => ?_) ?_
          · go_simp
            obtain ⟨v3, hv3⟩ : ∃ v3, v3 = v2.alloc (.cells #[.int .i64 (valN l v)] 3) := ⟨_, rfl⟩
            rw [← hv3]
            have hb : Below v2.heap.size v2 v3 := by rw [hv3]; exact bw_alloc (Below.refl _ _) _
            have HI3 : Hid (Calls Try.prog 15 #[.slice A2 1 c2, .slice (some ⟨v2.heap.size, 0, none⟩) 1 1] v3 (BoolPost v3 true)) := by
              subst hv3
              exact Lib.hid (refInts_any [valN l v] A2 _ 1 c2 1 _ (by omega) (((cellsI_zl [valN l v] ▸ Reads.of_own HR2.out).below hb).more hb.size) ((reads_new v2 #[.int .i64 (valN l v)] 3 1 1 rfl).more (by simp)))
            have GL3 := Lib.hid (blk_call GL2.out hb)
            have HT3 := Lib.hid (HT2.out.below hb)
            have HF3 := Lib.hid (HF2.out.below hb)
            have HG3 := Lib.hid (HG2.out.below hb)
            have GA3 := Lib.hid (blk_call GA2.out hb)
            have GT3 := Lib.hid (blk_call GT2.out hb)
            have HB3 := Lib.hid (bw_call HB2.out hb)
            clear hb hv3
            refine hK.out _ _ ?_ (fun hHeld => ?_)
            · exact GL3.out.cell 0
            clear hK K
            (try simp only [Act.put, List.setIfInBounds_toArray, List.set_cons_zero, List.set_cons_succ])
            refine wpAnyH_ready (rs := [12]) (by kernel_rfl) (by simp) ?_
            refine held_cons rfl (fun K hK => ?_) ?_
            · go_simp
              go_wp2_with (go_at_call 15; refine HI3.out.mono ?_; rintro e v4 ⟨rfl, hb⟩)
              have GL4 := Lib.hid (blk_call GL3.out hb)
              have HT4 := Lib.hid (HT3.out.below hb)
              have HF4 := Lib.hid (HF3.out.below hb)
              have HG4 := Lib.hid (HG3.out.below hb)
              have GA4 := Lib.hid (blk_call GA3.out hb)
              have GT4 := Lib.hid (blk_call GT3.out hb)
              have HB4 := Lib.hid (bw_call HB3.out hb)
              clear hb
              refine hK.out _ _ ?_ (fun hHeld => ?_)
              · exact GL4.out.cell 0
              clear hK K
              (try simp only [Act.put, List.setIfInBounds_toArray, List.set_cons_zero, List.set_cons_succ])
              refine held_take (i := 13) (v := ?v9) rfl (by kernel_rfl) (by kernel_rfl) (by kernel_rfl) (fun _ _ _ h => h) (Or.inl ⟨by rfl, ?hy9⟩) (by assumption) ?rest9
              case hy9 => (intro w hSw; (try dsimp only at hSw); go_simp; try with_reducible rfl)
              (try simp only [Act.put, List.setIfInBounds_toArray, List.set_cons_zero, List.set_cons_succ])
              refine held_take (i := 14) (v := ?v10) rfl (by kernel_rfl) (by kernel_rfl) (by kernel_rfl) (fun _ _ _ h => h) (Or.inl ⟨by rfl, ?hy10⟩) (by assumption) ?rest10
              case hy10 => (intro w hSw; (try dsimp only at hSw); go_simp; try with_reducible rfl)
              (try simp only [Act.put, List.setIfInBounds_toArray, List.set_cons_zero, List.set_cons_succ])
              refine wpAnyH_done (by kernel_rfl) ?_ _
              go_wp2_with fail
              refine (HV2.out _ HG4.out HT4.out).mono ?_
              rintro e v5 ⟨A5, c5, rfl, _, hb⟩
              have HT6 := Lib.hid (HT4.out.below hb)
              have HF6 := Lib.hid (HF4.out.below hb)
              have HG6 := Lib.hid (HG4.out.below hb)
              have GA6 := Lib.hid (blk_call GA4.out hb)
              have GL6 := Lib.hid (blk_call GL4.out hb)
              have GT6 := Lib.hid (blk_call GT4.out hb)
              have HB6 := Lib.hid (bw_call HB4.out hb)
              clear hb
              have q0 := GT6.out.cell 0
              simp at q0
              obtain ⟨x1, x2, x3⟩ := HX.out
              have hx1 : ¬ (X.length : Int) < 1 := by omega
              have hx2 : ¬ (L.length : Int) < (X.length : Int) := by omega
              go_wp2_with fail
              refine (HD.out _ HT6.out).mono ?_
              rintro e v7 ⟨rfl, hb⟩
              have HT7 := Lib.hid (HT6.out.below hb)
              have HF7 := Lib.hid (HF6.out.below hb)
              have HG7 := Lib.hid (HG6.out.below hb)
              have GA7 := Lib.hid (blk_call GA6.out hb)
              have GL7 := Lib.hid (blk_call GL6.out hb)
              have GT7 := Lib.hid (blk_call GT6.out hb)
              have HB7 := Lib.hid (bw_call HB6.out hb)
              clear hb
              by_cases hX1 : X.length = 1
              · have e1 : (X.length : Int) = 1 := by omega
                rw [decide_eq_true hX1] at HS2
                clear hX1
                go_wp2_with fail
                refine (HS2.out _ HG7.out HT7.out).mono ?_
                rintro e v8 ⟨rfl, hb⟩
                go_wp2_with fail
                exact ⟨⟨v + 1, by omega, by go_num, Lib.hid (HF7.out.below hb), Lib.hid (HG7.out.below hb), Lib.hid (blk_call GA7.out hb), Lib.hid (blk_call GL7.out hb), Lib.hid (blk_call GT7.out hb), Lib.hid (HT7.out.below hb), Lib.hid (bw_call HB7.out hb)⟩, by simp [intOf]; omega⟩
              · have e1 : ((X.length : Int) == 1) = false := by rw [beq_eq_false_iff_ne]; omega
                rw [decide_eq_false hX1] at HS2
                clear hX1
                go_wp2_with fail
                refine (HS2.out _ HG7.out HT7.out).mono ?_
                rintro e v8 ⟨rfl, hb⟩
                go_wp2_with fail
                exact ⟨⟨v + 1, by omega, by go_num, Lib.hid (HF7.out.below hb), Lib.hid (HG7.out.below hb), Lib.hid (blk_call GA7.out hb), Lib.hid (blk_call GL7.out hb), Lib.hid (blk_call GT7.out hb), Lib.hid (HT7.out.below hb), Lib.hid (bw_call HB7.out hb)⟩, by simp [intOf]; omega⟩
            exact AllReadyH.nil
          exact AllReadyH.nil
        exact AllReadyH.nil
      exact AllReadyH.nil
    exact AllReadyH.nil
end Go.Proofs.Ytbdicndkkenbgaa
