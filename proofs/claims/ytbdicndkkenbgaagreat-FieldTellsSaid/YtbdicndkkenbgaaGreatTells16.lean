/- FieldTells, walked. -/
import Derived.Test.YtbdicndkkenbgaaGreatWake16
import Derived.Test.YtbdicndkkenbgaaGreatIsW15
import Derived.Test.YtbdicndkkenbgaaGreatAll16
import Derived.Test.YtbdicndkkenbgaaGreatList16
import Derived.Test.YtbdicndkkenbgaaGreatR16V
namespace Go.Proofs.YtbdicndkkenbgaaGreat
open Go.RowKit

set_option linter.unusedSimpArgs false
set_option linter.unusedVariables false
theorem valsL_congr {α : Type} [DecidableEq α] {f g : Nat → α} {L : List Nat} (h : ∀ c ∈ L, f c = g c) : valsL f L = valsL g L := by
  revert h
  refine snocInd (P := fun L => (∀ c ∈ L, f c = g c) → valsL f L = valsL g L) (fun _ => rfl) (fun L c ih h => ?_) L
  rw [valsL_snoc, valsL_snoc, ih (fun c hc => h c (by simp [hc])), h c (by simp)]
theorem getD_range (V : Nat → Int) {n i : Nat} (h : i < n) : ((List.range n).map V).getD i 0 = V i := by
  rw [List.getD_eq_getElem?_getD, List.getElem?_map, List.getElem?_range h]
  rfl
attribute [local irreducible] Blk LRow World.alloc World.setCell World.cell? World.frozen? MapV
set_option maxHeartbeats 4000000 in
theorem tellsF_any (bo ba bl : Nat) (Al : Option Addr) (cl : Nat) (l : List Int) (c : Nat) (w : World) (hc : c < 1000000) (h1 : Blk w bo 4 #[.bool true]) (h2 : Blk w ba 3 #[.int .i64 (c : Int)]) (hne : bo ≠ ba) (hl1 : bl ≠ bo) (hl2 : bl ≠ ba)
    (h3 : Blk w bl 46 #[.slice Al l.length cl]) (B : Nat) (hB1 : B ≤ bo) (hB2 : B ≤ ba) (hr : Reads w B 1 Al l.length (ZL l)) :
    Calls Tryz.prog 21 #[.int .i64 (c : Int), .pointer (some ⟨bo, 0, none⟩), .pointer (some ⟨ba, 0, none⟩), .pointer (some ⟨bl, 0, none⟩)] w
      fun e w' => e = .returned (.int .i64 (valN l c)) ∧ (Blk w' bo 4 #[.bool true] ∧ Blk w' ba 3 #[.int .i64 ((c : Int) + 1)]) ∧ Only (fun k => k = bo ∨ k = ba) w w' := by
  obtain ⟨W, hW⟩ : ∃ W, W = (w.setCell ⟨bo, 0, none⟩ (.bool true)).setCell ⟨ba, 0, none⟩ (.int .i64 ((c : Int) + 1)) := ⟨_, rfl⟩
  have g1 : Hid (Blk W bo 4 #[.bool true]) := by subst hW; exact Lib.hid (by simpa using (h1.set_ 0 (.bool true)).far (by exact hne) _)
  have g2 : Hid (Blk W ba 3 #[.int .i64 ((c : Int) + 1)]) := by subst hW; exact Lib.hid (by simpa using (h2.far (by exact Ne.symm hne) (.bool true)).set_ 0 (.int .i64 ((c : Int) + 1)))
  have g3 : Hid (Blk W bl 46 #[.slice Al l.length cl]) := by subst hW; exact Lib.hid ((h3.far (by exact hl1) _).far (by exact hl2) _)
  have g4 : Hid (Only (fun k => k = bo ∨ k = ba) w W) := by subst hW; exact Lib.hid (((Only.refl _ _).setCell (.inl (.inl rfl)) _).setCell (.inl (.inr rfl)) _)
  have HR : Hid (Reads W B 1 Al l.length (ZL l)) := by subst hW; exact Lib.hid ((hr.setCell (by exact hB1) _).setCell (by exact hB2) _)
  have c1 := h1.cell 0
  have f1 := h1.frozen 0
  have c2 := (h2.far (p := ⟨bo, 0, none⟩) (Ne.symm hne) (.bool true)).cell 0
  have f2 := (h2.far (p := ⟨bo, 0, none⟩) (Ne.symm hne) (.bool true)).frozen 0
  have c2' := h2.cell 0
  have c3 := g3.out.cell 0
  simp at c1 c2 c3 c2'
  have hcc : ((c : Int) == (c : Int)) = true := by simp
  have hw : IntKind.i64.wrap ((c : Int) + 1) = (c : Int) + 1 := IntWalk.i64_in _ (by omega)
  clear hr h1 h2 h3 hB1 hB2
  go_enter Tryz.func21, Tryz.ntmps21
  go_upto_region 3 with (fail)
  rw [← hW]
  clear hW c1 f1 c2 f2 c2'
  go_wp2_with fail
  refine (value_any Al cl l c W B hc HR.out).mono ?_
  rintro e w' ⟨rfl, hw⟩
  replace hw := hw.symm
  subst hw
  go_wp2_with fail
  go_ret
  exact ⟨rfl, ⟨g1.out, g2.out⟩, g4.out⟩
set_option maxRecDepth 100000 in
set_option maxHeartbeats 8000000 in
theorem tellsLaw_any (N : Int) (A : Option Addr) (n c : Nat) (T : List Tri) (Al : Option Addr) (nl cl : Nat) (l : List Int) (ci vi : Int) (w : World) (hnl : l.length = nl) (hnl2 : nl ≤ 9223372036854775807) (ht : TrisAt w w.heap.size A n T) (hl : Reads w w.heap.size 1 Al nl (ZL l)) :
    Calls Tryz.prog 4 #[.agg #[.int .i64 N, .slice A n c], .slice Al nl cl, .int .i64 ci, .int .i64 vi] w (BoolPost w true) := by
  obtain rfl : n = T.length := ht.len.symm
  subst hnl
  have HT := Lib.hid ht
  have HRL := Lib.hid hl
  clear ht hl
  obtain ⟨V, hV⟩ : ∃ V, V = (w.alloc (.cells #[.int .i64 N, .slice A T.length c] 24)).alloc (.cells #[.slice Al l.length cl] 46) := ⟨_, rfl⟩
  have GA0 : Hid (Blk V w.heap.size 24 #[.int .i64 N, .slice A T.length c]) := by subst hV; exact Lib.hid ((Blk.new _ _ _).alloc _)
  have GL0 : Hid (Blk V (w.heap.size + 1) 46 #[.slice Al l.length cl]) := by subst hV; exact Lib.hid (blk_new1 _ _ _ _)
  have HB0 : Hid (Below w.heap.size w V) := by subst hV; exact Lib.hid (bw_alloc (bw_alloc (Below.refl _ _) _) _)
  go_enter Tryz.func4, Tryz.ntmps4
  go_upto_region 1 with (fail)
  rw [← hV]
  clear hV
  obtain ⟨ga, hga⟩ : ∃ g, g = w.heap.size := ⟨_, rfl⟩
  obtain ⟨gl, hgl⟩ : ∃ g, g = w.heap.size + 1 := ⟨_, rfl⟩
  rw [← hgl] at GL0 ⊢
  rw [← hga] at GA0
  simp only [← hga]
  clear hga hgl
  go_wp2_with fail
  refine (awake_any V).mono ?_
  rintro e w1 ⟨rfl, hb⟩
  have GA1 := Lib.hid (blk_call GA0.out hb)
  have GL1 := Lib.hid (blk_call GL0.out hb)
  have HB1 := Lib.hid (bw_call HB0.out hb)
  clear hb HB0 GA0 GL0
  obtain ⟨s0, s1, _, _, _⟩ := soup_facts GA1.out
  go_wp2_with fail
  refine (table12_any N A c T w1 ((HT.out.below HB1.out).more HB1.out.size)).mono ?_
  rintro e w2 (⟨rfl, hb, hno⟩ | ⟨g, m, rfl, hT40, hck, rfl, htab, hb⟩)
  · have GA2 := Lib.hid (blk_call GA1.out hb)
    have HB2 := Lib.hid (bw_call HB1.out hb)
    clear hb GL1 GA1 HB1 s0 s1
    obtain ⟨s0, s1, _, _, _⟩ := soup_facts GA2.out
    by_cases hT40 : 40 < T.length
    · have hi : (40 : Int) < (T.length : Int) := by omega
      go_wp2_with fail
      go_ret
      exact ⟨rfl, HB2.out⟩
    have hi : ¬ (40 : Int) < (T.length : Int) := by omega
    have hck := hno.resolve_left hT40
    have HIS := Lib.hid (is15_any N A c T w2 (by omega) ((HT.out.below HB2.out).more HB2.out.size))
    rw [decide_eq_false hck] at HIS
    clear hno hck
    go_wp2_with fail
    refine HIS.out.mono ?_
    rintro e w4 ⟨rfl, hb⟩
    go_wp2_with fail
    go_ret
    exact ⟨rfl, bw_call HB2.out hb⟩
  have GA2 := Lib.hid (blk_call GA1.out hb)
  have GL2 := Lib.hid (blk_call GL1.out hb)
  have HB2 := Lib.hid (bw_call HB1.out hb)
  have HT2 := Lib.hid htab
  clear hb GL1 GA1 HB1 s0 s1 htab hck
  obtain ⟨w3, hw3⟩ : ∃ w3, w3 = (w2.alloc (.cells #[.int .i64 0] 3)).alloc (.cells #[.bool true] 4) := ⟨_, rfl⟩
  have GA3 : Hid (Blk w3 ga 24 #[.int .i64 (m : Int), .slice A T.length c]) := by subst hw3; exact Lib.hid ((GA2.out.alloc _).alloc _)
  have GL3 : Hid (Blk w3 gl 46 #[.slice Al l.length cl]) := by subst hw3; exact Lib.hid ((GL2.out.alloc _).alloc _)
  have GB3 : Hid (Blk w3 w2.heap.size 3 #[.int .i64 0]) := by subst hw3; exact Lib.hid ((Blk.new _ _ _).alloc _)
  have GO3 : Hid (Blk w3 (w2.heap.size + 1) 4 #[.bool true]) := by subst hw3; exact Lib.hid (blk_new1 _ _ _ _)
  have HT3 : Hid (TabN w3 g m T) := by subst hw3; exact Lib.hid ((HT2.out.alloc _).alloc _)
  have HB3 : Hid (Below w.heap.size w w3) := by subst hw3; exact Lib.hid (bw_alloc (bw_alloc HB2.out _) _)
  have HQ : Hid (w.heap.size ≤ w2.heap.size ∧ ga < w2.heap.size ∧ gl < w2.heap.size) := Lib.hid ⟨HB2.out.size, GA2.out.lt, GL2.out.lt⟩
  clear GA2 GL2 HB2
  go_upto_region 7 with (fail)
  rw [← hw3]
  have HB23 : Hid (Below w2.heap.size w2 w3) := by subst hw3; exact Lib.hid (bw_alloc (bw_alloc (Below.refl _ _) _) _)
  clear hw3
  obtain ⟨ba, hba⟩ : ∃ g, g = w2.heap.size := ⟨_, rfl⟩
  obtain ⟨bo, hbo⟩ : ∃ g, g = w2.heap.size + 1 := ⟨_, rfl⟩
  rw [← hbo] at GO3 ⊢
  rw [← hba] at GB3 HQ
  have HQ2 : Hid (bo ≠ ba ∧ gl ≠ bo ∧ gl ≠ ba ∧ ga ≠ bo ∧ ga ≠ ba ∧ w.heap.size ≤ ba ∧ w.heap.size ≤ bo) := Lib.hid (by have := HQ.out; omega)
  simp only [← hba]
  have HR3 := Lib.hid (HRL.out.below HB3.out)
  have HQ3 : Hid (∀ k, k < w2.heap.size → ¬ (k = bo ∨ k = ba)) := Lib.hid (by omega)
  clear hba hbo HQ
  obtain ⟨n3, hn3⟩ : ∃ n3, n3 = 3 * T.length := ⟨_, rfl⟩
  have HN3 := Lib.hid hn3
  have hn120 : n3 ≤ 120 := by omega
  clear hn3
  go_wp2_with fail
  refine (newI_any 21 #[.pointer (some ⟨bo, 0, none⟩), .pointer (some ⟨ba, 0, none⟩), .pointer (some ⟨gl, 0, none⟩)] (enters_of Tryz.func21 (by kernel_rfl) rfl) g m T (fun k => k = bo ∨ k = ba) (fun c W => Blk W bo 4 #[.bool true] ∧ Blk W ba 3 #[.int .i64 (c : Int)]) (valN l) w3 (by omega) HT3.out
    (fun k hk => hk.elim (fun e => e ▸ GO3.out.lt) (fun e => e ▸ GB3.out.lt)) (fun c W W' h hb => ⟨h.1.below hb GO3.out.lt, h.2.below hb GB3.out.lt⟩) ⟨GO3.out, GB3.out⟩
    (fun c W hc hJ ho => (tellsF_any bo ba gl Al cl l c W (by omega) hJ.1 hJ.2 HQ2.out.1 HQ2.out.2.1 HQ2.out.2.2.1 (GL3.out.only ho (fun hf => hf.elim HQ2.out.2.1 HQ2.out.2.2.1)) w.heap.size HQ2.out.2.2.2.2.2.2 HQ2.out.2.2.2.2.2.1
      (HR3.out.only ho HB3.out.size (fun k hk hf => by have := HQ2.out; omega))).mono fun e W' h => ⟨h.1, ⟨h.2.1.1, h.2.1.2⟩, h.2.2⟩)).mono ?_
  rintro e w4 ⟨gf, Af, cf, rfl, hf, ⟨ho4, hb4⟩, hon⟩
  rw [← HN3.out] at hf hb4
  have HF4 := Lib.hid hf
  have GO4 := Lib.hid ho4
  have GB4 := Lib.hid hb4
  have GA4 := Lib.hid (GA3.out.only hon (fun hf => hf.elim HQ2.out.2.2.2.1 HQ2.out.2.2.2.2.1))
  have GL4 := Lib.hid (GL3.out.only hon (fun hf => hf.elim HQ2.out.2.1 HQ2.out.2.2.1))
  have HB34 : Hid (Below w.heap.size w3 w4) := Lib.hid (hon.below HB3.out.size (fun k hk hf => by have := HQ2.out; omega))
  have HB4 : Hid (Below w.heap.size w w4) := Lib.hid (HB3.out.trans HB34.out)
  have HT4 : Hid (TabN w4 g m T) := Lib.hid (HT2.out.below (Below.trans HB23.out (hon.below HB23.out.size HQ3.out)))
  obtain ⟨BF, hBF⟩ : ∃ BF, BF = w3.heap.size := ⟨_, rfl⟩
  rw [← hBF] at HF4
  clear hf ho4 hb4 hon GO3 GB3 GA3 GL3 HB3 HT3 HR3 HB34 hBF HT2 HB23 HQ3
  obtain ⟨s0, s1, _, _, _⟩ := soup_facts GA4.out
  have q0 := GL4.out.cell 0
  simp at q0
  have HC : Hid (∀ k, k < n3 → ((List.range n3).map (valN l))[k]? = some (valN l k)) := Lib.hid fun k hk => by simp [hk]
  have hlm : ((List.range n3).map (valN l)).length = n3 := by simp
  go_wp2_with fail
  refine (list_any (m : Int) A c T Al cl l w4 (by omega) ((HRL.out.below HB4.out).more HB4.out.size)).mono ?_
  rintro e w5 ⟨Aw, cw, rfl, hown, hb⟩
  rw [← HN3.out, hlm] at hown
  rw [← HN3.out, hlm]
  have HW5 : Hid (Reads w5 w5.heap.size 1 Aw n3 (((List.range n3).map (valN l)).flatMap cellsI)) := Lib.hid (Reads.of_own hown)
  have HF5 := Lib.hid (HF4.out.below hb)
  have GO5 := Lib.hid (blk_call GO4.out hb)
  have GB5 := Lib.hid (blk_call GB4.out hb)
  have GA5 := Lib.hid (blk_call GA4.out hb)
  have HB5 := Lib.hid (bw_call HB4.out hb)
  have HT5 := Lib.hid (HT4.out.below hb)
  clear hown hb HF4 GO4 GB4 GA4 GL4 HB4 HT4 s0 s1 q0 HQ2
  have o0 := GO5.out.cell 0
  have b0 := GB5.out.cell 0
  simp at o0 b0
  go_wp2_with fail
  refine (allF_any gf g BF n3 Af cf (valN l) w5 (by omega) HF5.out).mono ?_
  rintro e w6 ⟨Aq, cq, rfl, hown, hb⟩
  rw [hlm] at hown
  rw [hlm]
  have HQ6 : Hid (Reads w6 w6.heap.size 1 Aq n3 (((List.range n3).map (valN l)).flatMap cellsI)) := Lib.hid (Reads.of_own hown)
  have HW6 := Lib.hid ((HW5.out.below hb).more hb.size)
  have HF6 := Lib.hid (HF5.out.below hb)
  have GA6 := Lib.hid (blk_call GA5.out hb)
  have HB6 := Lib.hid (bw_call HB5.out hb)
  have HT6 := Lib.hid (HT5.out.below hb)
  clear hown hb HF5 GO5 GB5 GA5 HB5 HT5 HW5 o0 b0
  go_wp2_with fail
  refine (refInts_any ((List.range n3).map (valN l)) Aq Aw n3 cq cw w6 (by omega) (by rw [← cellsI_zl]; exact HQ6.out) (by rw [← cellsI_zl]; exact HW6.out)).mono ?_
  rintro e w7 ⟨rfl, hb⟩
  have HW7 := Lib.hid ((HW6.out.below hb).more hb.size)
  have HF7 := Lib.hid (HF6.out.below hb)
  have GA7 := Lib.hid (blk_call GA6.out hb)
  have HB7 := Lib.hid (bw_call HB6.out hb)
  have HT7 := Lib.hid (HT6.out.below hb)
  clear hb HF6 GA6 HB6 HT6 HW6 HQ6
  obtain ⟨s0, s1, _, _, _⟩ := soup_facts GA7.out
  obtain ⟨L, hRL⟩ := ringL_ex HT7.out.s vi
  have HRL3 := Lib.hid hRL
  have hL3 := hRL.len
  have hLv := valsL_len (l := valN l) L
  have HREF : Hid (∀ W, Below w.heap.size w W → Reads W W.heap.size 1 Aw n3 (((List.range n3).map (valN l)).flatMap cellsI) → Calls Tryz.prog 27 #[.agg #[.int .i64 (m : Int), .slice A T.length c], .slice Aw n3 cw, .int .i64 vi] W (ValPI (valsL (valN l) L) W)) := Lib.hid fun W h hr => by
    have := refValues_any (m : Int) A c T m vi L Aw cw ((List.range n3).map (valN l)) W (by omega) HT7.out.s HRL3.out ((HT.out.below h).more h.size) (by rw [hlm]; exact HN3.out) (by rw [hlm, ← cellsI_zl]; exact hr)
    rw [hlm, valsL_congr (g := valN l) (fun c hc => getD_range (valN l) (by rw [HN3.out]; exact HRL3.out.lt c hc))] at this
    exact this
  clear hRL HT HRL
  go_wp2_with fail
  refine (atI_any gf g n3 BF Af cf (valN l) ci w7 (by omega) HF7.out).mono ?_
  rintro e w' ⟨rfl, hw⟩
  replace hw := hw.symm
  subst hw
  by_cases hc0 : ci < 0
  · rw [if_neg (by omega)]
    go_wp2_with fail
    refine (HREF.out w7 HB7.out HW7.out).mono ?_
    rintro e w8 ⟨Ax, cx, rfl, hown, hb⟩
    have HX8 := Lib.hid (Reads.of_own hown)
    have HF8 := Lib.hid (HF7.out.below hb)
    have HB8 := Lib.hid (bw_call HB7.out hb)
    have HT8 := Lib.hid (HT7.out.below hb)
    clear hown hb HF7 HB7 HT7 GA7 HW7 s0 s1 HREF
    go_wp2_with fail
    refine (valuesI_any gf g m BF T Af cf (valN l) vi L w8 (by omega) (by rw [← HN3.out]; exact HF8.out) HT8.out HRL3.out).mono ?_
    rintro e w9 ⟨Ay, cy, rfl, hown, hb⟩
    have HY9 := Lib.hid (Reads.of_own hown)
    have HX9 := Lib.hid ((HX8.out.below hb).more hb.size)
    have HF9 := Lib.hid (HF8.out.below hb)
    have HB9 := Lib.hid (bw_call HB8.out hb)
    have HT9 := Lib.hid (HT8.out.below hb)
    clear hown hb HF8 HB8 HT8 HX8
    go_wp2_with fail
    refine (refInts_any (valsL (valN l) L) Ay Ax (valsL (valN l) L).length cy cx w9 (by omega) (by rw [← cellsI_zl]; exact HY9.out) (by rw [← cellsI_zl]; exact HX9.out)).mono ?_
    rintro e w10 ⟨rfl, hb⟩
    have HF10 := Lib.hid (HF9.out.below hb)
    have HB10 := Lib.hid (bw_call HB9.out hb)
    have HT10 := Lib.hid (HT9.out.below hb)
    clear hb HF9 HB9 HT9 HX9 HY9
    go_wp2_with fail
    refine (smoothI_any gf g m BF T Af cf (valN l) vi L w10 (by omega) (by rw [← HN3.out]; exact HF10.out) HT10.out HRL3.out).mono ?_
    rintro e w11 ⟨rfl, hb⟩
    have HB11 := Lib.hid (bw_call HB10.out hb)
    clear hb HF10 HB10 HT10
    generalize valsL (valN l) L = M at *
    by_cases h1 : M.length = 1
    · have e1 : (M.length : Int) = 1 := by omega
      rw [decide_eq_true h1]
      clear h1
      go_wp2_with fail
      go_ret
      exact ⟨rfl, HB11.out⟩
    · have e1 : ((M.length : Int) == 1) = false := by rw [beq_eq_false_iff_ne]; omega
      rw [decide_eq_false h1]
      go_wp2_with fail
      go_ret
      exact ⟨rfl, HB11.out⟩
  by_cases hc1 : (n3 : Int) ≤ ci
  · rw [if_neg (by omega)]
    go_wp2_with fail
    refine (HREF.out w7 HB7.out HW7.out).mono ?_
    rintro e w8 ⟨Ax, cx, rfl, hown, hb⟩
    have HX8 := Lib.hid (Reads.of_own hown)
    have HF8 := Lib.hid (HF7.out.below hb)
    have HB8 := Lib.hid (bw_call HB7.out hb)
    have HT8 := Lib.hid (HT7.out.below hb)
    clear hown hb HF7 HB7 HT7 GA7 HW7 s0 s1 HREF
    go_wp2_with fail
    refine (valuesI_any gf g m BF T Af cf (valN l) vi L w8 (by omega) (by rw [← HN3.out]; exact HF8.out) HT8.out HRL3.out).mono ?_
    rintro e w9 ⟨Ay, cy, rfl, hown, hb⟩
    have HY9 := Lib.hid (Reads.of_own hown)
    have HX9 := Lib.hid ((HX8.out.below hb).more hb.size)
    have HF9 := Lib.hid (HF8.out.below hb)
    have HB9 := Lib.hid (bw_call HB8.out hb)
    have HT9 := Lib.hid (HT8.out.below hb)
    clear hown hb HF8 HB8 HT8 HX8
    go_wp2_with fail
    refine (refInts_any (valsL (valN l) L) Ay Ax (valsL (valN l) L).length cy cx w9 (by omega) (by rw [← cellsI_zl]; exact HY9.out) (by rw [← cellsI_zl]; exact HX9.out)).mono ?_
    rintro e w10 ⟨rfl, hb⟩
    have HF10 := Lib.hid (HF9.out.below hb)
    have HB10 := Lib.hid (bw_call HB9.out hb)
    have HT10 := Lib.hid (HT9.out.below hb)
    clear hb HF9 HB9 HT9 HX9 HY9
    go_wp2_with fail
    refine (smoothI_any gf g m BF T Af cf (valN l) vi L w10 (by omega) (by rw [← HN3.out]; exact HF10.out) HT10.out HRL3.out).mono ?_
    rintro e w11 ⟨rfl, hb⟩
    have HB11 := Lib.hid (bw_call HB10.out hb)
    clear hb HF10 HB10 HT10
    generalize valsL (valN l) L = M at *
    by_cases h1 : M.length = 1
    · have e1 : (M.length : Int) = 1 := by omega
      rw [decide_eq_true h1]
      clear h1
      go_wp2_with fail
      go_ret
      exact ⟨rfl, HB11.out⟩
    · have e1 : ((M.length : Int) == 1) = false := by rw [beq_eq_false_iff_ne]; omega
      rw [decide_eq_false h1]
      go_wp2_with fail
      go_ret
      exact ⟨rfl, HB11.out⟩
  rw [if_pos (by omega)]
  obtain ⟨j, rfl⟩ := Int.eq_ofNat_of_zero_le (show 0 ≤ ci by omega)
  have hj : (j : Int) < (n3 : Int) := by omega
  rw [show (j : Int).toNat = j from rfl]
  obtain ⟨ad, rfl, hac⟩ := readCI HW7.out (HC.out j (by omega))
  have hvv : (valN l j != valN l j) = false := by simp
  go_wp2_with fail
  refine (HREF.out w7 HB7.out HW7.out).mono ?_
  rintro e w8 ⟨Ax, cx, rfl, hown, hb⟩
  have HX8 := Lib.hid (Reads.of_own hown)
  have HF8 := Lib.hid (HF7.out.below hb)
  have HB8 := Lib.hid (bw_call HB7.out hb)
  have HT8 := Lib.hid (HT7.out.below hb)
  clear hown hb HF7 HB7 HT7 GA7 HW7 s0 s1 HREF
  go_wp2_with fail
  refine (valuesI_any gf g m BF T Af cf (valN l) vi L w8 (by omega) (by rw [← HN3.out]; exact HF8.out) HT8.out HRL3.out).mono ?_
  rintro e w9 ⟨Ay, cy, rfl, hown, hb⟩
  have HY9 := Lib.hid (Reads.of_own hown)
  have HX9 := Lib.hid ((HX8.out.below hb).more hb.size)
  have HF9 := Lib.hid (HF8.out.below hb)
  have HB9 := Lib.hid (bw_call HB8.out hb)
  have HT9 := Lib.hid (HT8.out.below hb)
  clear hown hb HF8 HB8 HT8 HX8
  go_wp2_with fail
  refine (refInts_any (valsL (valN l) L) Ay Ax (valsL (valN l) L).length cy cx w9 (by omega) (by rw [← cellsI_zl]; exact HY9.out) (by rw [← cellsI_zl]; exact HX9.out)).mono ?_
  rintro e w10 ⟨rfl, hb⟩
  have HF10 := Lib.hid (HF9.out.below hb)
  have HB10 := Lib.hid (bw_call HB9.out hb)
  have HT10 := Lib.hid (HT9.out.below hb)
  clear hb HF9 HB9 HT9 HX9 HY9
  go_wp2_with fail
  refine (smoothI_any gf g m BF T Af cf (valN l) vi L w10 (by omega) (by rw [← HN3.out]; exact HF10.out) HT10.out HRL3.out).mono ?_
  rintro e w11 ⟨rfl, hb⟩
  have HB11 := Lib.hid (bw_call HB10.out hb)
  clear hb HF10 HB10 HT10
  generalize valsL (valN l) L = M at *
  by_cases h1 : M.length = 1
  · have e1 : (M.length : Int) = 1 := by omega
    rw [decide_eq_true h1]
    clear h1
    go_wp2_with fail
    go_ret
    exact ⟨rfl, HB11.out⟩
  · have e1 : ((M.length : Int) == 1) = false := by rw [beq_eq_false_iff_ne]; omega
    rw [decide_eq_false h1]
    go_wp2_with fail
    go_ret
    exact ⟨rfl, HB11.out⟩
end Go.Proofs.YtbdicndkkenbgaaGreat
