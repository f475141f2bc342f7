/- FieldSets, walked. -/
import Derived.Test.YtbdicndkkenbgaaGreatWake16
import Derived.Test.YtbdicndkkenbgaaGreatIsW15
import Derived.Test.YtbdicndkkenbgaaGreatAll16
import Derived.Test.YtbdicndkkenbgaaGreatList16
import Derived.Test.YtbdicndkkenbgaaGreatR16V
import Derived.Test.YtbdicndkkenbgaaGreatFldSet
namespace Go.Proofs.YtbdicndkkenbgaaGreat
open Go.RowKit

set_option linter.unusedSimpArgs false
set_option linter.unusedVariables false
theorem valsL_congr {α : Type} [DecidableEq α] {f g : Nat → α} {L : List Nat} (h : ∀ c ∈ L, f c = g c) : valsL f L = valsL g L := by
  revert h
  refine snocInd (P := fun L => (∀ c ∈ L, f c = g c) → valsL f L = valsL g L) (fun _ => rfl) (fun L c ih h => ?_) L
  rw [valsL_snoc, valsL_snoc, ih (fun c hc => h c (by simp [hc])), h c (by simp)]
theorem getD_range (V : Nat → Int) {n i : Nat} (h : i < n) : ((List.range n).map V).getD i 0 = V i := by
  rw [List.getD_eq_getElem?_getD, List.getElem?_map, List.getElem?_range h]
  rfl
attribute [local irreducible] Blk LRow World.alloc World.setCell World.cell? World.frozen? MapV
set_option maxHeartbeats 4000000 in
theorem setsF_any (bl : Nat) (Al : Option Addr) (cl : Nat) (l : List Int) (c : Nat) (w : World) (hc : c < 1000000) (h1 : w.cell? ⟨bl, 0, none⟩ = some (.slice Al l.length cl))
    (hr : Reads w w.heap.size 1 Al l.length (ZL l)) :
    Calls Tryz.prog 30 #[.int .i64 (c : Int), .pointer (some ⟨bl, 0, none⟩)] w (IntPost w (valN l c)) := by
  have HR := Lib.hid hr
  clear hr
  go_enter Tryz.func30, Tryz.ntmps30
  go_wp2_with fail
  refine (value_any Al cl l c w w.heap.size hc HR.out).mono ?_
  rintro e w' ⟨rfl, hw⟩
  replace hw := hw.symm
  subst hw
  go_wp2_with fail
  go_ret
  exact ⟨rfl, Below.refl _ _⟩
set_option maxRecDepth 100000 in
set_option maxHeartbeats 8000000 in
theorem setsLaw_any (N : Int) (A : Option Addr) (n c : Nat) (T : List Tri) (Al : Option Addr) (nl cl : Nat) (l : List Int) (ci av : Int) (w : World) (hnl : l.length = nl) (hnl2 : nl ≤ 9223372036854775807) (ht : TrisAt w w.heap.size A n T) (hl : Reads w w.heap.size 1 Al nl (ZL l)) :
    Calls Tryz.prog 5 #[.agg #[.int .i64 N, .slice A n c], .slice Al nl cl, .int .i64 ci, .int .i64 av] w (BoolPost w true) := by
  obtain rfl : n = T.length := ht.len.symm
  subst hnl
  have HT := Lib.hid ht
  have HRL := Lib.hid hl
  clear ht hl
  obtain ⟨V, hV⟩ : ∃ V, V = (w.alloc (.cells #[.int .i64 N, .slice A T.length c] 24)).alloc (.cells #[.slice Al l.length cl] 46) := ⟨_, rfl⟩
  have GA0 : Hid (Blk V w.heap.size 24 #[.int .i64 N, .slice A T.length c]) := by subst hV; exact Lib.hid ((Blk.new _ _ _).alloc _)
  have GL0 : Hid (Blk V (w.heap.size + 1) 46 #[.slice Al l.length cl]) := by subst hV; exact Lib.hid (blk_new1 _ _ _ _)
  have HB0 : Hid (Below w.heap.size w V) := by subst hV; exact Lib.hid (bw_alloc (bw_alloc (Below.refl _ _) _) _)
  go_enter Tryz.func5, Tryz.ntmps5
  go_upto_region 1 with (fail)
  rw [← hV]
  clear hV
  obtain ⟨ga, hga⟩ : ∃ g, g = w.heap.size := ⟨_, rfl⟩
  obtain ⟨gl, hgl⟩ : ∃ g, g = w.heap.size + 1 := ⟨_, rfl⟩
  rw [← hgl] at GL0 ⊢
  rw [← hga] at GA0
  simp only [← hga]
  clear hga hgl
  go_wp2_with fail
  refine (awake_any V).mono ?_
  rintro e w1 ⟨rfl, hb⟩
  have GA1 := Lib.hid (blk_call GA0.out hb)
  have GL1 := Lib.hid (blk_call GL0.out hb)
  have HB1 := Lib.hid (bw_call HB0.out hb)
  clear hb HB0 GA0 GL0
  obtain ⟨s0, s1, _, _, _⟩ := soup_facts GA1.out
  go_wp2_with fail
  refine (table12_any N A c T w1 ((HT.out.below HB1.out).more HB1.out.size)).mono ?_
  rintro e w2 (⟨rfl, hb, hno⟩ | ⟨g, m, rfl, hT40, hck, rfl, htab, hb⟩)
  · have GA2 := Lib.hid (blk_call GA1.out hb)
    have HB2 := Lib.hid (bw_call HB1.out hb)
    clear hb GL1 GA1 HB1 s0 s1
    obtain ⟨s0, s1, _, _, _⟩ := soup_facts GA2.out
    by_cases hT40 : 40 < T.length
    · have hi : (40 : Int) < (T.length : Int) := by omega
      go_wp2_with fail
      go_ret
      exact ⟨rfl, HB2.out⟩
    have hi : ¬ (40 : Int) < (T.length : Int) := by omega
    have hck := hno.resolve_left hT40
    have HIS := Lib.hid (is15_any N A c T w2 (by omega) ((HT.out.below HB2.out).more HB2.out.size))
    rw [decide_eq_false hck] at HIS
    clear hno hck
    go_wp2_with fail
    refine HIS.out.mono ?_
    rintro e w4 ⟨rfl, hb⟩
    go_wp2_with fail
    go_ret
    exact ⟨rfl, bw_call HB2.out hb⟩
  have GA2 := Lib.hid (blk_call GA1.out hb)
  have GL2 := Lib.hid (blk_call GL1.out hb)
  have HB2 := Lib.hid (bw_call HB1.out hb)
  have HT2 := Lib.hid htab
  clear hb GL1 GA1 HB1 s0 s1 htab hck
  have HRW : Hid (∀ W, Below w2.heap.size w2 W → Reads W W.heap.size 1 Al l.length (ZL l)) := Lib.hid fun W h => (HRL.out.below (bw_call HB2.out h)).more (bw_call HB2.out h).size
  obtain ⟨n3, hn3⟩ : ∃ n3, n3 = 3 * T.length := ⟨_, rfl⟩
  have HN3 := Lib.hid hn3
  have hn120 : n3 ≤ 120 := by omega
  clear hn3
  go_wp2_with fail
  refine (newI_pure 30 #[.pointer (some ⟨gl, 0, none⟩)] (enters_of Tryz.func30 (by kernel_rfl) rfl) g m T (fun k => valN l k) w2 (by omega) HT2.out
    (fun k W hk hW => setsF_any gl Al cl l k W (by omega) ((hW.cell (p := ⟨gl, 0, none⟩) GL2.out.lt).trans (GL2.out.cell 0)) (HRW.out W hW))).mono ?_
  rintro e w4 ⟨gf, Af, cf, rfl, hf, hb⟩
  rw [← HN3.out] at hf
  have HF4 : Hid (FAt w4 91 3 1 w.heap.size gf g Af cf n3 ((List.range n3).flatMap fun i => cellsI (valN l i))) := Lib.hid (hf.base HB2.out.size)
  have GA4 := Lib.hid (blk_call GA2.out hb)
  have GL4 := Lib.hid (blk_call GL2.out hb)
  have HT4 := Lib.hid (HT2.out.below hb)
  have HB4 := Lib.hid (bw_call HB2.out hb)
  have HG4 : Hid (∀ gr, Af = some ⟨gr, 0, none⟩ → 0 < n3 → w.heap.size ≤ gr ∧ w2.heap.size ≤ gr ∧ gr < w4.heap.size ∧ gf ≠ gr) := Lib.hid fun gr hg hn => by
    obtain ⟨gr', hg', hb', hlt, ⟨u, hu⟩, hz⟩ := own_pt hf.r hn
    rw [hg'] at hg
    cases hg
    have hs2 := HB2.out.size
    refine ⟨by omega, hb', hlt, fun e => ?_⟩
    obtain ⟨ds, hd⟩ := own_blk hf.r (k := gr) (by rw [hg']; rfl)
    exact hd.ne_ hf.b (by decide) e.symm
  have HGF : Hid (gf < w4.heap.size ∧ ga < w2.heap.size ∧ w2.heap.size ≤ w4.heap.size ∧ w.heap.size ≤ w2.heap.size) := Lib.hid ⟨hf.b.lt, GA2.out.lt, hb.size, HB2.out.size⟩
  have HC4 : Hid (Below w2.heap.size w2 w4) := Lib.hid hb
  clear hf hb GA2 GL2 HRW HB2
  obtain ⟨s0, s1, _, _, _⟩ := soup_facts GA4.out
  have q0 := GL4.out.cell 0
  simp at q0
  have hlm : ∀ V : Nat → Int, ((List.range n3).map V).length = n3 := fun V => by simp
  go_wp2_with fail
  refine (list_any (m : Int) A c T Al cl l w4 (by omega) ((HRL.out.below HB4.out).more HB4.out.size)).mono ?_
  rintro e w5 ⟨Aw, cw, rfl, hown, hb⟩
  rw [← HN3.out, hlm] at hown
  rw [← HN3.out, hlm]
  have HW5 := Lib.hid hown
  have HF5 := Lib.hid (HF4.out.below hb)
  have GA5 := Lib.hid (blk_call GA4.out hb)
  have HB5 := Lib.hid (bw_call HB4.out hb)
  have HT5 := Lib.hid (HT4.out.below hb)
  have HC5 := Lib.hid (bw_call HC4.out hb)
  clear hown hb HF4 GA4 GL4 HB4 HT4 s0 s1 q0 HC4
  by_cases hc : ci < 0 ∨ (n3 : Int) ≤ ci
  · have hsa : Hid (Calls Tryz.prog 31 #[.pointer (some ⟨gf, 0, none⟩), .int .i64 ci, .int .i64 av] w5 (IsPost w5 (.int .i64 2))) := Lib.hid (setI_out gf g n3 w.heap.size Af cf _ ci av w5 (by omega) hc HF5.out)
    go_wp2_with fail
    refine hsa.out.mono ?_
    rintro e w' ⟨rfl, hw⟩
    replace hw := hw.symm
    subst hw
    have HR5 := Lib.hid (Reads.of_own HW5.out)
    clear hsa HW5
    by_cases h0 : ci < 0
    · go_wp2_with fail
      refine (allF_any gf g w.heap.size n3 Af cf (valN l) w5 (by omega) HF5.out).mono ?_
      rintro e w6 ⟨Aq, cq, rfl, hown, hb⟩
      rw [hlm] at hown
      rw [hlm]
      have HQ6 := Lib.hid (Reads.of_own hown)
      have HW6 := Lib.hid ((HR5.out.below hb).more hb.size)
      have HB6 := Lib.hid (bw_call HB5.out hb)
      clear hown hb HF5 GA5 HB5 HT5 HR5
      go_wp2_with fail
      refine (refInts_any ((List.range n3).map (valN l)) Aq Aw n3 cq cw w6 (by omega) (by rw [← cellsI_zl]; exact HQ6.out) (by rw [← cellsI_zl]; exact HW6.out)).mono ?_
      rintro e w7 ⟨rfl, hb⟩
      have HB7 := Lib.hid (bw_call HB6.out hb)
      clear hb HB6 HW6 HQ6
      go_wp2_with fail
      go_ret
      exact ⟨rfl, HB7.out⟩
    · have h1 := hc.resolve_left h0
      go_wp2_with fail
      refine (allF_any gf g w.heap.size n3 Af cf (valN l) w5 (by omega) HF5.out).mono ?_
      rintro e w6 ⟨Aq, cq, rfl, hown, hb⟩
      rw [hlm] at hown
      rw [hlm]
      have HQ6 := Lib.hid (Reads.of_own hown)
      have HW6 := Lib.hid ((HR5.out.below hb).more hb.size)
      have HB6 := Lib.hid (bw_call HB5.out hb)
      clear hown hb HF5 GA5 HB5 HT5 HR5
      go_wp2_with fail
      refine (refInts_any ((List.range n3).map (valN l)) Aq Aw n3 cq cw w6 (by omega) (by rw [← cellsI_zl]; exact HQ6.out) (by rw [← cellsI_zl]; exact HW6.out)).mono ?_
      rintro e w7 ⟨rfl, hb⟩
      have HB7 := Lib.hid (bw_call HB6.out hb)
      clear hb HB6 HW6 HQ6
      go_wp2_with fail
      go_ret
      exact ⟨rfl, HB7.out⟩
  have h0 : ¬ ci < 0 := fun h => hc (.inl h)
  have h1 : ¬ (n3 : Int) ≤ ci := fun h => hc (.inr h)
  clear hc
  obtain ⟨j, rfl⟩ := Int.eq_ofNat_of_zero_le (show 0 ≤ ci by omega)
  have hj : j < n3 := by omega
  have hji : (j : Int) < (n3 : Int) := by omega
  clear h1 h0
  have h0 : ¬ (j : Int) < 0 := by omega
  obtain ⟨gr, rfl, _, _, _, _⟩ := own_pt HF5.out.r hj
  obtain ⟨gw, rfl, hgw, hgw2, _, _⟩ := own_pt HW5.out hj
  obtain ⟨hg1, hg2, hg3, hg4⟩ := HG4.out gr rfl (by omega)
  have HQ : Hid (gr ≠ gw ∧ w.heap.size ≤ gw ∧ w2.heap.size ≤ gw ∧ w.heap.size ≤ gr ∧ w2.heap.size ≤ gr ∧ gf ≠ gr ∧ gf ≠ gw ∧ ga ≠ gr ∧ ga ≠ gw) := Lib.hid (by have := HGF.out; omega)
  clear hg1 hg2 hg3 hg4 hgw hgw2 HG4 HGF
  have hsa : Hid (Calls Tryz.prog 31 #[.pointer (some ⟨gf, 0, none⟩), .int .i64 (j : Int), .int .i64 av] w5 fun e w' => e = .returned (.int .i64 0) ∧ w' = w5.setCell ⟨gr, j, none⟩ (.int .i64 av)) := Lib.hid (setI_in gf g n3 w.heap.size gr cf _ j av w5 (by omega) hj HF5.out)
  obtain ⟨V', hV'⟩ : ∃ V', V' = updN (valN l) j av := ⟨_, rfl⟩
  go_wp2_with fail
  refine hsa.out.mono ?_
  rintro e w6 ⟨rfl, hw6⟩
  have HF6 : Hid (FAt w6 91 3 1 w.heap.size gf g (some ⟨gr, 0, none⟩) cf n3 ((List.range n3).flatMap fun i => cellsI (V' i))) := by subst hw6 hV'; exact Lib.hid (HF5.out.set_ HQ.out.2.2.2.2.2.1 j av)
  have HW6 : Hid (w6.ownsRow w4.heap.size 3 1 (.slice (some ⟨gw, 0, none⟩) n3 cw) n3 (((List.range n3).map (valN l)).flatMap cellsI)) := by
    subst hw6
    exact Lib.hid (own_same HW5.out fun k hk => heap_setCell_other w5 ⟨gr, j, none⟩ k _ (fun e => HQ.out.1 (by simp only [Value.ownBlock, Option.some.injEq] at hk; dsimp only at e hk; omega)))
  have GA6 : Hid (Blk w6 ga 24 #[.int .i64 (m : Int), .slice A T.length c]) := by subst hw6; exact Lib.hid (GA5.out.far (p := ⟨gr, j, none⟩) HQ.out.2.2.2.2.2.2.2.1 _)
  have HB6 : Hid (Below w.heap.size w w6) := by subst hw6; exact Lib.hid (HB5.out.setCell (p := ⟨gr, j, none⟩) HQ.out.2.2.2.1 _)
  have HC6 : Hid (Below w2.heap.size w2 w6) := by subst hw6; exact Lib.hid (HC5.out.setCell (p := ⟨gr, j, none⟩) HQ.out.2.2.2.2.1 _)
  clear hw6 hsa HF5 HW5 GA5 HB5 HC5 HT5
  obtain ⟨gw', hgw', _, _, ⟨u, hu⟩, hz⟩ := own_pt HW6.out hj
  cases hgw'
  obtain ⟨w7, hw7⟩ : ∃ w7, w7 = w6.setCell ⟨gw, j, none⟩ (.int .i64 av) := ⟨_, rfl⟩
  have HF7 : Hid (FAt w7 91 3 1 w.heap.size gf g (some ⟨gr, 0, none⟩) cf n3 ((List.range n3).flatMap fun i => cellsI (V' i))) := by
    subst hw7
    exact Lib.hid ⟨HF6.out.b.far (p := ⟨gw, j, none⟩) HQ.out.2.2.2.2.2.2.1 _, own_same HF6.out.r fun k hk => heap_setCell_other w6 ⟨gw, j, none⟩ k _ (fun e => HQ.out.1 (by simp only [Value.ownBlock, Option.some.injEq] at hk; dsimp only at e hk; omega)), HF6.out.g0⟩
  have HOW7 : Hid (w7.ownsRow 0 3 1 (.slice (some ⟨gw, 0, none⟩) n3 cw) n3 (((List.range n3).map V').flatMap cellsI)) := by
    subst hw7 hV'
    exact Lib.hid (own_mono (map_set (valN l) n3 j av ▸ (HW6.out.stored j (.int .i64 av)).1) (Nat.zero_le _))
  have GA7 : Hid (Blk w7 ga 24 #[.int .i64 (m : Int), .slice A T.length c]) := by subst hw7; exact Lib.hid (GA6.out.far (p := ⟨gw, j, none⟩) HQ.out.2.2.2.2.2.2.2.2 _)
  have HB7 : Hid (Below w.heap.size w w7) := by subst hw7; exact Lib.hid (HB6.out.setCell (p := ⟨gw, j, none⟩) HQ.out.2.1 _)
  have HT7 : Hid (TabN w7 g m T) := by subst hw7; exact Lib.hid (HT2.out.below (HC6.out.setCell (p := ⟨gw, j, none⟩) HQ.out.2.2.1 _))
  clear HF6 HW6 GA6 HB6 HC6 HT2 HQ hV'
  go_upto_region 12 with (fail)
  rw [← hw7]
  clear hw7 hu hz
  go_wp2_with fail
  refine (allF_any gf g w.heap.size n3 (some ⟨gr, 0, none⟩) cf V' w7 (by omega) HF7.out).mono ?_
  rintro e w8 ⟨Aq, cq, rfl, hown, hb⟩
  rw [hlm] at hown
  rw [hlm]
  have HQ8 := Lib.hid (Reads.of_own hown)
  have HF8 := Lib.hid (HF7.out.below hb)
  have HOW8 := Lib.hid (own_up HOW7.out hb)
  have GA8 := Lib.hid (blk_call GA7.out hb)
  have HB8 := Lib.hid (bw_call HB7.out hb)
  have HT8 := Lib.hid (HT7.out.below hb)
  clear hown hb HF7 HOW7 GA7 HB7 HT7
  go_wp2_with fail
  refine (refInts_any ((List.range n3).map V') Aq (some ⟨gw, 0, none⟩) n3 cq cw w8 (by omega) (by rw [← cellsI_zl]; exact HQ8.out) (by rw [← cellsI_zl]; exact Reads.of_own HOW8.out)).mono ?_
  rintro e w9 ⟨rfl, hb⟩
  have HF9 := Lib.hid (HF8.out.below hb)
  have HOW9 := Lib.hid (own_up HOW8.out hb)
  have GA9 := Lib.hid (blk_call GA8.out hb)
  have HB9 := Lib.hid (bw_call HB8.out hb)
  have HT9 := Lib.hid (HT8.out.below hb)
  clear hb HQ8 HF8 HOW8 GA8 HB8 HT8
  obtain ⟨s0, s1, _, _, _⟩ := soup_facts GA9.out
  go_wp2_with fail
  refine (r15V_any (m : Int) A c T j w9 (by omega) (by have := HN3.out; omega) ((HT.out.below HB9.out).more HB9.out.size)).mono ?_
  rintro e w10 ⟨rfl, hb⟩
  have HFw10 := Lib.hid (HF9.out.below hb)
  have HOWw10 := Lib.hid (own_up HOW9.out hb)
  have GAw10 := Lib.hid (blk_call GA9.out hb)
  have HBw10 := Lib.hid (bw_call HB9.out hb)
  have HTTw10 := Lib.hid (HT9.out.below hb)
  clear hb HF9 HOW9 GA9 HB9 HT9 s0 s1
  obtain ⟨L, hRL⟩ := ringL_ex HTTw10.out.s (cv T j)
  have HRL3 := Lib.hid hRL
  have hL3 := hRL.len
  have hLv := valsL_len (l := V') L
  have HREF : Hid (∀ W, Below w.heap.size w W → Reads W W.heap.size 1 (some ⟨gw, 0, none⟩) n3 (((List.range n3).map V').flatMap cellsI) → Calls Tryz.prog 27 #[.agg #[.int .i64 (m : Int), .slice A T.length c], .slice (some ⟨gw, 0, none⟩) n3 cw, .int .i64 (cv T j)] W (ValPI (valsL V' L) W)) := Lib.hid fun W h hr => by
    have := refValues_any (m : Int) A c T m (cv T j) L (some ⟨gw, 0, none⟩) cw ((List.range n3).map V') W (by omega) HTTw10.out.s HRL3.out ((HT.out.below h).more h.size) (by rw [hlm]; exact HN3.out) (by rw [hlm, ← cellsI_zl]; exact hr)
    rw [hlm, valsL_congr (g := V') (fun c hc => getD_range V' (by rw [HN3.out]; exact HRL3.out.lt c hc))] at this
    exact this
  clear hRL HT HRL
  go_upto_region 15 with (fail)
  refine wp_region_till (S := fun w' => w'.cell? ⟨ga, 0, none⟩ = some (.int .i64 (m : Int)) ∧ w'.cell? ⟨ga, 1, none⟩ = some (.slice A T.length c)) 8 (by kernel_rfl) ⟨(soup_facts GAw10.out.drew).1, (soup_facts GAw10.out.drew).2.1⟩ (fun hHeld => ?_)
  refine Till.take (i := 0) (v := ?vt1) rfl (by kernel_rfl) (by kernel_rfl) (by kernel_rfl) (by kernel_rfl) (fun _ _ _ h => h) (Or.inl ⟨by rfl, ?ht1⟩) (by assumption) ?restt1
  case ht1 => (intro w hSw; (try dsimp only at hSw); go_simp; try with_reducible rfl)
  (try simp only [Act.put, List.setIfInBounds_toArray, List.set_cons_zero, List.set_cons_succ])
  refine Till.take (i := 1) (v := ?vt2) rfl (by kernel_rfl) (by kernel_rfl) (by kernel_rfl) (by kernel_rfl) (fun _ _ _ h => h) (Or.inl ⟨by rfl, ?ht2⟩) (by assumption) ?restt2
  case ht2 => (intro w hSw; (try dsimp only at hSw); go_simp; try with_reducible rfl)
  (try simp only [Act.put, List.setIfInBounds_toArray, List.set_cons_zero, List.set_cons_succ])
  refine Till.take (i := 3) (v := ?vt3) rfl (by kernel_rfl) (by kernel_rfl) (by kernel_rfl) (by kernel_rfl) (fun _ _ _ h => h) (Or.inl ⟨by rfl, ?ht3⟩) (by assumption) ?restt3
  case ht3 => (intro w hSw; (try dsimp only at hSw); go_simp; try with_reducible rfl)
  (try simp only [Act.put, List.setIfInBounds_toArray, List.set_cons_zero, List.set_cons_succ])
  refine Till.take (i := 4) (v := ?vt4) rfl (by kernel_rfl) (by kernel_rfl) (by kernel_rfl) (by kernel_rfl) (fun _ _ _ h => h) (Or.inl ⟨by rfl, ?ht4⟩) (by assumption) ?restt4
  case ht4 => (intro w hSw; (try dsimp only at hSw); go_simp; try with_reducible rfl)
  (try simp only [Act.put, List.setIfInBounds_toArray, List.set_cons_zero, List.set_cons_succ])
  refine Till.take (i := 5) (v := ?vt5) rfl (by kernel_rfl) (by kernel_rfl) (by kernel_rfl) (by kernel_rfl) (fun _ _ _ h => h) (Or.inl ⟨by rfl, ?ht5⟩) (by assumption) ?restt5
  case ht5 => (intro w hSw; (try dsimp only at hSw); go_simp; try with_reducible rfl)
  (try simp only [Act.put, List.setIfInBounds_toArray, List.set_cons_zero, List.set_cons_succ])
  refine Till.ready (rs := [2]) (by kernel_rfl) (by simp) ?_
  refine TillEach.cons rfl (fun K hK => ?_) ?_
  · go_simp
    go_wp2_with (go_at_call 28; refine (valuesI_any gf g m w.heap.size T (some ⟨gr, 0, none⟩) cf V' (cv T j) L w10.drew (by omega) (by rw [← HN3.out]; exact HFw10.out.drew) HTTw10.out.drew HRL3.out).mono ?_; rintro e v11 ⟨Ay, cy, rfl, hown, hb⟩)
    have GAv11 := Lib.hid (blk_call GAw10.out.drew hb)
    have HFv11 := Lib.hid (HFw10.out.drew.below hb)
    have HTTv11 := Lib.hid (HTTw10.out.drew.below hb)
    have HOWv11 := Lib.hid (own_up HOWw10.out.drew hb)
    have HOYv11 : Hid (v11.ownsRow 0 3 1 (.slice Ay (valsL V' L).length cy) (valsL V' L).length ((valsL V' L).flatMap cellsI)) := Lib.hid (own_mono hown (Nat.zero_le _))
    clear hown
    have HBv11 := Lib.hid (bw_call (bw_drew HBw10.out) hb)
    clear hb
    refine hK.out _ _ ?_ (fun hHeld => ?_)
    · exact ⟨(soup_facts GAv11.out).1, (soup_facts GAv11.out).2.1⟩
    clear hK K
    (try simp only [Act.put, List.setIfInBounds_toArray, List.set_cons_zero, List.set_cons_succ])
    refine Till.ready (rs := [6]) (by kernel_rfl) (by simp) ?_
    refine TillEach.cons rfl (fun K hK => ?_) ?_
    · go_simp
      go_wp2_with (go_at_call 27; refine (HREF.out v11 HBv11.out (Reads.of_own HOWv11.out)).mono ?_; rintro e v12 ⟨Ax, cx, rfl, hown, hb⟩)
      have GAv12 := Lib.hid (blk_call GAv11.out hb)
      have HFv12 := Lib.hid (HFv11.out.below hb)
      have HTTv12 := Lib.hid (HTTv11.out.below hb)
      have HOWv12 := Lib.hid (own_up HOWv11.out hb)
      have HOYv12 := Lib.hid (own_up HOYv11.out hb)
      have HOXv12 : Hid (v12.ownsRow 0 3 1 (.slice Ax (valsL V' L).length cx) (valsL V' L).length ((valsL V' L).flatMap cellsI)) := Lib.hid (own_mono hown (Nat.zero_le _))
      clear hown
      have HBv12 := Lib.hid (bw_call HBv11.out hb)
      clear hb GAv11 HFv11 HTTv11 HOWv11 HOYv11 HBv11
      refine hK.out _ _ ?_ (fun hHeld => ?_)
      · exact ⟨(soup_facts GAv12.out).1, (soup_facts GAv12.out).2.1⟩
      clear hK K
      (try simp only [Act.put, List.setIfInBounds_toArray, List.set_cons_zero, List.set_cons_succ])
      refine Till.ready (rs := [7]) (by kernel_rfl) (by simp) ?_
      refine TillEach.cons rfl (fun K hK => ?_) ?_
      · go_simp
        go_wp2_with (go_at_call 24; refine (refInts_any (valsL V' L) Ay Ax (valsL V' L).length cy cx v12 (by omega) (by rw [← cellsI_zl]; exact Reads.of_own HOYv12.out) (by rw [← cellsI_zl]; exact Reads.of_own HOXv12.out)).mono ?_; rintro e v13 ⟨rfl, hb⟩)
        have GAv13 := Lib.hid (blk_call GAv12.out hb)
        have HFv13 := Lib.hid (HFv12.out.below hb)
        have HTTv13 := Lib.hid (HTTv12.out.below hb)
        have HOWv13 := Lib.hid (own_up HOWv12.out hb)
        have HOYv13 := Lib.hid (own_up HOYv12.out hb)
        have HOXv13 := Lib.hid (own_up HOXv12.out hb)
        have HBv13 := Lib.hid (bw_call HBv12.out hb)
        clear hb GAv12 HFv12 HTTv12 HOWv12 HOYv12 HOXv12 HBv12
        refine hK.out _ _ ?_ (fun hHeld => ?_)
        · exact ⟨(soup_facts GAv13.out).1, (soup_facts GAv13.out).2.1⟩
        clear hK K
        (try simp only [Act.put, List.setIfInBounds_toArray, List.set_cons_zero, List.set_cons_succ])
        refine Till.ready (rs := [8]) (by kernel_rfl) (by simp) ?_
        refine TillEach.last rfl (fun K hK => ?_)
        · go_simp
          refine hK.out _ _ ?_
          clear hK K
          (try simp only [Act.put, List.setIfInBounds_toArray, List.set_cons_zero, List.set_cons_succ])
          refine Till.done (by kernel_rfl) ?_ _
          go_wp2_with fail
          go_ret
          exact ⟨rfl, HBv13.out⟩
      exact TillEach.nil
    exact TillEach.nil
  exact TillEach.nil
end Go.Proofs.YtbdicndkkenbgaaGreat
