/- FieldStruct, walked. -/
import Derived.Test.YtbdicndkkenbgaaGreatWake16
import Derived.Test.YtbdicndkkenbgaaGreatIsW15
import Derived.Test.YtbdicndkkenbgaaGreatFldAE
import Derived.Deep.QuietTactic
namespace Go.Proofs.YtbdicndkkenbgaaGreat
open Go.RowKit

set_option linter.unusedSimpArgs false
set_option linter.unusedVariables false
theorem valsL_injS {α : Type} [DecidableEq α] {f : Nat → α} (L : List Nat) (h : ∀ x ∈ L, ∀ y ∈ L, f x = f y → x = y) (hn : L.Nodup) : valsL f L = L.map f := by
  revert h hn
  refine snocInd (P := fun L => (∀ x ∈ L, ∀ y ∈ L, f x = f y → x = y) → L.Nodup → valsL f L = L.map f) (fun _ _ => rfl) (fun L c ih h hn => ?_) L
  have hn' := List.nodup_append.1 hn
  rw [valsL_snoc, ih (fun x hx y hy => h x (by simp [hx]) y (by simp [hy])) hn'.1, if_neg, List.map_append]
  · rfl
  · intro hm
    obtain ⟨y, hy, he⟩ := List.mem_map.1 hm
    have := h y (by simp [hy]) c (by simp) he
    subst this
    exact hn'.2.2 y hy y (by simp) rfl
theorem run_neE (a b : Int) (w : World) : (binOp .neq 32 (.agg #[.int .i64 a, .int .i64 b]) (.agg #[.int .i64 a, .int .i64 b])).run Tryz.prog w = .ok (.bool false) w := by
  rw [run_neq_struct]
  show ((Op.equalIn (9998 + 1 + 1) _ _ _).run _ _).andThen _ = _
  unfold Op.equalIn
  simp [go_sem, Tryz.underlying3, Result.andThen, List.range']
attribute [local irreducible] Blk LRow World.alloc World.setCell World.cell? World.frozen? MapV
set_option maxRecDepth 100000 in
set_option maxHeartbeats 8000000 in
theorem structLaw_any (N : Int) (A : Option Addr) (n c : Nat) (T : List Tri) (w : World) (ht : TrisAt w w.heap.size A n T) :
    Calls Tryz.prog 3 #[.agg #[.int .i64 N, .slice A n c]] w (BoolPost w true) := by
  obtain rfl : n = T.length := ht.len.symm
  have HT := Lib.hid ht
  clear ht
  obtain ⟨V, hV⟩ : ∃ V, V = w.alloc (.cells #[.int .i64 N, .slice A T.length c] 24) := ⟨_, rfl⟩
  have GA0 : Hid (Blk V w.heap.size 24 #[.int .i64 N, .slice A T.length c]) := by subst hV; exact Lib.hid (Blk.new _ _ _)
  have HB0 : Hid (Below w.heap.size w V) := by subst hV; exact Lib.hid (bw_alloc (Below.refl _ _) _)
  go_enter Tryz.func3, Tryz.ntmps3
  go_upto_region 1 with (fail)
  rw [← hV]
  clear hV
  obtain ⟨ga, hga⟩ : ∃ g, g = w.heap.size := ⟨_, rfl⟩
  rw [← hga] at GA0
  simp only [← hga]
  clear hga
  go_wp2_with fail
  refine (awake_any V).mono ?_
  rintro e w1 ⟨rfl, hb⟩
  have GA1 := Lib.hid (blk_call GA0.out hb)
  have HB1 := Lib.hid (bw_call HB0.out hb)
  clear hb HB0 GA0
  obtain ⟨s0, s1, _, _, _⟩ := soup_facts GA1.out
  go_wp2_with fail
  refine (table12_any N A c T w1 ((HT.out.below HB1.out).more HB1.out.size)).mono ?_
  rintro e w2 (⟨rfl, hb, hno⟩ | ⟨g, m, rfl, hT40, hck, rfl, htab, hb⟩)
  · have GA2 := Lib.hid (blk_call GA1.out hb)
    have HB2 := Lib.hid (bw_call HB1.out hb)
    clear hb GA1 HB1 s0 s1
    obtain ⟨w3, hw3⟩ : ∃ w3, w3 = w2.alloc (.cells #[.pointer none] 26) := ⟨_, rfl⟩
    have GA3 : Hid (Blk w3 ga 24 #[.int .i64 N, .slice A T.length c]) := by subst hw3; exact Lib.hid (GA2.out.alloc _)
    have GT3 : Hid (Blk w3 w2.heap.size 26 #[.pointer none]) := by subst hw3; exact Lib.hid (Blk.new _ _ _)
    have HB3 : Hid (Below w.heap.size w w3) := by subst hw3; exact Lib.hid (bw_alloc HB2.out _)
    clear GA2 HB2
    go_upto_region 4 with (fail)
    rw [← hw3]
    clear hw3
    obtain ⟨gt, hgt⟩ : ∃ g, g = w2.heap.size := ⟨_, rfl⟩
    rw [← hgt] at GT3 ⊢
    clear hgt
    have q0 := GT3.out.cell 0
    simp at q0
    obtain ⟨s0, s1, _, _, _⟩ := soup_facts GA3.out
    by_cases hT40 : 40 < T.length
    · have hi : (40 : Int) < (T.length : Int) := by omega
      go_wp2_with fail
      go_ret
      exact ⟨rfl, HB3.out⟩
    have hi : ¬ (40 : Int) < (T.length : Int) := by omega
    have hck := hno.resolve_left hT40
    have HIS := Lib.hid (is15_any N A c T w3 (by omega) ((HT.out.below HB3.out).more HB3.out.size))
    rw [decide_eq_false hck] at HIS
    clear hno hck
    go_wp2_with fail
    refine HIS.out.mono ?_
    rintro e w4 ⟨rfl, hb⟩
    go_wp2_with fail
    go_ret
    exact ⟨rfl, bw_call HB3.out hb⟩
  have GA2 := Lib.hid (blk_call GA1.out hb)
  have HB2 := Lib.hid (bw_call HB1.out hb)
  have HT2 := Lib.hid htab
  clear hb GA1 HB1 s0 s1 htab hck
  obtain ⟨w3, hw3⟩ : ∃ w3, w3 = w2.alloc (.cells #[.pointer (some ⟨g, 0, none⟩)] 26) := ⟨_, rfl⟩
  have GA3 : Hid (Blk w3 ga 24 #[.int .i64 (m : Int), .slice A T.length c]) := by subst hw3; exact Lib.hid (GA2.out.alloc _)
  have GT3 : Hid (Blk w3 w2.heap.size 26 #[.pointer (some ⟨g, 0, none⟩)]) := by subst hw3; exact Lib.hid (Blk.new _ _ _)
  have HT3 : Hid (TabN w3 g m T) := by subst hw3; exact Lib.hid (HT2.out.alloc _)
  have HB3 : Hid (Below w.heap.size w w3) := by subst hw3; exact Lib.hid (bw_alloc HB2.out _)
  clear GA2 HT2 HB2
  go_upto_region 4 with (fail)
  rw [← hw3]
  clear hw3
  obtain ⟨gt, hgt⟩ : ∃ g, g = w2.heap.size := ⟨_, rfl⟩
  rw [← hgt] at GT3 ⊢
  clear hgt
  have q0 := GT3.out.cell 0
  simp at q0
  go_wp2_with fail
  refine (newE_pure 11 #[.pointer (some ⟨gt, 0, none⟩)] (enters_of Tryz.func11 (by kernel_rfl) rfl) g m T (ce T) w3 (by omega) HT3.out
    (fun k W hk hW => structFE_any gt g m T k W hk ((hW.cell (p := ⟨gt, 0, none⟩) GT3.out.lt).trans (GT3.out.cell 0)) (Nat.lt_of_lt_of_le GT3.out.lt hW.size) (HT3.out.below hW))).mono ?_
  rintro e w4 ⟨gf, Af, cf, rfl, hf, hb⟩
  have HF4 := Lib.hid hf
  have GA4 := Lib.hid (blk_call GA3.out hb)
  have GT4 := Lib.hid (blk_call GT3.out hb)
  have HT4 := Lib.hid (HT3.out.below hb)
  have HB4 := Lib.hid (bw_call HB3.out hb)
  clear hf hb GA3 GT3 HT3 q0
  have q0 := GT4.out.cell 0
  simp at q0
  go_wp2_with fail
  refine (newQ_pure 14 #[.pointer (some ⟨gt, 0, none⟩)] (enters_of Tryz.func14 (by kernel_rfl) rfl) g m T (fun c : Nat => ((c : Int), optI (oppF T c))) w4 (by omega) HT4.out
    (fun k W hk hW => structFQ_any gt g m T k W hk ((hW.cell (p := ⟨gt, 0, none⟩) GT4.out.lt).trans (GT4.out.cell 0)) (Nat.lt_of_lt_of_le GT4.out.lt hW.size) (HT4.out.below hW))).mono ?_
  rintro e w5 ⟨gh, Ah, ch, rfl, hf, hb⟩
  have HG5 := Lib.hid hf
  have HF5 := Lib.hid (HF4.out.below hb)
  have GA5 := Lib.hid (blk_call GA4.out hb)
  have GT5 := Lib.hid (blk_call GT4.out hb)
  have HT5 := Lib.hid (HT4.out.below hb)
  have HB5 := Lib.hid (bw_call HB4.out hb)
  have hm4 := HT5.out.s.m1
  clear hf hb GA4 GT4 HT4 q0 HF4
  obtain ⟨BF, hBF⟩ : ∃ BF, BF = w3.heap.size := ⟨_, rfl⟩
  obtain ⟨BG, hBG⟩ : ∃ BG, BG = w4.heap.size := ⟨_, rfl⟩
  rw [← hBF] at HF5
  rw [← hBG] at HG5
  clear hBF hBG HB3
  have hm3 : IntKind.i64.wrap (3 * (T.length : Int)) = 3 * (T.length : Int) := IntWalk.i64_in _ (by omega)
  go_wp2_with fail
  go_loopw [6] (fun kv wr => ∃ k : Nat, k ≤ 3 * T.length ∧ kv = .int .i64 (k : Int) ∧ Hid (FAt wr 80 32 2 BF gf g Af cf (3 * T.length) ((List.range (3 * T.length)).flatMap fun i => cellsE (ce T i))) ∧ Hid (FAt wr 84 36 2 BG gh g Ah ch (3 * T.length) ((List.range (3 * T.length)).flatMap fun i => cellsQ ((fun c : Nat => ((c : Int), optI (oppF T c))) i))) ∧ Hid (Blk wr ga 24 #[.int .i64 (m : Int), .slice A T.length c]) ∧ Hid (Blk wr gt 26 #[.pointer (some ⟨g, 0, none⟩)]) ∧ Hid (TabN wr g m T) ∧ Hid (Below w.heap.size w wr)) (fun kv _ => 3 * T.length - (intOf kv).toNat)
  case atStart => exact ⟨0, by omega, rfl, HF5, HG5, GA5, GT5, HT5, HB5⟩
  case round =>
    obtain ⟨k, hk, rfl, HFA, HGA, GAA, GTA, HTA, HBA⟩ := hrel
    obtain ⟨wA, hwA⟩ : ∃ wA : World, wA = wr := ⟨_, rfl⟩
    rw [← hwA] at HFA HGA GAA GTA HTA HBA ⊢
    clear hwA HF5 HG5 GA5 GT5 HT5 HB5
    obtain ⟨s0, s1, _, _, _⟩ := soup_facts GAA.out
    by_cases hlt : k < 3 * T.length
    · have hki : (k : Int) < 3 * (T.length : Int) := by omega
      go_wp2_with fail
      refine (atE_in gf g (3 * T.length) BF Af cf (ce T) k wA (by omega) hlt HFA.out).mono ?_
      rintro e w6 ⟨rfl, hb⟩
      have HF6 := Lib.hid (HFA.out.below hb)
      have HG6 := Lib.hid (HGA.out.below hb)
      have GA6 := Lib.hid (blk_call GAA.out hb)
      have GT6 := Lib.hid (blk_call GTA.out hb)
      have HT6 := Lib.hid (HTA.out.below hb)
      have HB6 := Lib.hid (bw_call HBA.out hb)
      clear hb HFA HGA GAA GTA HTA HBA s0 s1
      obtain ⟨w7, hw7⟩ : ∃ X, X = w6.alloc (.cells #[.int .i64 (ce T k).1, .int .i64 (ce T k).2] 32) := ⟨_, rfl⟩
      have GE7 : Hid (Blk w7 w6.heap.size 32 #[.int .i64 (ce T k).1, .int .i64 (ce T k).2]) := by subst hw7; exact Lib.hid (Blk.new _ _ _)
      have h67 : Below w6.heap.size w6 w7 := by subst hw7; exact bw_alloc (Below.refl _ _) _
      have HF7 := Lib.hid (HF6.out.below h67)
      have HG7 := Lib.hid (HG6.out.below h67)
      have GA7 := Lib.hid (blk_call GA6.out h67)
      have GT7 := Lib.hid (blk_call GT6.out h67)
      have HT7 := Lib.hid (HT6.out.below h67)
      have HB7 := Lib.hid (bw_call HB6.out h67)
      clear h67 HF6 HG6 GA6 GT6 HT6 HB6
      go_upto_region 12 with (fail)
      rw [← hw7]
      clear hw7
      obtain ⟨ge, hge⟩ : ∃ ge, ge = w6.heap.size := ⟨_, rfl⟩
      rw [← hge] at GE7
      simp only [← hge]
      clear hge
      go_wp2_with fail
      refine (atQ_in gh g (3 * T.length) BG Ah ch (fun c : Nat => ((c : Int), optI (oppF T c))) k w7 (by omega) hlt HG7.out).mono ?_
      rintro e w8 ⟨rfl, hb⟩
      have HF8 := Lib.hid (HF7.out.below hb)
      have HG8 := Lib.hid (HG7.out.below hb)
      have GA8 := Lib.hid (blk_call GA7.out hb)
      have GT8 := Lib.hid (blk_call GT7.out hb)
      have GE8 := Lib.hid (blk_call GE7.out hb)
      have HT8 := Lib.hid (HT7.out.below hb)
      have HB8 := Lib.hid (bw_call HB7.out hb)
      clear hb HF7 HG7 GA7 GT7 GE7 HT7 HB7
      obtain ⟨w9, hw9⟩ : ∃ X, X = w8.alloc (.cells #[.int .i64 (k : Int), .int .i64 (optI (oppF T k))] 36) := ⟨_, rfl⟩
      have GQw9 : Hid (Blk w9 w8.heap.size 36 #[.int .i64 (k : Int), .int .i64 (optI (oppF T k))]) := by subst hw9; exact Lib.hid (Blk.new _ _ _)
      have h89 : Below w8.heap.size w8 w9 := by subst hw9; exact bw_alloc (Below.refl _ _) _
      have HFw9 := Lib.hid (HF8.out.below h89)
      have HGw9 := Lib.hid (HG8.out.below h89)
      have GAw9 := Lib.hid (blk_call GA8.out h89)
      have GTw9 := Lib.hid (blk_call GT8.out h89)
      have GEw9 := Lib.hid (blk_call GE8.out h89)
      have HTTw9 := Lib.hid (HT8.out.below h89)
      have HBw9 := Lib.hid (bw_call HB8.out h89)
      clear h89 HF8 HG8 GA8 GT8 GE8 HT8 HB8
      go_upto_region 13 with (fail)
      rw [← hw9]
      clear hw9
      obtain ⟨gq, hgq⟩ : ∃ gq, gq = w8.heap.size := ⟨_, rfl⟩
      rw [← hgq] at GQw9
      simp only [← hgq]
      clear hgq
      have hne := run_neE (ce T k).1 (ce T k).2
      refine wp_region_held_drew (S := fun w' => w'.cell? ⟨ge, 0, none⟩ = some (.int .i64 (ce T k).1) ∧ w'.cell? ⟨ge, 1, none⟩ = some (.int .i64 (ce T k).2) ∧ w'.cell? ⟨gq, 0, none⟩ = some (.int .i64 (k : Int)) ∧ w'.cell? ⟨gq, 1, none⟩ = some (.int .i64 (optI (oppF T k))) ∧ w'.cell? ⟨gt, 0, none⟩ = some (.pointer (some ⟨g, 0, none⟩))) (by kernel_rfl) ⟨GEw9.out.drew.cell 0, GEw9.out.drew.cell 1, GQw9.out.drew.cell 0, GQw9.out.drew.cell 1, (GTw9.out.drew.cell 0)⟩ (fun hHeld => ?_)
      refine held_take (i := 0) (v := ?v1) rfl (by kernel_rfl) (by kernel_rfl) (by kernel_rfl) (fun _ _ _ h => h) (Or.inl ⟨by rfl, ?hy1⟩) (by assumption) ?rest1
      case hy1 => (intro w hSw; (try dsimp only at hSw); go_simp; try with_reducible rfl)
      (try simp only [Act.put, List.setIfInBounds_toArray, List.set_cons_zero, List.set_cons_succ])
      refine held_take (i := 1) (v := ?v2) rfl (by kernel_rfl) (by kernel_rfl) (by kernel_rfl) (fun _ _ _ h => h) (Or.inl ⟨by rfl, ?hy2⟩) (by assumption) ?rest2
      case hy2 => (intro w hSw; (try dsimp only at hSw); go_simp; try with_reducible rfl)
      (try simp only [Act.put, List.setIfInBounds_toArray, List.set_cons_zero, List.set_cons_succ])
      refine held_take (i := 2) (v := ?v3) rfl (by kernel_rfl) (by kernel_rfl) (by kernel_rfl) (fun _ _ _ h => h) (Or.inl ⟨by rfl, ?hy3⟩) (by assumption) ?rest3
      case hy3 => (intro w hSw; (try dsimp only at hSw); go_simp; try with_reducible rfl)
      (try simp only [Act.put, List.setIfInBounds_toArray, List.set_cons_zero, List.set_cons_succ])
      refine wpAnyH_ready (rs := [3]) (by kernel_rfl) (by simp) ?_
      refine held_cons rfl (fun K hK => ?_) ?_
      · go_simp
        go_wp2_with (go_at_call 12; refine (HTTw9.out.drew.edge hlt).mono ?_; rintro e v10 ⟨rfl, hb⟩)
        have GEv10 := Lib.hid (blk_call GEw9.out.drew hb)
        have GQv10 := Lib.hid (blk_call GQw9.out.drew hb)
        have GTv10 := Lib.hid (blk_call GTw9.out.drew hb)
        have GAv10 := Lib.hid (blk_call GAw9.out.drew hb)
        have HFv10 := Lib.hid (HFw9.out.drew.below hb)
        have HGv10 := Lib.hid (HGw9.out.drew.below hb)
        have HTTv10 := Lib.hid (HTTw9.out.drew.below hb)
        have HBv10 := Lib.hid (bw_call (bw_drew HBw9.out) hb)
        clear hb
        refine hK.out _ _ ?_ (fun hHeld => ?_)
        · exact ⟨GEv10.out.cell 0, GEv10.out.cell 1, GQv10.out.cell 0, GQv10.out.cell 1, (GTv10.out.cell 0)⟩
        clear hK K
        (try simp only [Act.put, List.setIfInBounds_toArray, List.set_cons_zero, List.set_cons_succ])
        refine held_take (i := 4) (v := ?v4) rfl (by kernel_rfl) (by kernel_rfl) (by kernel_rfl) (fun _ _ _ h => h) (Or.inl ⟨by rfl, ?hy4⟩) (by assumption) ?rest4
        case hy4 => (intro w hSw; (try dsimp only at hSw); go_simp; try with_reducible rfl)
        (try simp only [Act.put, List.setIfInBounds_toArray, List.set_cons_zero, List.set_cons_succ])
        refine held_take (i := 5) (v := ?v5) rfl (by kernel_rfl) (by kernel_rfl) (by kernel_rfl) (fun _ _ _ h => h) (Or.inl ⟨by rfl, ?hy5⟩) (by assumption) ?rest5
        case hy5 => (intro w hSw; (try dsimp only at hSw); go_simp; try with_reducible rfl)
        (try simp only [Act.put, List.setIfInBounds_toArray, List.set_cons_zero, List.set_cons_succ])
        refine held_take (i := 6) (v := ?v6) rfl (by kernel_rfl) (by kernel_rfl) (by kernel_rfl) (fun _ _ _ h => h) (Or.inl ⟨by rfl, ?hy6⟩) (by assumption) ?rest6
        case hy6 => (intro w hSw; (try dsimp only at hSw); go_simp; try with_reducible rfl)
        (try simp only [Act.put, List.setIfInBounds_toArray, List.set_cons_zero, List.set_cons_succ])
        refine held_take (i := 7) (v := ?v7) rfl (by kernel_rfl) (by kernel_rfl) (by kernel_rfl) (fun _ _ _ h => h) (Or.inl ⟨by rfl, ?hy7⟩) (by assumption) ?rest7
        case hy7 => (intro w hSw; (try dsimp only at hSw); go_simp; try with_reducible rfl)
        (try simp only [Act.put, List.setIfInBounds_toArray, List.set_cons_zero, List.set_cons_succ])
        refine held_take (i := 8) (v := ?v8) rfl (by kernel_rfl) (by kernel_rfl) (by kernel_rfl) (fun _ _ _ h => h) (Or.inl ⟨by rfl, ?hy8⟩) (by assumption) ?rest8
        case hy8 => (intro w hSw; (try dsimp only at hSw); go_simp; try with_reducible rfl)
        (try simp only [Act.put, List.setIfInBounds_toArray, List.set_cons_zero, List.set_cons_succ])
        refine held_take (i := 9) (v := ?v9) rfl (by kernel_rfl) (by kernel_rfl) (by kernel_rfl) (fun _ _ _ h => h) (Or.inl ⟨by rfl, ?hy9⟩) (by assumption) ?rest9
        case hy9 => (intro w hSw; (try dsimp only at hSw); go_simp; try with_reducible rfl)
        (try simp only [Act.put, List.setIfInBounds_toArray, List.set_cons_zero, List.set_cons_succ])
        refine held_take (i := 10) (v := ?v10) rfl (by kernel_rfl) (by kernel_rfl) (by kernel_rfl) (fun _ _ _ h => h) (Or.inl ⟨by rfl, ?hy10⟩) (by assumption) ?rest10
        case hy10 => (intro w hSw; (try dsimp only at hSw); go_simp; try with_reducible rfl)
        (try simp only [Act.put, List.setIfInBounds_toArray, List.set_cons_zero, List.set_cons_succ])
        refine held_take (i := 11) (v := ?v11) rfl (by kernel_rfl) (by kernel_rfl) (by kernel_rfl) (fun _ _ _ h => h) (Or.inl ⟨by rfl, ?hy11⟩) (by assumption) ?rest11
        case hy11 => (intro w hSw; (try dsimp only at hSw); go_simp; try with_reducible rfl)
        (try simp only [Act.put, List.setIfInBounds_toArray, List.set_cons_zero, List.set_cons_succ])
        refine held_take (i := 12) (v := ?v12) rfl (by kernel_rfl) (by kernel_rfl) (by kernel_rfl) (fun _ _ _ h => h) (Or.inl ⟨by rfl, ?hy12⟩) (by assumption) ?rest12
        case hy12 => (intro w hSw; (try dsimp only at hSw); go_simp; try with_reducible rfl)
        (try simp only [Act.put, List.setIfInBounds_toArray, List.set_cons_zero, List.set_cons_succ])
        refine held_take (i := 13) (v := ?v13) rfl (by kernel_rfl) (by kernel_rfl) (by kernel_rfl) (fun _ _ _ h => h) (Or.inl ⟨by rfl, ?hy13⟩) (by assumption) ?rest13
        case hy13 => (intro w hSw; (try dsimp only at hSw); go_simp; try with_reducible rfl)
        (try simp only [Act.put, List.setIfInBounds_toArray, List.set_cons_zero, List.set_cons_succ])
        refine held_take (i := 14) (v := ?v14) rfl (by kernel_rfl) (by kernel_rfl) (by kernel_rfl) (fun _ _ _ h => h) (Or.inl ⟨by rfl, ?hy14⟩) (by assumption) ?rest14
        case hy14 => (intro w hSw; (try dsimp only at hSw); go_simp; try with_reducible rfl)
        (try simp only [Act.put, List.setIfInBounds_toArray, List.set_cons_zero, List.set_cons_succ])
        refine held_take (i := 15) (v := ?v15) rfl (by kernel_rfl) (by kernel_rfl) (by kernel_rfl) (fun _ _ _ h => h) (Or.inl ⟨by rfl, ?hy15⟩) (by assumption) ?rest15
        case hy15 => (intro w hSw; (try dsimp only at hSw); go_simp; try with_reducible rfl)
        (try simp only [Act.put, List.setIfInBounds_toArray, List.set_cons_zero, List.set_cons_succ])
        refine held_take (i := 16) (v := ?v16) rfl (by kernel_rfl) (by kernel_rfl) (by kernel_rfl) (fun _ _ _ h => h) (Or.inl ⟨by rfl, ?hy16⟩) (by assumption) ?rest16
        case hy16 => (intro w hSw; (try dsimp only at hSw); go_simp; try with_reducible rfl)
        (try simp only [Act.put, List.setIfInBounds_toArray, List.set_cons_zero, List.set_cons_succ])
        refine held_take (i := 17) (v := ?v17) rfl (by kernel_rfl) (by kernel_rfl) (by kernel_rfl) (fun _ _ _ h => h) (Or.inl ⟨by rfl, ?hy17⟩) (by assumption) ?rest17
        case hy17 => (intro w hSw; (try dsimp only at hSw); go_simp; try with_reducible rfl)
        (try simp only [Act.put, List.setIfInBounds_toArray, List.set_cons_zero, List.set_cons_succ])
        refine held_take (i := 18) (v := ?v18) rfl (by kernel_rfl) (by kernel_rfl) (by kernel_rfl) (fun _ _ _ h => h) (Or.inl ⟨by rfl, ?hy18⟩) (by assumption) ?rest18
        case hy18 => (intro w hSw; (try dsimp only at hSw); go_simp; try with_reducible rfl)
        (try simp only [Act.put, List.setIfInBounds_toArray, List.set_cons_zero, List.set_cons_succ])
        refine held_take (i := 19) (v := ?v19) rfl (by kernel_rfl) (by kernel_rfl) (by kernel_rfl) (fun _ _ _ h => h) (Or.inl ⟨by rfl, ?hy19⟩) (by assumption) ?rest19
        case hy19 => (intro w hSw; (try dsimp only at hSw); go_simp; try with_reducible rfl)
        (try simp only [Act.put, List.setIfInBounds_toArray, List.set_cons_zero, List.set_cons_succ])
        refine wpAnyH_ready (rs := [20]) (by kernel_rfl) (by simp) ?_
        refine held_cons rfl (fun K hK => ?_) ?_
        · go_simp
          go_wp2_with (go_at_call 15; refine (HTTv10.out.opp hlt).mono ?_; rintro e v11 ⟨rfl, hb⟩)
          have GEv11 := Lib.hid (blk_call GEv10.out hb)
          have GQv11 := Lib.hid (blk_call GQv10.out hb)
          have GTv11 := Lib.hid (blk_call GTv10.out hb)
          have GAv11 := Lib.hid (blk_call GAv10.out hb)
          have HFv11 := Lib.hid (HFv10.out.below hb)
          have HGv11 := Lib.hid (HGv10.out.below hb)
          have HTTv11 := Lib.hid (HTTv10.out.below hb)
          have HBv11 := Lib.hid (bw_call HBv10.out hb)
          clear hb GEv10 GQv10 GTv10 GAv10 HFv10 HGv10 HTTv10 HBv10
          refine hK.out _ _ ?_ (fun hHeld => ?_)
          · exact ⟨GEv11.out.cell 0, GEv11.out.cell 1, GQv11.out.cell 0, GQv11.out.cell 1, (GTv11.out.cell 0)⟩
          clear hK K
          (try simp only [Act.put, List.setIfInBounds_toArray, List.set_cons_zero, List.set_cons_succ])
          refine held_take (i := 21) (v := ?v20) rfl (by kernel_rfl) (by kernel_rfl) (by kernel_rfl) (fun _ _ _ h => h) (Or.inl ⟨by rfl, ?hy20⟩) (by assumption) ?rest20
          case hy20 => (intro w hSw; (try dsimp only at hSw); go_simp; try with_reducible rfl)
          (try simp only [Act.put, List.setIfInBounds_toArray, List.set_cons_zero, List.set_cons_succ])
          refine held_take (i := 22) (v := ?v21) rfl (by kernel_rfl) (by kernel_rfl) (by kernel_rfl) (fun _ _ _ h => h) (Or.inl ⟨by rfl, ?hy21⟩) (by assumption) ?rest21
          case hy21 => (intro w hSw; (try dsimp only at hSw); go_simp; try with_reducible rfl)
          (try simp only [Act.put, List.setIfInBounds_toArray, List.set_cons_zero, List.set_cons_succ])
          refine held_take (i := 23) (v := ?v22) rfl (by kernel_rfl) (by kernel_rfl) (by kernel_rfl) (fun _ _ _ h => h) (Or.inl ⟨by rfl, ?hy22⟩) (by assumption) ?rest22
          case hy22 => (intro w hSw; (try dsimp only at hSw); go_simp; try with_reducible rfl)
          (try simp only [Act.put, List.setIfInBounds_toArray, List.set_cons_zero, List.set_cons_succ])
          refine held_take (i := 24) (v := ?v23) rfl (by kernel_rfl) (by kernel_rfl) (by kernel_rfl) (fun _ _ _ h => h) (Or.inl ⟨by rfl, ?hy23⟩) (by assumption) ?rest23
          case hy23 => (intro w hSw; (try dsimp only at hSw); go_simp; try with_reducible rfl)
          (try simp only [Act.put, List.setIfInBounds_toArray, List.set_cons_zero, List.set_cons_succ])
          refine held_take (i := 25) (v := ?v24) rfl (by kernel_rfl) (by kernel_rfl) (by kernel_rfl) (fun _ _ _ h => h) (Or.inl ⟨by rfl, ?hy24⟩) (by assumption) ?rest24
          case hy24 => (intro w hSw; (try dsimp only at hSw); go_simp; try with_reducible rfl)
          (try simp only [Act.put, List.setIfInBounds_toArray, List.set_cons_zero, List.set_cons_succ])
          refine held_take (i := 26) (v := ?v25) rfl (by kernel_rfl) (by kernel_rfl) (by kernel_rfl) (fun _ _ _ h => h) (Or.inl ⟨by rfl, ?hy25⟩) (by assumption) ?rest25
          case hy25 => (intro w hSw; (try dsimp only at hSw); go_simp; try with_reducible rfl)
          (try simp only [Act.put, List.setIfInBounds_toArray, List.set_cons_zero, List.set_cons_succ])
          refine wpAnyH_done (by kernel_rfl) ?_ _
          go_wp2_with fail
          exact ⟨⟨k + 1, by omega, by go_num, HFv11, HGv11, GAv11, GTv11, HTTv11, HBv11⟩, by simp [intOf]; omega⟩
        exact AllReadyH.nil
      exact AllReadyH.nil
    obtain rfl : k = 3 * T.length := by omega
    have hki : ¬ ((3 * T.length : Nat) : Int) < 3 * (T.length : Int) := by omega
    go_wp2_with fail
    go_loopw [11] (fun vv wr => ∃ v : Nat, v ≤ m ∧ vv = .int .i64 (v : Int) ∧ Hid (FAt wr 80 32 2 BF gf g Af cf (3 * T.length) ((List.range (3 * T.length)).flatMap fun i => cellsE (ce T i))) ∧ Hid (FAt wr 84 36 2 BG gh g Ah ch (3 * T.length) ((List.range (3 * T.length)).flatMap fun i => cellsQ ((fun c : Nat => ((c : Int), optI (oppF T c))) i))) ∧ Hid (Blk wr ga 24 #[.int .i64 (m : Int), .slice A T.length c]) ∧ Hid (Blk wr gt 26 #[.pointer (some ⟨g, 0, none⟩)]) ∧ Hid (TabN wr g m T) ∧ Hid (Below w.heap.size w wr)) (fun vv _ => m - (intOf vv).toNat)
    case atStart => exact ⟨0, by omega, rfl, HFA, HGA, GAA, GTA, HTA, HBA⟩
    case round =>
      obtain ⟨v, hv, rfl, HFwC, HGwC, GAwC, GTwC, HTTwC, HBwC⟩ := hrel
      obtain ⟨wC, hwC⟩ : ∃ wC : World, wC = wr := ⟨_, rfl⟩
      rw [← hwC] at HFwC HGwC GAwC GTwC HTTwC HBwC ⊢
      clear hwC HFA HGA GAA GTA HTA HBA s0 s1
      obtain ⟨s0, s1, _, _, _⟩ := soup_facts GAwC.out
      by_cases hlt : v < m
      rotate_left
      · obtain rfl : v = m := by omega
        have hvi : ¬ (v : Int) < (v : Int) := by omega
        go_wp2_with fail
        go_ret
        exact ⟨rfl, HBwC.out⟩
      have hvi : (v : Int) < (m : Int) := by omega
      obtain ⟨L, hRL⟩ := ringL_ex HTTwC.out.s (v : Int)
      have hLe : L.length ≤ 1000 := by have := hRL.len; omega
      have HRL := Lib.hid hRL
      have HVE : Hid (∀ W, FAt W 80 32 2 BF gf g Af cf (3 * T.length) ((List.range (3 * T.length)).flatMap fun i => cellsE (ce T i)) → TabN W g m T → Calls Tryz.prog 18 #[.pointer (some ⟨gf, 0, none⟩), .int .i64 (v : Int)] W (fun e w' => ∃ (A' : Option Addr) (c' : Nat), e = .returned (.slice A' L.length c') ∧ Below W.heap.size W w')) := Lib.hid fun W h1 h2 => by
        have h3 := valuesE_any gf g m BF T Af cf (ce T) (v : Int) L W (by omega) h1 h2 HRL.out
        refine h3.mono fun e w' h => ?_
        obtain ⟨A', c', he, _, hb⟩ := h
        rw [valsL_injS L (fun x hx y hy he => ce_inj h2.s (HRL.out.lt x hx) (HRL.out.lt y hy) he) HRL.out.nd, List.length_map] at he
        exact ⟨A', c', he, hb⟩
      clear hRL
      have hnn : ((L.length : Int) != (L.length : Int)) = false := by simp
      go_upto_region 18 with (fail)
      refine wp_region_held_drew (S := fun w' => w'.cell? ⟨gt, 0, none⟩ = some (.pointer (some ⟨g, 0, none⟩))) (by kernel_rfl) (GTwC.out.drew.cell 0) (fun hHeld => ?_)
      refine held_take (i := 0) (v := ?v26) rfl (by kernel_rfl) (by kernel_rfl) (by kernel_rfl) (fun _ _ _ h => h) (Or.inl ⟨by rfl, ?hy26⟩) (by assumption) ?rest26
      case hy26 => (intro w hSw; (try dsimp only at hSw); go_simp; try with_reducible rfl)
      (try simp only [Act.put, List.setIfInBounds_toArray, List.set_cons_zero, List.set_cons_succ])
      refine held_take (i := 1) (v := ?v27) rfl (by kernel_rfl) (by kernel_rfl) (by kernel_rfl) (fun _ _ _ h => h) (Or.inl ⟨by rfl, ?hy27⟩) (by assumption) ?rest27
      case hy27 => (intro w hSw; (try dsimp only at hSw); go_simp; try with_reducible rfl)
      (try simp only [Act.put, List.setIfInBounds_toArray, List.set_cons_zero, List.set_cons_succ])
      refine held_take (i := 4) (v := ?v28) rfl (by kernel_rfl) (by kernel_rfl) (by kernel_rfl) (fun _ _ _ h => h) (Or.inl ⟨by rfl, ?hy28⟩) (by assumption) ?rest28
      case hy28 => (intro w hSw; (try dsimp only at hSw); go_simp; try with_reducible rfl)
      (try simp only [Act.put, List.setIfInBounds_toArray, List.set_cons_zero, List.set_cons_succ])
      refine held_take (i := 5) (v := ?v29) rfl (by kernel_rfl) (by kernel_rfl) (by kernel_rfl) (fun _ _ _ h => h) (Or.inl ⟨by rfl, ?hy29⟩) (by assumption) ?rest29
      case hy29 => (intro w hSw; (try dsimp only at hSw); go_simp; try with_reducible rfl)
      (try simp only [Act.put, List.setIfInBounds_toArray, List.set_cons_zero, List.set_cons_succ])
      refine wpAnyH_ready (rs := [2]) (by kernel_rfl) (by simp) ?_
      refine held_cons rfl (fun K hK => ?_) ?_
      · go_simp
        go_wp2_with (go_at_call 18; refine (HVE.out wC.drew HFwC.out.drew HTTwC.out.drew).mono ?_; rintro e v20 ⟨Ay, cy, rfl, hb⟩)
        have GTv20 := Lib.hid (blk_call GTwC.out.drew hb)
        have GAv20 := Lib.hid (blk_call GAwC.out.drew hb)
        have HFv20 := Lib.hid (HFwC.out.drew.below hb)
        have HGv20 := Lib.hid (HGwC.out.drew.below hb)
        have HTTv20 := Lib.hid (HTTwC.out.drew.below hb)
        have HBv20 := Lib.hid (bw_call (bw_drew HBwC.out) hb)
        clear hb
        refine hK.out _ _ ?_ (fun hHeld => ?_)
        · exact (GTv20.out.cell 0)
        clear hK K
        (try simp only [Act.put, List.setIfInBounds_toArray, List.set_cons_zero, List.set_cons_succ])
        refine held_take (i := 3) (v := ?v30) rfl (by kernel_rfl) (by kernel_rfl) (by kernel_rfl) (fun _ _ _ h => h) (Or.inl ⟨by rfl, ?hy30⟩) (by assumption) ?rest30
        case hy30 => (intro w hSw; (try dsimp only at hSw); go_simp; try with_reducible rfl)
        (try simp only [Act.put, List.setIfInBounds_toArray, List.set_cons_zero, List.set_cons_succ])
        refine wpAnyH_ready (rs := [6]) (by kernel_rfl) (by simp) ?_
        refine held_cons rfl (fun K hK => ?_) ?_
        · go_simp
          go_wp2_with (go_at_call 19; refine (degree_any g m T (v : Int) L v20 HRL.out (by omega) HTTv20.out).mono ?_; rintro e v21 ⟨rfl, hb⟩)
          have GTv21 := Lib.hid (blk_call GTv20.out hb)
          have GAv21 := Lib.hid (blk_call GAv20.out hb)
          have HFv21 := Lib.hid (HFv20.out.below hb)
          have HGv21 := Lib.hid (HGv20.out.below hb)
          have HTTv21 := Lib.hid (HTTv20.out.below hb)
          have HBv21 := Lib.hid (bw_call HBv20.out hb)
          clear hb GTv20 GAv20 HFv20 HGv20 HTTv20 HBv20
          refine hK.out _ _ ?_ (fun hHeld => ?_)
          · exact (GTv21.out.cell 0)
          clear hK K
          (try simp only [Act.put, List.setIfInBounds_toArray, List.set_cons_zero, List.set_cons_succ])
          refine held_take (i := 7) (v := ?v31) rfl (by kernel_rfl) (by kernel_rfl) (by kernel_rfl) (fun _ _ _ h => h) (Or.inl ⟨by rfl, ?hy31⟩) (by assumption) ?rest31
          case hy31 => (intro w hSw; (try dsimp only at hSw); go_simp; try with_reducible rfl)
          (try simp only [Act.put, List.setIfInBounds_toArray, List.set_cons_zero, List.set_cons_succ])
          refine wpAnyH_done (by kernel_rfl) ?_ _
          go_wp2_with fail
          exact ⟨⟨v + 1, by omega, by go_num, HFv21, HGv21, GAv21, GTv21, HTTv21, HBv21⟩, by simp [intOf]; omega⟩
        exact AllReadyH.nil
      exact AllReadyH.nil
end Go.Proofs.YtbdicndkkenbgaaGreat
