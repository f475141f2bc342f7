/- CertifyOpened, walked. No condition. -/
import Derived.Test.YtnnbcflpbpafeaaClosedW
namespace Go.Proofs.Ytnnbcflpbpafeaa
open Go.RowKit

/-! ### A row without one of its triangles -/
theorem bw_cells {a : World} {b : Nat} (hb : a.heap.size ≤ b) : ∀ (vs : List Value) (o : Nat) (w : World), Below a.heap.size a w → Below a.heap.size a (w.setCells b o vs)
  | [], _, _, h => h
  | _ :: vs, o, _, h => bw_cells hb vs (o + 1) _ (bw_set h hb _)
theorem blk_cells {g b : Nat} {t : TypeId} {cs : Array Value} (hb : g ≠ b) : ∀ (vs : List Value) (o : Nat) (w : World), Blk w g t cs → Blk (w.setCells b o vs) g t cs
  | [], _, _, h => h
  | _ :: vs, o, _, h => blk_cells hb vs (o + 1) _ (h.far hb _)
theorem size_cells (b : Nat) : ∀ (vs : List Value) (o : Nat) (w : World), (w.setCells b o vs).heap.size = w.heap.size
  | [], _, _ => rfl
  | _ :: vs, o, w => (size_cells b vs (o + 1) _).trans (by simp)
theorem size_set (w : World) (p : Addr) (u : Value) : (w.setCell p u).heap.size = w.heap.size := by simp
theorem reads_far {w : World} {D size n b : Nat} {xs : List Value} (h : Reads w D size (some ⟨b, 0, none⟩) n xs) {p : Addr} (hp : b ≠ p.block) (u : Value) : Reads (w.setCell p u) D size (some ⟨b, 0, none⟩) n xs :=
  ⟨h.1, fun hn => by
    obtain ⟨ad, e, hb, hc⟩ := h.2 hn
    injection e with e
    subst e
    exact ⟨_, rfl, hb, fun j v hj => (World.cell?_of_block (Below.heap_setCell w p u _ (by rw [block_of_add]; exact hp))).trans (hc j v hj)⟩⟩
theorem row_there {w : World} {B b c : Nat} {L : List Tri} (h : LRow w B (some ⟨b, 0, none⟩) c L) (hn : L ≠ []) {j : Nat} {v : Value} (hj : (L.flatMap Tri.cells)[j]? = some v) : w.cell? ⟨b, j, none⟩ = some v := by
  obtain ⟨g, hA, _, hT⟩ := tblk_of h hn
  injection hA with hA
  injection hA with hA _ _
  subst hA
  obtain ⟨ad, e, _, hc⟩ := (hT.reads (B := b + 1) (by omega)).2 (List.length_pos_iff.2 hn)
  injection e with e
  subst e
  have := hc j v hj
  have e : (⟨b, 0, none⟩ : Addr).add j = ⟨b, j, none⟩ := by unfold Addr.add; split <;> simp_all
  rwa [e] at this
theorem row_cap {w : World} {B c : Nat} {A : Option Addr} {L : List Tri} (h : LRow w B A c L) : L.length ≤ c ∧ c ≤ maxLen := by
  rcases h.2 with ⟨hv, h0⟩ | ⟨g, cap, cur, hv, _, _, hn, hcap, _⟩
  · injection hv with _ h1 h2
    rw [h1, h2]
    exact ⟨Nat.le_refl _, Nat.zero_le _⟩
  · injection hv with _ _ h2
    rw [h2]
    exact ⟨hn, hcap⟩
theorem row_less {w : World} {B b c k : Nat} {L : List Tri} (h : LRow w B (some ⟨b, 0, none⟩) c L) (hk : k < L.length) (D : Nat) (hD : b < D) :
    Reads (w.setCells b (k * 3) ((L.drop (k + 1)).flatMap Tri.cells)) D 3 (some ⟨b, 0, none⟩) (L.length - 1) ((L.take k ++ L.drop (k + 1)).flatMap Tri.cells) := by
  have hn : L ≠ [] := fun e => by rw [e] at hk; exact absurd hk (Nat.not_lt_zero _)
  have hl1 : ((L.take k).flatMap Tri.cells).length = k * 3 := by rw [flatMap_len 3 _ (fun _ => rfl), List.length_take]; congr 1; omega
  have hl2 : ((L.drop (k + 1)).flatMap Tri.cells).length = (L.length - (k + 1)) * 3 := by rw [flatMap_len 3 _ (fun _ => rfl), List.length_drop]
  have hl : (L.flatMap Tri.cells).length = L.length * 3 := flatMap_len 3 _ (fun _ => rfl) L
  have hsp : L.flatMap Tri.cells = (L.take k).flatMap Tri.cells ++ (L.drop k).flatMap Tri.cells := by rw [← List.flatMap_append, List.take_append_drop]
  refine ⟨by rw [List.flatMap_append, List.length_append, hl1, hl2]; omega, fun _ => ⟨_, rfl, hD, fun j v hj => ?_⟩⟩
  have e : (⟨b, 0, none⟩ : Addr).add j = ⟨b, j, none⟩ := by unfold Addr.add; split <;> simp_all
  rw [e]
  rw [List.flatMap_append] at hj
  by_cases hjk : j < k * 3
  · rw [List.getElem?_append_left (by omega)] at hj
    rw [World.cell?_setCells_out _ _ _ _ _ (fun _ _ => .inl hjk)]
    refine row_there h hn ?_
    rw [hsp, List.getElem?_append_left (by omega)]
    exact hj
  · rw [List.getElem?_append_right (by omega), hl1] at hj
    have hj2 := (List.getElem?_eq_some_iff.1 hj).1
    have := World.cell?_setCells_in b ((L.drop (k + 1)).flatMap Tri.cells) (k * 3) w (fun i hi => by
      have hx : (L.flatMap Tri.cells)[k * 3 + i]? = some _ := List.getElem?_eq_getElem (by omega)
      rw [row_there h hn hx]
      rfl) (j - k * 3) hj2
    rw [show k * 3 + (j - k * 3) = j by omega] at this
    rw [this]
    rw [List.getElem?_eq_getElem hj2] at hj
    exact hj

theorem tri_at_split {T : List Tri} {k : Nat} (hk : k < T.length) : T = T.take k ++ tri T k :: T.drop (k + 1) := by
  have h : T[k]? = some (tri T k) := tri_at hk
  obtain ⟨h1, h2⟩ := List.getElem?_eq_some_iff.1 h
  rw [← h2, List.getElem_cons_drop, List.take_append_drop]
theorem less_news {w : World} {B b c k : Nat} {L : List Tri} (h : LRow w B (some ⟨b, 0, none⟩) c L) (hk : k < L.length) :
    ((L.drop (k + 1)).flatMap Tri.cells).length = (L.length - (k + 1)) * 3 ∧ (∀ j u, ((L.drop (k + 1)).flatMap Tri.cells)[j]? = some u → w.cell? ((⟨b, (k + 1) * 3, none⟩ : Addr).add j) = some u) ∧
    (L.length = k + 1 → ∀ j u, ((L.drop (k + 1)).flatMap Tri.cells)[j]? = some u → w.cell? ((⟨b, 0, none⟩ : Addr).add j) = some u) ∧
    ∀ j, j < ((L.drop (k + 1)).flatMap Tri.cells).length → (w.cell? ⟨b, 0 + k * 3 + j, none⟩).isSome = true ∧ w.frozen? ⟨b, 0 + k * 3 + j, none⟩ = false := by
  have hn : L ≠ [] := fun e => by rw [e] at hk; exact absurd hk (Nat.not_lt_zero _)
  have hl2 : ((L.drop (k + 1)).flatMap Tri.cells).length = (L.length - (k + 1)) * 3 := by rw [flatMap_len 3 _ (fun _ => rfl), List.length_drop]
  have hl1 : ((L.take (k + 1)).flatMap Tri.cells).length = (k + 1) * 3 := by rw [flatMap_len 3 _ (fun _ => rfl), List.length_take]; congr 1; omega
  have hl : (L.flatMap Tri.cells).length = L.length * 3 := flatMap_len 3 _ (fun _ => rfl) L
  have hsp : L.flatMap Tri.cells = (L.take (k + 1)).flatMap Tri.cells ++ (L.drop (k + 1)).flatMap Tri.cells := by rw [← List.flatMap_append, List.take_append_drop]
  refine ⟨hl2, fun j u hj => ?_, fun e j u hj => ?_, fun j hj => ?_⟩
  · have e : (⟨b, (k + 1) * 3, none⟩ : Addr).add j = ⟨b, (k + 1) * 3 + j, none⟩ := by unfold Addr.add; split <;> simp_all
    rw [e]
    refine row_there h hn ?_
    rw [hsp, List.getElem?_append_right (by omega), hl1, show (k + 1) * 3 + j - (k + 1) * 3 = j by omega]
    exact hj
  · have := (List.getElem?_eq_some_iff.1 hj).1
    omega
  · obtain ⟨g, hA, _, hT⟩ := tblk_of h hn
    injection hA with hA
    injection hA with hA _ _
    subst hA
    have hx : (L.flatMap Tri.cells)[0 + k * 3 + j]? = some _ := List.getElem?_eq_getElem (by omega)
    refine ⟨?_, hT.frozen _⟩
    rw [row_there h hn hx]
    rfl

attribute [local irreducible] Blk LRow World.alloc World.setCell KeepB World.cell? World.frozen?

set_option linter.unusedSimpArgs false in
set_option maxRecDepth 100000 in
set_option maxHeartbeats 8000000 in
theorem openedLaw_any (N : Int) (A : Option Addr) (n c : Nat) (T : List Tri) (by_ : Int) (hby0 : 0 ≤ by_) (hby1 : by_ < 256) (w : World) (ht : TrisAt w w.heap.size A n T) :
    Calls Try.prog 6 #[.agg #[.int .i64 N, .slice A n c], .int .u8 by_] w (TrueB w) := by
  obtain rfl : n = T.length := ht.len.symm
  obtain ⟨b, rfl⟩ := Int.eq_ofNat_of_zero_le hby0
  have HT := Lib.hid ht
  clear ht
  go_enter Try.func6, Try.ntmps6
  go_wp2_with fail
  obtain ⟨W, hW⟩ : ∃ W, W = w.alloc (.cells #[.int .i64 N, .slice A T.length c] 24) := ⟨_, rfl⟩
  have H0 : Hid (Blk W w.heap.size 24 #[.int .i64 N, .slice A T.length c]) := by subst hW; exact Lib.hid (Blk.new _ _ _)
  have HB0 : Hid (Below w.heap.size w W) := by subst hW; exact Lib.hid ((Below.refl _ _).alloc (Nat.le_refl _) _)
  rw [← hW]
  clear hW
  generalize w.heap.size = g at H0 ⊢
  refine (awake_any _).mono ?_
  rintro e w1 ⟨rfl, hb⟩
  have H1 := Lib.hid (H0.out.below hb H0.out.lt)
  have HB1 := Lib.hid (HB0.out.trans (hb.mono HB0.out.size))
  clear hb H0 HB0
  have c0 := H1.out.cell 0
  have c1 := H1.out.cell 1
  simp at c0 c1
  by_cases hgr : (decide (40 < T.length) || decide (40 < N)) = true
  · go_wp2_with fail
    refine (great_ex2 true hgr).mono ?_
    rintro e w2 ⟨rfl, hb⟩
    have HB2 := Lib.hid (HB1.out.trans (hb.mono HB1.out.size))
    clear hb H1 c0 c1
    go_wp2_with fail
    refine (awake_any _).mono ?_
    rintro e w3 ⟨rfl, hb⟩
    have HB3 := Lib.hid (HB2.out.trans (hb.mono HB2.out.size))
    clear hb
    go_wp2_with fail
    go_ret
    exact ⟨rfl, HB3.out⟩
  have hgf : (decide (40 < T.length) || decide (40 < N)) = false := by cases h : (decide (40 < T.length) || decide (40 < N)) with | true => exact absurd h hgr | false => rfl
  have hn40 : T.length ≤ 40 := by simp at hgr; omega
  clear hgr
  have hn1000 : T.length ≤ 1000 := by omega
  by_cases hT0 : T = []
  · subst hT0
    go_wp2_with fail
    refine (great_ex2 false hgf).mono ?_
    rintro e w2 ⟨rfl, hb⟩
    have HB2 := Lib.hid (HB1.out.trans (hb.mono HB1.out.size))
    have H2 := Lib.hid (H1.out.below hb H1.out.lt)
    clear hb H1 c0 c1 hgf
    have c0 := H2.out.cell 0
    have c1 := H2.out.cell 1
    simp at c0 c1
    go_wp2_with fail
    refine (awake_any _).mono ?_
    rintro e w3 ⟨rfl, hb⟩
    have HB3 := Lib.hid (HB2.out.trans (hb.mono HB2.out.size))
    clear hb
    go_wp2_with fail
    go_ret
    exact ⟨rfl, HB3.out⟩
  have hpos : 0 < T.length := List.length_pos_iff.2 hT0
  have hlz : (((T.length : Int)) == 0) = false := by simp; exact hT0
  have hposI : (0 : Int) < (T.length : Int) := by omega
  go_wp2_with fail
  refine (great_ex2 false hgf).mono ?_
  rintro e w2 ⟨rfl, hb⟩
  have HB2 := Lib.hid (HB1.out.trans (hb.mono HB1.out.size))
  have H2 := Lib.hid (H1.out.below hb H1.out.lt)
  clear hb H1 HB1 c0 c1 hgf
  have c0 := H2.out.cell 0
  have c1 := H2.out.cell 1
  simp at c0 c1
  by_cases hs : checkR N T = (0, 0, 0)
  case neg =>
    go_wp2_with fail
    refine (is_false hn1000 ((HT.out.below HB2.out).more HB2.out.size) hs).mono ?_
    rintro e w3 ⟨rfl, hb⟩
    have HB3 := Lib.hid (HB2.out.trans (hb.mono HB2.out.size))
    clear hb H2 HB2 c0 c1 hs
    go_wp2_with fail
    refine (awake_any _).mono ?_
    rintro e w4 ⟨rfl, hb⟩
    have HB4 := Lib.hid (HB3.out.trans (hb.mono HB3.out.size))
    clear hb
    go_wp2_with fail
    go_ret
    exact ⟨rfl, HB4.out⟩
  go_wp2_with fail
  refine (is_true hn1000 ((HT.out.below HB2.out).more HB2.out.size) hs).mono ?_
  rintro e w3 ⟨rfl, hb⟩
  have HB3 := Lib.hid (HB2.out.trans (hb.mono HB2.out.size))
  have H3 := Lib.hid (H2.out.below hb H2.out.lt)
  have HSF := Lib.hid ((check_is N T).1 hs)
  clear hb H2 HB2 c0 c1 hs
  have c0 := H3.out.cell 0
  have c1 := H3.out.cell 1
  simp at c0 c1
  by_cases hcl : closedB T = true
  case neg =>
    have hcf : closedB T = false := by cases e : closedB T with | true => exact absurd e hcl | false => rfl
    have HCL := Lib.hid (closed_any N A T.length c T w3 hn1000 ((HT.out.below HB3.out).more HB3.out.size))
    rw [hcf] at HCL
    clear hcf hcl
    go_wp2_with fail
    refine HCL.out.mono ?_
    rintro e w4 ⟨rfl, hb⟩
    have HB4 := Lib.hid (HB3.out.trans (hb.mono HB3.out.size))
    clear hb HCL
    go_wp2_with fail
    refine (awake_any _).mono ?_
    rintro e w5 ⟨rfl, hb⟩
    have HB5 := Lib.hid (HB4.out.trans (hb.mono HB4.out.size))
    clear hb
    go_wp2_with fail
    go_ret
    exact ⟨rfl, HB5.out⟩
  have HCL := Lib.hid (closed_any N A T.length c T w3 hn1000 ((HT.out.below HB3.out).more HB3.out.size))
  rw [hcl] at HCL
  go_wp2_with fail
  refine HCL.out.mono ?_
  rintro e w4 ⟨rfl, hb⟩
  have HB4 := Lib.hid (HB3.out.trans (hb.mono HB3.out.size))
  have H4 := Lib.hid (H3.out.below hb H3.out.lt)
  have HCT := Lib.hid ((closed_iff T).1 hcl)
  clear hb HCL H3 HB3 c0 c1 hcl
  have c0 := H4.out.cell 0
  have c1 := H4.out.cell 1
  simp at c0 c1
  go_wp2_with fail
  generalize hk : (b : Int) % (T.length : Int) = ki
  obtain ⟨k, rfl, hkl⟩ : ∃ k : Nat, ki = (k : Int) ∧ k < T.length := ⟨b % T.length, by rw [← hk]; simp, Nat.mod_lt _ hpos⟩
  clear hk
  refine (own_any N A T.length c T w4 hn1000 ((HT.out.below HB4.out).more HB4.out.size)).mono ?_
  rintro e w5 ⟨A5, c5, rfl, ho5, hb5⟩
  have HR5 := Lib.hid (lrow_of ho5 rfl rfl)
  have HB5 := Lib.hid (HB4.out.trans (hb5.mono HB4.out.size))
  have H5 := Lib.hid (blk_call H4.out hb5)
  obtain ⟨bt, rfl, hbt, _⟩ := tblk_of HR5.out hT0
  have HBT := Lib.hid (show w.heap.size ≤ bt from Nat.le_trans HB4.out.size hbt)
  clear ho5 hb5 hbt H4 HB4 c0 c1
  obtain ⟨c0, c1, _, _, _⟩ := soup_facts H5.out
  have hk0 : (0 : Int) ≤ (k : Int) := by omega
  have hk1 : (k : Int) < (T.length : Int) := by omega
  go_wp2_with fail
  obtain ⟨V, hV⟩ : ∃ V, V = w5.alloc (.cells #[.int .i64 N, .slice (some ⟨bt, 0, none⟩) T.length c5] 24) := ⟨_, rfl⟩
  have HGV : Hid (Blk V w5.heap.size 24 #[.int .i64 N, .slice (some ⟨bt, 0, none⟩) T.length c5]) := by subst hV; exact Lib.hid (Blk.new _ _ _)
  have HBV : Hid (Below w5.heap.size w5 V) := by subst hV; exact Lib.hid (bw_alloc (Below.refl _ _) _)
  rw [← hV]
  have HRV := Lib.hid (HR5.out.below HBV.out)
  have HV := Lib.hid (blk_call H5.out HBV.out)
  have HWV : Hid (Below w.heap.size w V) := Lib.hid (bw_call HB5.out HBV.out)
  have hgt := HB5.out.size
  obtain ⟨hcap1, hcap2⟩ := row_cap HR5.out
  have hcm : c5 ≤ 9223372036854775807 := hcap2
  have hcap2' : (T.length : Int) ≤ (c5 : Int) := by omega
  have hkc : (k : Int) ≤ (c5 : Int) := by omega
  have hk2 : (k : Int) + 1 ≤ (T.length : Int) := by omega
  have hk3 : (0 : Int) ≤ (k : Int) + 1 := by omega
  have hwr : IntKind.i64.wrap ((k : Int) + 1) = (k : Int) + 1 := by simp [IntKind.wrap, IntKind.bits, IntKind.signed]; omega
  obtain ⟨i0, hi0, hz0, hz1, hz2⟩ := info_parts tri_info
  have hglt := H5.out.lt
  generalize w5.heap.size = gt at *
  clear hV c0 c1 HR5 H5
  obtain ⟨s0, s1, _, _, s4⟩ := soup_facts HV.out
  obtain ⟨p0, p1, p2, p3, p4⟩ := soup_facts HGV.out
  have hne : gt ≠ bt := (soup_tri_ne HRV.out HGV.out bt rfl).symm
  obtain ⟨hnl, hnc, hnc0, hsp⟩ := less_news HRV.out.drew hkl
  have hkk : k + (T.length - (k + 1)) = T.length - 1 := by omega
  have HKK := Lib.hid hkk
  have HRD := Lib.hid (row_less HRV.out.drew hkl (bt + 1) (by omega))
  clear hkk
  go_cut [] (fun wx => Hid (Blk wx gt 24 #[.int .i64 N, .slice (some ⟨bt, 0, none⟩) (T.length - 1) c5]) ∧ Hid (TrisAt wx wx.heap.size (some ⟨bt, 0, none⟩) (T.length - 1) (T.take k ++ T.drop (k + 1))) ∧ Hid (Below w.heap.size w wx) ∧ Hid (Blk wx g 24 #[.int .i64 N, .slice A T.length c]))
  case first =>
    by_cases hck : c5 = k + 1
    · subst hck
      have hn1 := Lib.hid (show T.length = k + 1 by omega)
      have hnl0 := Lib.hid (show ((T.drop (k + 1)).flatMap Tri.cells).length = 0 * 3 by rw [hnl]; have := hn1.out; omega)
      have hq : (k : Int) ≤ (k : Int) + 1 := by omega
      have hq2 : (T.length : Int) ≤ (k : Int) + 1 := by omega
      go_region_law (refine step_append_room (by rfl) (.tmp 43) (.tmp 48) 22 (by rfl) 30 i0 3 Try.underlying22 hi0 hz1 bt 0 k (k + 1) (by rfl) ⟨bt, 0, none⟩ 0 0 ((T.drop (k + 1)).flatMap Tri.cells) (by rfl) hnl0.out (hnc0 hn1.out) (tris_one _) (by omega) hsp ?_; obtain ⟨z0, z1, z2, z3, z4⟩ := soup_facts (blk_cells hne ((T.drop (k + 1)).flatMap Tri.cells) (k * 3) _ HGV.out.drew))
      all_goals (go_wp2_with fail; go_meet)
      all_goals
        refine ⟨Lib.hid ?_, Lib.hid ?_, Lib.hid ?_, Lib.hid ((blk_cells (soup_tri_ne HRV.out HV.out bt rfl).symm _ _ _ HV.out.drew).far (by simp only; omega) _)⟩
        · rw [show T.length - 1 = k from by have := hn1.out; omega]
          exact soup_set1 (blk_cells hne _ _ _ HGV.out.drew) _
        · refine TrisAt.mk_ ((reads_far HRD.out hne.symm _).more ?_)
          rw [size_set, size_cells]
          exact Nat.succ_le_of_lt (HRV.out.owns.lt bt rfl).2
        · exact bw_set (bw_cells HBT.out _ _ _ (bw_drew HWV.out)) hgt _
    · go_region_law (refine step_append_room (by rfl) (.tmp 43) (.tmp 48) 22 (by rfl) 30 i0 3 Try.underlying22 hi0 hz1 bt 0 k c5 (by rfl) ⟨bt, (k + 1) * 3, none⟩ (T.length - (k + 1)) (c5 - (k + 1)) ((T.drop (k + 1)).flatMap Tri.cells) (by rfl) hnl hnc (tris_one _) (by omega) hsp ?_; obtain ⟨z0, z1, z2, z3, z4⟩ := soup_facts (blk_cells hne ((T.drop (k + 1)).flatMap Tri.cells) (k * 3) _ HGV.out.drew))
      all_goals (go_wp2_with fail; go_meet)
      all_goals
        refine ⟨Lib.hid ?_, Lib.hid ?_, Lib.hid ?_, Lib.hid ((blk_cells (soup_tri_ne HRV.out HV.out bt rfl).symm _ _ _ HV.out.drew).far (by simp only; omega) _)⟩
        · rw [HKK.out]
          exact soup_set1 (blk_cells hne _ _ _ HGV.out.drew) _
        · refine TrisAt.mk_ ((reads_far HRD.out hne.symm _).more ?_)
          rw [size_set, size_cells]
          exact Nat.succ_le_of_lt (HRV.out.owns.lt bt rfl).2
        · exact bw_set (bw_cells HBT.out _ _ _ (bw_drew HWV.out)) hgt _
  case rest =>
    obtain ⟨HG6, HT6, HB6, H6⟩ := hcut
    obtain ⟨w6, hw6⟩ : ∃ w6 : World, w6 = wc := ⟨_, rfl⟩
    rw [← hw6] at HG6 HT6 HB6 H6 ⊢
    clear hw6 HGV HBV HRV HV HWV HRD HKK hnc hnc0 hsp hnl s0 s1 s4 p0 p1 p2 p3 p4 hgt
    obtain ⟨c0, c1, _, _, c4⟩ := soup_facts H6.out
    go_wp2_with fail
    refine (own_any N A T.length c T w6 hn1000 ((HT.out.below HB6.out).more HB6.out.size)).mono ?_
    rintro e w7 ⟨A7, c7, rfl, ho7, hb7⟩
    have HR7 := Lib.hid (lrow_of ho7 rfl rfl)
    have HB7 := Lib.hid (bw_call HB6.out hb7)
    have H7 := Lib.hid (blk_call H6.out hb7)
    have HT7 := Lib.hid ((HT6.out.below hb7).more hb7.size)
    have HG7 := Lib.hid (blk_call HG6.out hb7)
    obtain ⟨bu, rfl, hbu, _⟩ := tblk_of HR7.out hT0
    have HBU := Lib.hid (show w.heap.size ≤ bu from Nat.le_trans HB6.out.size hbu)
    have HBU6 := Lib.hid hbu
    have hb67 := Lib.hid hb7
    clear ho7 hb7 hbu c0 c1
    obtain ⟨c0, c1, _, _, _⟩ := soup_facts H7.out
    go_wp2_with fail
    obtain ⟨V, hV⟩ : ∃ V, V = w7.alloc (.cells #[.int .i64 N, .slice (some ⟨bu, 0, none⟩) T.length c7] 24) := ⟨_, rfl⟩
    have HGV : Hid (Blk V w7.heap.size 24 #[.int .i64 N, .slice (some ⟨bu, 0, none⟩) T.length c7]) := by subst hV; exact Lib.hid (Blk.new _ _ _)
    have HBV : Hid (Below w7.heap.size w7 V) := by subst hV; exact Lib.hid (bw_alloc (Below.refl _ _) _)
    rw [← hV]
    have HRV := Lib.hid (HR7.out.below HBV.out)
    have HV := Lib.hid (blk_call H7.out HBV.out)
    have H6V : Hid (Below w6.heap.size w6 V) := Lib.hid (bw_call (bw_call (Below.refl _ _) hb67.out) HBV.out)
    have hgu := hb67.out.size
    generalize w7.heap.size = gu at *
    clear hV c0 c1 HR7 H7 HG7 HT7 HBV
    obtain ⟨ad, u, rfl, htk, _, hadb, hc3⟩ := (HT.out.below (bw_call HB6.out H6V.out)).at_ hkl
    obtain ⟨e0, e1, e2, e3, e4, e5⟩ := hc3
    obtain ⟨s0, s1, _, _, s4⟩ := soup_facts HV.out
    obtain ⟨p0, p1, _, _, _⟩ := soup_facts HGV.out
    obtain ⟨bu', hbu', _, _, ⟨x0, x1, x2⟩, ft⟩ := row_cells HRV.out htk
    injection hbu' with hbu'
    injection hbu' with hbu' _ _
    subst hbu'
    have ft0 := ft (k * 3)
    have ft1 := ft (k * 3 + 1)
    have ft2 := ft (k * 3 + 2)
    clear ft
    have hgb : gu ≠ bu := (soup_tri_ne HRV.out HGV.out bu rfl).symm
    have hgg : g ≠ bu := (soup_tri_ne HRV.out HV.out bu rfl).symm
    have hadb2 : ad.block ≠ bu := fun e => by have := HBU.out; omega
    have HKB := Lib.hid (KeepB.refl bu V)
    have HS : Hid (∀ w', KeepB bu V w' → w'.cell? ⟨g, 1, none⟩ = some (.slice (some ad) T.length c) ∧ w'.cell? ⟨gu, 1, none⟩ = some (.slice (some ⟨bu, 0, none⟩) T.length c7) ∧ w'.cell? (ad.add (k * 3)) = some (.int .i64 u.a) ∧ w'.cell? ⟨(ad.add (k * 3)).block, (ad.add (k * 3)).off + 1, none⟩ = some (.int .i64 u.b) ∧ w'.cell? ⟨(ad.add (k * 3)).block, (ad.add (k * 3)).off + 2, none⟩ = some (.int .i64 u.c) ∧ KeepB bu V w') :=
      Lib.hid fun w' h => ⟨(h.get hgg).trans s1, (h.get hgb).trans p1, (h.get (by rw [block_of_add]; exact hadb2)).trans e0, (h.get (p := ⟨(ad.add (k * 3)).block, _, none⟩) (by simp only [block_of_add]; exact hadb2)).trans e4, (h.get (p := ⟨(ad.add (k * 3)).block, _, none⟩) (by simp only [block_of_add]; exact hadb2)).trans e5, h⟩
    have HSO : Hid (∀ w', (w'.cell? ⟨g, 1, none⟩ = some (.slice (some ad) T.length c) ∧ w'.cell? ⟨gu, 1, none⟩ = some (.slice (some ⟨bu, 0, none⟩) T.length c7) ∧ w'.cell? (ad.add (k * 3)) = some (.int .i64 u.a) ∧ w'.cell? ⟨(ad.add (k * 3)).block, (ad.add (k * 3)).off + 1, none⟩ = some (.int .i64 u.b) ∧ w'.cell? ⟨(ad.add (k * 3)).block, (ad.add (k * 3)).off + 2, none⟩ = some (.int .i64 u.c) ∧ KeepB bu V w') → KeepB bu V w') := Lib.hid fun w' h => h.2.2.2.2.2
    go_cut [] (fun wx => Hid (Blk wx gu 24 #[.int .i64 N, .slice (some ⟨bu, 0, none⟩) T.length c7]) ∧ Hid (TrisAt wx wx.heap.size (some ⟨bu, 0, none⟩) T.length (T.set k (mir u))) ∧ Hid (Below w6.heap.size w6 wx))
    case first =>
      go_region_held3 (fun w' => w'.cell? ⟨g, 1, none⟩ = some (.slice (some ad) T.length c) ∧ w'.cell? ⟨gu, 1, none⟩ = some (.slice (some ⟨bu, 0, none⟩) T.length c7) ∧ w'.cell? (ad.add (k * 3)) = some (.int .i64 u.a) ∧ w'.cell? ⟨(ad.add (k * 3)).block, (ad.add (k * 3)).off + 1, none⟩ = some (.int .i64 u.b) ∧ w'.cell? ⟨(ad.add (k * 3)).block, (ad.add (k * 3)).off + 2, none⟩ = some (.int .i64 u.c) ∧ KeepB bu V w')
        ((refine HS.out _ ?_; repeat (first | exact HKB.out | refine KeepB.set ?_ _ | refine KeepB.drew ?_ | exact HSO.out _ (by assumption))))
        (fail)
      go_wp2_with fail
      go_meet
      have hrow := (HRV.out.set_ k (mir u)).tris
      rw [List.length_set] at hrow
      exact ⟨Lib.hid ((HGV.out.far3 hgb k (mir u)).drew), Lib.hid (hrow.drewN 1), Lib.hid (bw_drew (set3_below H6V.out HBU6.out k (mir u)))⟩
    case rest =>
      obtain ⟨HGU, HTU, HX9⟩ := hcut
      obtain ⟨w9, hw9⟩ : ∃ w9 : World, w9 = wc := ⟨_, rfl⟩
      rw [← hw9] at HGU HTU HX9 ⊢
      clear hw9 HGV HRV HV H6V HS HSO HKB s0 s1 s4 p0 p1 x0 x1 x2 ft0 ft1 ft2 e0 e1 e2 e3 e4 e5 hgb hgg hadb2
      obtain ⟨c0, c1, _, _, _⟩ := soup_facts HGU.out
      go_wp2_with fail
      obtain ⟨m, hNm, hsf⟩ := is_surf.1 HSF.out
      have hux : u = tri T k := (tri_of htk).symm
      have htl := turned_law hsf HCT.out hkl
      rw [← hux, ← hNm] at htl
      obtain ⟨xa, xb, hck, hxk⟩ : ∃ xa xb : Int, checkR N (T.set k (mir u)) = (3, xa, xb) ∧ (xa = (k : Int) ∨ xb = (k : Int)) := by
        unfold checkR
        cases hR : refAll N (T.set k (mir u)) with
        | nil =>
          have := htl.1
          rw [hR] at this
          cases this
        | cons y l =>
          obtain ⟨y1, y2, y3⟩ := y
          have := htl.2 (y1, y2, y3) (by rw [hR]; simp)
          exact ⟨y2, y3, by rw [show y1 = 3 from this.1]; rfl, this.2⟩
      have HR3 := Lib.hid htl.1
      have HCK := Lib.hid (check_any N (some ⟨bu, 0, none⟩) T.length c7 (T.set k (mir u)) w9 hn1000 HTU.out)
      rw [hck] at HCK
      have HLS : Hid (checkR N (T.take k ++ T.drop (k + 1)) = (0, 0, 0)) := Lib.hid (by
        refine (check_is _ _).2 (is_surf.2 ⟨m, hNm, less_law (t0 := tri T k) ?_ ?_⟩)
        · rw [← tri_at_split hkl]; exact hsf
        · rw [← tri_at_split hkl]; exact HCT.out)
      clear htl hck hsf hNm hux
      refine HCK.out.mono ?_
      rintro e w10 ⟨rfl, hb⟩
      have HX10 := Lib.hid (bw_call HX9.out hb)
      have HTU10 := Lib.hid ((HTU.out.below hb).more hb.size)
      have HGU10 := Lib.hid (blk_call HGU.out hb)
      clear hb HCK c0 c1 HX9 HTU HGU
      have HG10 := Lib.hid (blk_call HG6.out HX10.out)
      have HT10 := Lib.hid ((HT6.out.below HX10.out).more HX10.out.size)
      obtain ⟨c0, c1, _, _, _⟩ := soup_facts HGU10.out
      obtain ⟨p0, p1, _, _, _⟩ := soup_facts HG10.out
      rw [show wv (3, xa, xb) = .agg #[.int .i64 3, .int .i64 xa, .int .i64 xb] from rfl]
      go_wp2_with fail
      obtain ⟨Y, hY⟩ : ∃ Y, Y = w10.alloc (.cells #[.int .i64 3, .int .i64 xa, .int .i64 xb] 34) := ⟨_, rfl⟩
      have HY : Hid (Below w10.heap.size w10 Y) := by subst hY; exact Lib.hid (bw_alloc (Below.refl _ _) _)
      have HW10 : Hid (Blk Y w10.heap.size 34 #[.int .i64 3, .int .i64 xa, .int .i64 xb]) := by subst hY; exact Lib.hid (Blk.new _ _ _)
      rw [← hY]
      have HXY := Lib.hid (bw_call HX10.out HY.out)
      have HTUY := Lib.hid ((HTU10.out.below HY.out).more HY.out.size)
      have HGUY := Lib.hid (blk_call HGU10.out HY.out)
      have HTY := Lib.hid ((HT10.out.below HY.out).more HY.out.size)
      generalize w10.heap.size = gw at *
      clear hY HY HX10 HTU10 HGU10 HT10 HG10 HG6 HT6 c0 c1 p0 p1
      refine (is_true (by omega) HTY.out HLS.out).mono ?_
      rintro e w11 ⟨rfl, hb⟩
      have HX11 := Lib.hid (bw_call HXY.out hb)
      have HTU11 := Lib.hid ((HTUY.out.below hb).more hb.size)
      have HGU11 := Lib.hid (blk_call HGUY.out hb)
      have HW11 := Lib.hid (blk_call HW10.out hb)
      clear hb HXY HTUY HGUY HTY HW10
      obtain ⟨c0, c1, _, _, _⟩ := soup_facts HGU11.out
      obtain ⟨a0, a1, a2, _, _, _, al⟩ := wit_facts HW11.out
      have HALL := Lib.hid (fun w' (h : Below w11.heap.size w11 w') => all_any N (some ⟨bu, 0, none⟩) T.length c7 (T.set k (mir u)) w' hn1000 ((HTU11.out.below h).more h.size))
      simp only [allL_ref] at HALL
      generalize refAll N (T.set k (mir u)) = R at *
      have hR3 := HR3.out
      by_cases hxa : xa = (k : Int)
      · subst hxa
        go_wp2_with fail
        refine (HALL.out w11 (Below.refl _ _)).mono ?_
        rintro e w12 ⟨A8, c8, rfl, hr8, hb8⟩
        rw [hR3]
        have HEND := Lib.hid (bw_call (bw_call HB6.out HX11.out) hb8)
        clear hr8 hb8
        go_wp2_with fail
        go_ret
        exact ⟨rfl, HEND.out⟩
      · have hxb : xb = (k : Int) := by
          rcases hxk with h | h
          · exact absurd h hxa
          · exact h
        subst hxb
        have hxe : (xa == (k : Int)) = false := by simpa using hxa
        go_wp2_with fail
        refine (HALL.out w11 (Below.refl _ _)).mono ?_
        rintro e w12 ⟨A8, c8, rfl, hr8, hb8⟩
        rw [hR3]
        have HEND := Lib.hid (bw_call (bw_call HB6.out HX11.out) hb8)
        clear hr8 hb8
        go_wp2_with fail
        go_ret
        exact ⟨rfl, HEND.out⟩
end Go.Proofs.Ytnnbcflpbpafeaa
