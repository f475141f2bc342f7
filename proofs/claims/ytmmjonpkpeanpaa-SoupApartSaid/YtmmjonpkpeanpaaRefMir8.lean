/- The document's Mirror and Rename, walked. No condition. -/
import Derived.Test.YtmmjonpkpeanpaaEach8
namespace Go.Proofs.Ytmmjonpkpeanpaa
open Go.RowKit

set_option linter.unusedSimpArgs false
set_option linter.unusedVariables false
attribute [local irreducible] Blk LRow IRow World.alloc World.setCell KeepO World.cell? World.frozen?
/-- The number that a list gives a number. -/
def toL (l : List Int) (x : Int) : Int := l.getD x.toNat 0
def renT (l : List Int) (t : Tri) : Tri := ⟨toL l t.a, toL l t.b, toL l t.c⟩
def inL (m : Nat) (t : Tri) : Prop := (0 ≤ t.a ∧ t.a < m) ∧ (0 ≤ t.b ∧ t.b < m) ∧ 0 ≤ t.c ∧ t.c < m
theorem to_cells {w : World} {B m : Nat} {Al : Option Addr} {l : List Int} (h : Reads w B 1 Al m (ZL l)) (hm : 0 < m) : ∃ adl, Al = some adl ∧ adl.block < B ∧ ∀ i : Nat, i < m → w.cell? (adl.add i) = some (.int .i64 (toL l i)) := by
  obtain ⟨adl, e, hb, hc⟩ := h.2 hm
  refine ⟨adl, e, hb, fun i hi => hc i _ ?_⟩
  have hl : l.length = m := by have := h.1; simpa [ZL] using this
  unfold ZL toL
  rw [List.getElem?_map, List.getElem?_eq_getElem (by omega)]
  simp [List.getD_eq_getElem?_getD, List.getElem?_eq_getElem (show i < l.length by omega)]
set_option maxRecDepth 100000 in
set_option maxHeartbeats 8000000 in
theorem refMirror_any (N : Int) (A : Option Addr) (n c : Nat) (T : List Tri) (w : World) (hn : n ≤ 10000) (ht : TrisAt w w.heap.size A n T) :
    Calls Try.prog 28 #[.agg #[.int .i64 N, .slice A n c]] w (SPost w N (T.map (mirT))) := by
  obtain rfl : n = T.length := ht.len.symm
  have HT := Lib.hid ht
  obtain ⟨i0, hi0, hz0, hz1, hz2⟩ := info_parts ltri_info
  clear ht
  go_enter Try.func28, Try.ntmps28
  go_upto_region 1 with (fail)
  obtain ⟨V, hV⟩ : ∃ V, V = (w.alloc (.cells #[.int .i64 N, .slice A T.length c] 24)).alloc (.cells #[.int .i64 0, .slice none 0 0] 24) := ⟨_, rfl⟩
  have HP : Hid (PS w V w.heap.size (w.heap.size + 1) N A T.length c) := by subst hV; exact Lib.hid ⟨(Blk.new _ _ _).alloc _, blk_new1 _ _ _ _, bw_alloc (bw_alloc (Below.refl _ _) _) _, Nat.le_refl _, Nat.le_succ _, by omega⟩
  rw [← hV]
  clear hV
  obtain ⟨gs, hgs⟩ : ∃ gs, gs = w.heap.size := ⟨_, rfl⟩
  obtain ⟨gr, hgr⟩ : ∃ gr, gr = w.heap.size + 1 := ⟨_, rfl⟩
  rw [← hgr] at HP ⊢
  have HP : Hid (PS w V gs gr N A T.length c) := by rw [hgs]; exact HP
  simp only [← hgs]
  clear hgs hgr
  have HO : Hid (OneSoup (V.alloc (.cells #[.int .i64 N, .slice none 0 0] 24)) w.heap.size V.heap.size (.int .i64 N) none 0 []) := Lib.hid ⟨Blk.new _ _ _, LRow.nil _ _, HP.out.b.size⟩
  have HP2 : Hid (PS w (V.alloc (.cells #[.int .i64 N, .slice none 0 0] 24)) gs gr N A T.length c) := Lib.hid (HP.out.alloc _)
  have HGO : Hid (V.heap.size ≠ gs ∧ V.heap.size ≠ gr ∧ w.heap.size ≤ V.heap.size) := Lib.hid ⟨by have := HP.out.s.lt; omega, by have := HP.out.r.lt; omega, HP.out.b.size⟩
  obtain ⟨s0, s1, r0, r1, r2, r3⟩ := HP.out.cells
  obtain ⟨p0, p1, _, _, _, _⟩ := HP2.out.cells
  go_wp2_with fail
  generalize V.alloc (.cells #[.int .i64 N, .slice none 0 0] 24) = V2 at *
  generalize V.heap.size = go at *
  clear HP s0 s1 r0 r1 r2 r3 p0 p1
  go_loopw [4] (fun iv wr => ∃ (k : Nat) (A' : Option Addr) (c' : Nat), k ≤ T.length ∧ iv = .int .i64 k ∧ Hid (OneSoup wr w.heap.size go (.int .i64 N) A' c' ((T.take k).map (mirT))) ∧ Hid (PS w wr gs gr N A T.length c)) (fun iv _ => T.length - (intOf iv).toNat)
  case atStart => exact ⟨0, none, 0, by omega, rfl, HO, HP2⟩
  case round =>
    obtain ⟨k, A', c', hk, rfl, HOK, HPK⟩ := hrel
    obtain ⟨wm, hwm⟩ : ∃ wm : World, wm = wr := ⟨_, rfl⟩
    rw [← hwm] at HOK HPK ⊢
    clear hwm HO HP2
    by_cases hlt : k < T.length
    · obtain ⟨ad, t, e2, htk, _, hadb, hc3⟩ := (HT.out.below HPK.out.b).at_ hlt
      subst e2
      have hk0 : (0 : Int) ≤ (k : Int) := by omega
      have hk1 : (k : Int) < (T.length : Int) := by omega
      obtain ⟨L, hL⟩ : ∃ L, L = (T.take k).map (mirT) := ⟨_, rfl⟩
      rw [← hL] at HOK
      have hLl : L.length ≤ 10000 := by rw [hL]; simp; omega
      have HLS : Hid (L ++ [mirT t] = (T.take (k + 1)).map (mirT)) := Lib.hid (by rw [hL, take_snoc_T T k htk]; simp)
      have HTM := Lib.hid (List.mem_of_getElem? htk)
      obtain ⟨d0, d1, d2, d3, d4, d5⟩ := hc3
      clear hL htk
      have hptb : (ad.add (k * 3)).block < w.heap.size := by rw [block_of_add]; exact hadb
      obtain ⟨s0, s1, r0, r1, r2, r3⟩ := HPK.out.cells
      obtain ⟨row, hrow⟩ : ∃ row, row = (Value.slice A' L.length c').ownBlock := ⟨_, rfl⟩
      have HK0 := Lib.hid (KeepO.refl wm.heap.size row wm)
      obtain ⟨o0, o1, o2, o3, ol⟩ := HOK.out.cells
      have HS : Hid (∀ w', KeepO wm.heap.size row wm w' → w'.cell? ⟨gs, 1, none⟩ = some (.slice (some ad) T.length c) ∧ w'.cell? ⟨go, 1, none⟩ = some (.slice A' L.length c') ∧ w'.cell? (ad.add (k * 3)) = some (.int .i64 t.a) ∧ w'.cell? ((ad.add (k * 3)).add 1) = some (.int .i64 t.b) ∧ w'.cell? ((ad.add (k * 3)).add 2) = some (.int .i64 t.c) ∧ w'.cell? ⟨(ad.add (k * 3)).block, (ad.add (k * 3)).off + 1, none⟩ = some (.int .i64 t.b) ∧ w'.cell? ⟨(ad.add (k * 3)).block, (ad.add (k * 3)).off + 2, none⟩ = some (.int .i64 t.c) ∧ KeepO wm.heap.size row wm w') := Lib.hid fun w' h => by
        have hsz := HPK.out.b.size
        have low : ∀ p : Addr, p.block < w.heap.size → w'.cell? p = wm.cell? p := fun p hp => h.get (by omega) (by omega) (fun e => by rw [hrow] at e; have := (HOK.out.r.owns.lt _ e.symm).1; omega)
        have hgs := HPK.out.s.lt
        exact ⟨(h.get (p := ⟨gs, 1, none⟩) hgs (Nat.ne_of_lt hgs) (fun e => by rw [hrow] at e; exact soup_tri_ne HOK.out.r HPK.out.s gs e.symm rfl)).trans s1, (h.get (p := ⟨go, 1, none⟩) ol (Nat.ne_of_lt ol) (fun e => by rw [hrow] at e; exact soup_tri_ne HOK.out.r HOK.out.t go e.symm rfl)).trans o1,
          (low (ad.add (k * 3)) hptb).trans d0, (low ((ad.add (k * 3)).add 1) (by rw [block_of_add]; exact hptb)).trans d1, (low ((ad.add (k * 3)).add 2) (by rw [block_of_add]; exact hptb)).trans d2, (low ⟨(ad.add (k * 3)).block, _, none⟩ hptb).trans d4, (low ⟨(ad.add (k * 3)).block, _, none⟩ hptb).trans d5, h⟩
      have HKO : Hid (∀ w', (w'.cell? ⟨gs, 1, none⟩ = some (.slice (some ad) T.length c) ∧ w'.cell? ⟨go, 1, none⟩ = some (.slice A' L.length c') ∧ w'.cell? (ad.add (k * 3)) = some (.int .i64 t.a) ∧ w'.cell? ((ad.add (k * 3)).add 1) = some (.int .i64 t.b) ∧ w'.cell? ((ad.add (k * 3)).add 2) = some (.int .i64 t.c) ∧ w'.cell? ⟨(ad.add (k * 3)).block, (ad.add (k * 3)).off + 1, none⟩ = some (.int .i64 t.b) ∧ w'.cell? ⟨(ad.add (k * 3)).block, (ad.add (k * 3)).off + 2, none⟩ = some (.int .i64 t.c) ∧ KeepO wm.heap.size row wm w') → KeepO wm.heap.size row wm w') := Lib.hid fun w' h => by
        obtain ⟨_, _, _, _, _, _, _, h⟩ := h
        exact h
      subst hrow
      go_wp2_with fail
      refine wp_region_till (S := fun w' => w'.cell? ⟨gs, 1, none⟩ = some (.slice (some ad) T.length c) ∧ w'.cell? ⟨go, 1, none⟩ = some (.slice A' L.length c') ∧ w'.cell? (ad.add (k * 3)) = some (.int .i64 t.a) ∧ w'.cell? ((ad.add (k * 3)).add 1) = some (.int .i64 t.b) ∧ w'.cell? ((ad.add (k * 3)).add 2) = some (.int .i64 t.c) ∧ w'.cell? ⟨(ad.add (k * 3)).block, (ad.add (k * 3)).off + 1, none⟩ = some (.int .i64 t.b) ∧ w'.cell? ⟨(ad.add (k * 3)).block, (ad.add (k * 3)).off + 2, none⟩ = some (.int .i64 t.c) ∧ KeepO wm.heap.size (Value.slice A' L.length c').ownBlock wm w') 24 (by kernel_rfl) ?_ (fun hHeld => ?_)
      · (refine HS.out _ ?_; repeat (first | exact HK0.out | exact hK5 | assumption | refine KeepO.alloc ?_ _ | refine KeepO.drew ?_ | refine KeepO.set ?_ _ | exact HKO.out _ (by assumption)))
      refine Till.take (i := 0) (v := ?vt11) rfl (by kernel_rfl) (by kernel_rfl) (by kernel_rfl) (by kernel_rfl) (fun _ _ _ h => h) (Or.inl ⟨by rfl, ?ht11⟩) (by assumption) ?restt11
      case ht11 => (intro w hSw; (try dsimp only at hSw); go_simp; try with_reducible rfl)
      (try simp only [Act.put, List.setIfInBounds_toArray, List.set_cons_zero, List.set_cons_succ])
      refine Till.take (i := 1) (v := ?vt12) rfl (by kernel_rfl) (by kernel_rfl) (by kernel_rfl) (by kernel_rfl) (fun _ _ _ h => h) (Or.inl ⟨by rfl, ?ht12⟩) (by assumption) ?restt12
      case ht12 => (intro w hSw; (try dsimp only at hSw); go_simp; try with_reducible rfl)
      (try simp only [Act.put, List.setIfInBounds_toArray, List.set_cons_zero, List.set_cons_succ])
      refine Till.take (i := 2) (v := ?vt13) rfl (by kernel_rfl) (by kernel_rfl) (by kernel_rfl) (by kernel_rfl) (fun _ _ _ h => h) (Or.inl ⟨by rfl, ?ht13⟩) (by assumption) ?restt13
      case ht13 => (intro w hSw; (try dsimp only at hSw); go_simp; try with_reducible rfl)
      (try simp only [Act.put, List.setIfInBounds_toArray, List.set_cons_zero, List.set_cons_succ])
      refine Till.take (i := 3) (v := ?vt14) rfl (by kernel_rfl) (by kernel_rfl) (by kernel_rfl) (by kernel_rfl) (fun _ _ _ h => h) (Or.inl ⟨by rfl, ?ht14⟩) (by assumption) ?restt14
      case ht14 => (intro w hSw; (try dsimp only at hSw); go_simp; try with_reducible rfl)
      (try simp only [Act.put, List.setIfInBounds_toArray, List.set_cons_zero, List.set_cons_succ])
      refine Till.take (i := 4) (v := ?vt15) rfl (by kernel_rfl) (by kernel_rfl) (by kernel_rfl) (by kernel_rfl) (fun _ _ _ h => h) (Or.inl ⟨by rfl, ?ht15⟩) (by assumption) ?restt15
      case ht15 => (intro w hSw; (try dsimp only at hSw); go_simp; try with_reducible rfl)
      (try simp only [Act.put, List.setIfInBounds_toArray, List.set_cons_zero, List.set_cons_succ])
      refine Till.take (i := 5) (v := ?vt16) rfl (by kernel_rfl) (by kernel_rfl) (by kernel_rfl) (by kernel_rfl) (fun _ _ _ h => h) (Or.inl ⟨by rfl, ?ht16⟩) (by assumption) ?restt16
      case ht16 => (intro w hSw; (try dsimp only at hSw); go_simp; try with_reducible rfl)
      (try simp only [Act.put, List.setIfInBounds_toArray, List.set_cons_zero, List.set_cons_succ])
      refine Till.take (i := 6) (v := ?vt17) rfl (by kernel_rfl) (by kernel_rfl) (by kernel_rfl) (by kernel_rfl) (fun _ _ _ h => h) (Or.inl ⟨by rfl, ?ht17⟩) (by assumption) ?restt17
      case ht17 => (intro w hSw; (try dsimp only at hSw); go_simp; try with_reducible rfl)
      (try simp only [Act.put, List.setIfInBounds_toArray, List.set_cons_zero, List.set_cons_succ])
      refine Till.take (i := 7) (v := ?vt18) rfl (by kernel_rfl) (by kernel_rfl) (by kernel_rfl) (by kernel_rfl) (fun _ _ _ h => h) (Or.inl ⟨by rfl, ?ht18⟩) (by assumption) ?restt18
      case ht18 => (intro w hSw; (try dsimp only at hSw); go_simp; try with_reducible rfl)
      (try simp only [Act.put, List.setIfInBounds_toArray, List.set_cons_zero, List.set_cons_succ])
      refine Till.take (i := 8) (v := ?vt19) rfl (by kernel_rfl) (by kernel_rfl) (by kernel_rfl) (by kernel_rfl) (fun _ _ _ h => h) (Or.inl ⟨by rfl, ?ht19⟩) (by assumption) ?restt19
      case ht19 => (intro w hSw; (try dsimp only at hSw); go_simp; try with_reducible rfl)
      (try simp only [Act.put, List.setIfInBounds_toArray, List.set_cons_zero, List.set_cons_succ])
      refine Till.take (i := 9) (v := ?vt20) rfl (by kernel_rfl) (by kernel_rfl) (by kernel_rfl) (by kernel_rfl) (fun _ _ _ h => h) (Or.inl ⟨by rfl, ?ht20⟩) (by assumption) ?restt20
      case ht20 => (intro w hSw; (try dsimp only at hSw); go_simp; try with_reducible rfl)
      (try simp only [Act.put, List.setIfInBounds_toArray, List.set_cons_zero, List.set_cons_succ])
      refine Till.take (i := 10) (v := ?vt21) rfl (by kernel_rfl) (by kernel_rfl) (by kernel_rfl) (by kernel_rfl) (fun _ _ _ h => h) (Or.inl ⟨by rfl, ?ht21⟩) (by assumption) ?restt21
      case ht21 => (intro w hSw; (try dsimp only at hSw); go_simp; try with_reducible rfl)
      (try simp only [Act.put, List.setIfInBounds_toArray, List.set_cons_zero, List.set_cons_succ])
      refine Till.take (i := 11) (v := ?vt22) rfl (by kernel_rfl) (by kernel_rfl) (by kernel_rfl) (by kernel_rfl) (fun _ _ _ h => h) (Or.inl ⟨by rfl, ?ht22⟩) (by assumption) ?restt22
      case ht22 => (intro w hSw; (try dsimp only at hSw); go_simp; try with_reducible rfl)
      (try simp only [Act.put, List.setIfInBounds_toArray, List.set_cons_zero, List.set_cons_succ])
      refine Till.take (i := 12) (v := ?vt23) rfl (by kernel_rfl) (by kernel_rfl) (by kernel_rfl) (by kernel_rfl) (fun _ _ _ h => h) (Or.inl ⟨by rfl, ?ht23⟩) (by assumption) ?restt23
      case ht23 => (intro w hSw; (try dsimp only at hSw); go_simp; try with_reducible rfl)
      (try simp only [Act.put, List.setIfInBounds_toArray, List.set_cons_zero, List.set_cons_succ])
      refine Till.take (i := 13) (v := ?vt24) rfl (by kernel_rfl) (by kernel_rfl) (by kernel_rfl) (by kernel_rfl) (fun _ _ _ h => h) (Or.inl ⟨by rfl, ?ht24⟩) (by assumption) ?restt24
      case ht24 => (intro w hSw; (try dsimp only at hSw); go_simp; try with_reducible rfl)
      (try simp only [Act.put, List.setIfInBounds_toArray, List.set_cons_zero, List.set_cons_succ])
      refine Till.take (i := 14) (v := ?vt25) rfl (by kernel_rfl) (by kernel_rfl) (by kernel_rfl) (by kernel_rfl) (fun _ _ _ h => h) (Or.inl ⟨by rfl, ?ht25⟩) (by assumption) ?restt25
      case ht25 => (intro w hSw; (try dsimp only at hSw); go_simp; try with_reducible rfl)
      (try simp only [Act.put, List.setIfInBounds_toArray, List.set_cons_zero, List.set_cons_succ])
      refine Till.take (i := 15) (v := ?vt26) rfl (by kernel_rfl) (by kernel_rfl) (by kernel_rfl) (by kernel_rfl) (fun _ _ _ h => h) (Or.inl ⟨by rfl, ?ht26⟩) (by assumption) ?restt26
      case ht26 => (intro w hSw; (try dsimp only at hSw); go_simp; try with_reducible rfl)
      (try simp only [Act.put, List.setIfInBounds_toArray, List.set_cons_zero, List.set_cons_succ])
      refine Till.take (i := 16) (v := ?vt27) rfl (by kernel_rfl) (by kernel_rfl) (by kernel_rfl) (by kernel_rfl) (fun _ _ _ h => h) (Or.inl ⟨by rfl, ?ht27⟩) (by assumption) ?restt27
      case ht27 => (intro w hSw; (try dsimp only at hSw); go_simp; try with_reducible rfl)
      (try simp only [Act.put, List.setIfInBounds_toArray, List.set_cons_zero, List.set_cons_succ])
      refine Till.take (i := 17) (v := ?vt28) rfl (by kernel_rfl) (by kernel_rfl) (by kernel_rfl) (by kernel_rfl) (fun _ _ _ h => h) (Or.inl ⟨by rfl, ?ht28⟩) (by assumption) ?restt28
      case ht28 => (intro w hSw; (try dsimp only at hSw); go_simp; try with_reducible rfl)
      (try simp only [Act.put, List.setIfInBounds_toArray, List.set_cons_zero, List.set_cons_succ])
      refine Till.take (i := 18) (v := ?vt29) rfl (by kernel_rfl) (by kernel_rfl) (by kernel_rfl) (by kernel_rfl) (fun _ _ _ h => h) (Or.inl ⟨by rfl, ?ht29⟩) (by assumption) ?restt29
      case ht29 => (intro w hSw; (try dsimp only at hSw); go_simp; try with_reducible rfl)
      (try simp only [Act.put, List.setIfInBounds_toArray, List.set_cons_zero, List.set_cons_succ])
      refine Till.take (i := 19) (v := ?vt30) rfl (by kernel_rfl) (by kernel_rfl) (by kernel_rfl) (by kernel_rfl) (fun _ _ _ h => h) (Or.inl ⟨by rfl, ?ht30⟩) (by assumption) ?restt30
      case ht30 => (intro w hSw; (try dsimp only at hSw); go_simp; try with_reducible rfl)
      (try simp only [Act.put, List.setIfInBounds_toArray, List.set_cons_zero, List.set_cons_succ])
      refine Till.take (i := 20) (v := ?vt31) rfl (by kernel_rfl) (by kernel_rfl) (by kernel_rfl) (by kernel_rfl) (fun _ _ _ h => h) (Or.inl ⟨by rfl, ?ht31⟩) (by assumption) ?restt31
      case ht31 => (intro w hSw; (try dsimp only at hSw); go_simp; try with_reducible rfl)
      (try simp only [Act.put, List.setIfInBounds_toArray, List.set_cons_zero, List.set_cons_succ])
      refine Till.ready (rs := [21]) (by kernel_rfl) (by simp) ?_
      refine TillEach.cons rfl (fun K hK => ?_) ?_
      · go_simp
        refine hK.out _ _ ?_ (fun hHeld => ?_)
        · (refine HS.out _ ?_; repeat (first | exact HK0.out | exact hK5 | assumption | refine KeepO.alloc ?_ _ | refine KeepO.drew ?_ | refine KeepO.set ?_ _ | exact HKO.out _ (by assumption)))
        clear hK K
        (try simp only [Act.put, List.setIfInBounds_toArray, List.set_cons_zero, List.set_cons_succ])
        refine Till.ready (rs := [22]) (by kernel_rfl) (by simp) ?_
        refine TillEach.cons rfl (fun K hK => ?_) ?_
        · refine step_append_sl _ (by rfl) (.tmp 16) (.tmp 36) _ (by rfl) w.heap.size 51 i0 _ 3 24 Try.underlying22 hi0 hz0 hz1 hz2 rfl (by omega) (.slice A' L.length c') L.length (L.flatMap Tri.cells) (by rfl) ((HOK.out).alloc _).drew.r.owns (wm.heap.size + 1) (some ⟨wm.heap.size, 0, none⟩) 1 1 [.int .i64 t.a, .int .i64 t.c, .int .i64 t.b] (by rfl) (reads_newN _ _ _ 1 3 rfl rfl).drew (by simp [Value.oneCell']) (by simp only [maxLen]; omega) (by omega) (bw_size (bw_drew (bw_alloc HPK.out.b _))) ?_
          intro A5 c5 w5 hown5 hg5 hat5
          obtain ⟨z0, z1, z2⟩ := OneSoup.facts ((HOK.out).alloc _).drew hg5
          have hB5 : Below w.heap.size w w5 := bw_grow (bw_drew (bw_alloc HPK.out.b _)) hg5 (fun x hx => (HOK.out.r.owns.lt x hx).1)
          have hK5 := KeepO.grow (KeepO.drew (KeepO.alloc HK0.out _)) hg5
          refine hK.out _ _ ?_ (fun hHeld => ?_)
          · (refine HS.out _ ?_; repeat (first | exact HK0.out | exact hK5 | assumption | refine KeepO.alloc ?_ _ | refine KeepO.drew ?_ | refine KeepO.set ?_ _ | exact HKO.out _ (by assumption)))
          clear hK K
          (try simp only [Act.put, List.setIfInBounds_toArray, List.set_cons_zero, List.set_cons_succ])
          refine Till.take (i := 23) (v := ?vt32) rfl (by kernel_rfl) (by kernel_rfl) (by kernel_rfl) (by kernel_rfl) (fun _ _ _ h => h) (Or.inl ⟨by rfl, ?ht32⟩) (by assumption) ?restt32
          case ht32 => (intro w hSw; (try dsimp only at hSw); go_simp; try with_reducible rfl)
          (try simp only [Act.put, List.setIfInBounds_toArray, List.set_cons_zero, List.set_cons_succ])
          refine Till.ready (rs := [24]) (by kernel_rfl) (by simp) ?_
          refine TillEach.last rfl (fun K hK => ?_)
          · go_simp
            refine hK.out _ _ ?_
            clear hK K
            (try simp only [Act.put, List.setIfInBounds_toArray, List.set_cons_zero, List.set_cons_succ])
            refine Till.done (by kernel_rfl) ?_ _
            go_wp2_with fail
            refine ⟨⟨k + 1, A5, c5, by omega, by go_num, Lib.hid ?_, Lib.hid ?_⟩, by simp [intOf]; omega⟩
            · rw [← HLS.out]
              exact OneSoup.push ((HOK.out).alloc _).drew hown5 (by simp) (by simp [Tri.cells, mirT]) hg5
            · exact (PS.grown ((HPK.out).alloc _).drew ((HOK.out).alloc _).drew.r (Nat.le_refl _) hg5).far HGO.out.1.symm HGO.out.2.1.symm HGO.out.2.2 _ _
        exact TillEach.nil
      exact TillEach.nil
    · obtain rfl : k = T.length := by omega
      rw [List.take_length] at HOK
      obtain ⟨o0, o1, _, _, _⟩ := HOK.out.cells
      obtain ⟨s0, s1, r0, r1, r2, r3⟩ := HPK.out.cells
      go_wp2_with fail
      obtain ⟨f0, f1, _, _, _⟩ := soup_facts (soup_set HPK.out.r (.int .i64 N) (.slice A' (T.map (mirT)).length c'))
      rw [List.length_map] at f0 f1
      refine bodyPost_ret (v := .agg #[.int .i64 N, .slice A' (T.map (mirT)).length c']) ?_ rfl ⟨A', c', rfl, HOK.out.r.soup_set HPK.out.r _ _, bw_set (bw_set HPK.out.b HPK.out.hr _) HPK.out.hr _⟩
      simp [results, Try.results28, go_sem, f0, f1]
set_option maxRecDepth 100000 in
set_option maxHeartbeats 8000000 in
theorem refRename_any (Al : Option Addr) (m cl : Nat) (l : List Int) (N : Int) (A : Option Addr) (n c : Nat) (T : List Tri) (w : World) (hn : n ≤ 10000) (ht : TrisAt w w.heap.size A n T) (hl : Reads w w.heap.size 1 Al m (ZL l)) (hi : ∀ t ∈ T, inL m t) :
    Calls Try.prog 31 #[.agg #[.int .i64 N, .slice A n c], .slice Al m cl] w (SPost w N (T.map (renT l))) := by
  have HL := Lib.hid hl
  have HI := Lib.hid hi
  clear hl hi
  obtain rfl : n = T.length := ht.len.symm
  have HT := Lib.hid ht
  obtain ⟨i0, hi0, hz0, hz1, hz2⟩ := info_parts ltri_info
  clear ht
  go_enter Try.func31, Try.ntmps31
  go_upto_region 1 with (fail)
  obtain ⟨V, hV⟩ : ∃ V, V = (w.alloc (.cells #[.int .i64 N, .slice A T.length c] 24)).alloc (.cells #[.int .i64 0, .slice none 0 0] 24) := ⟨_, rfl⟩
  have HP : Hid (PS w V w.heap.size (w.heap.size + 1) N A T.length c) := by subst hV; exact Lib.hid ⟨(Blk.new _ _ _).alloc _, blk_new1 _ _ _ _, bw_alloc (bw_alloc (Below.refl _ _) _) _, Nat.le_refl _, Nat.le_succ _, by omega⟩
  rw [← hV]
  clear hV
  obtain ⟨gs, hgs⟩ : ∃ gs, gs = w.heap.size := ⟨_, rfl⟩
  obtain ⟨gr, hgr⟩ : ∃ gr, gr = w.heap.size + 1 := ⟨_, rfl⟩
  rw [← hgr] at HP ⊢
  have HP : Hid (PS w V gs gr N A T.length c) := by rw [hgs]; exact HP
  simp only [← hgs]
  clear hgs hgr
  have HO : Hid (OneSoup (V.alloc (.cells #[.int .i64 N, .slice none 0 0] 24)) w.heap.size V.heap.size (.int .i64 N) none 0 []) := Lib.hid ⟨Blk.new _ _ _, LRow.nil _ _, HP.out.b.size⟩
  have HP2 : Hid (PS w (V.alloc (.cells #[.int .i64 N, .slice none 0 0] 24)) gs gr N A T.length c) := Lib.hid (HP.out.alloc _)
  have HGO : Hid (V.heap.size ≠ gs ∧ V.heap.size ≠ gr ∧ w.heap.size ≤ V.heap.size) := Lib.hid ⟨by have := HP.out.s.lt; omega, by have := HP.out.r.lt; omega, HP.out.b.size⟩
  obtain ⟨s0, s1, r0, r1, r2, r3⟩ := HP.out.cells
  obtain ⟨p0, p1, _, _, _, _⟩ := HP2.out.cells
  go_wp2_with fail
  generalize V.alloc (.cells #[.int .i64 N, .slice none 0 0] 24) = V2 at *
  generalize V.heap.size = go at *
  clear HP s0 s1 r0 r1 r2 r3 p0 p1
  go_loopw [6] (fun iv wr => ∃ (k : Nat) (A' : Option Addr) (c' : Nat), k ≤ T.length ∧ iv = .int .i64 k ∧ Hid (OneSoup wr w.heap.size go (.int .i64 N) A' c' ((T.take k).map (renT l))) ∧ Hid (PS w wr gs gr N A T.length c)) (fun iv _ => T.length - (intOf iv).toNat)
  case atStart => exact ⟨0, none, 0, by omega, rfl, HO, HP2⟩
  case round =>
    obtain ⟨k, A', c', hk, rfl, HOK, HPK⟩ := hrel
    obtain ⟨wm, hwm⟩ : ∃ wm : World, wm = wr := ⟨_, rfl⟩
    rw [← hwm] at HOK HPK ⊢
    clear hwm HO HP2
    by_cases hlt : k < T.length
    · obtain ⟨ad, t, e2, htk, _, hadb, hc3⟩ := (HT.out.below HPK.out.b).at_ hlt
      subst e2
      have hk0 : (0 : Int) ≤ (k : Int) := by omega
      have hk1 : (k : Int) < (T.length : Int) := by omega
      obtain ⟨L, hL⟩ : ∃ L, L = (T.take k).map (renT l) := ⟨_, rfl⟩
      rw [← hL] at HOK
      have hLl : L.length ≤ 10000 := by rw [hL]; simp; omega
      have HLS : Hid (L ++ [renT l t] = (T.take (k + 1)).map (renT l)) := Lib.hid (by rw [hL, take_snoc_T T k htk]; simp)
      have HTM := Lib.hid (List.mem_of_getElem? htk)
      obtain ⟨d0, d1, d2, d3, d4, d5⟩ := hc3
      clear hL htk
      obtain ⟨⟨a0, a1⟩, ⟨b0, b1⟩, c0, c1⟩ := HI.out t HTM.out
      obtain ⟨ta, tb, tc⟩ := t
      simp only at a0 a1 b0 b1 c0 c1 d0 d1 d2 d3 d4 d5
      obtain ⟨an, rfl⟩ := Int.eq_ofNat_of_zero_le a0
      obtain ⟨bn, rfl⟩ := Int.eq_ofNat_of_zero_le b0
      obtain ⟨cn, rfl⟩ := Int.eq_ofNat_of_zero_le c0
      obtain ⟨adl, eAl, hadl, htc⟩ := to_cells (HL.out.below HPK.out.b) (by omega)
      subst eAl
      have q0 := htc an (by omega)
      have q1 := htc bn (by omega)
      have q2 := htc cn (by omega)
      clear htc
      have HRN : Hid (renT l ⟨(an : Int), (bn : Int), (cn : Int)⟩ = ⟨toL l an, toL l bn, toL l cn⟩) := Lib.hid rfl
      rw [HRN.out] at HLS
      clear HRN
      generalize toL l an = xa at *
      generalize toL l bn = xb at *
      generalize toL l cn = xc at *
      have hptb : (ad.add (k * 3)).block < w.heap.size := by rw [block_of_add]; exact hadb
      obtain ⟨s0, s1, r0, r1, r2, r3⟩ := HPK.out.cells
      obtain ⟨row, hrow⟩ : ∃ row, row = (Value.slice A' L.length c').ownBlock := ⟨_, rfl⟩
      have HK0 := Lib.hid (KeepO.refl wm.heap.size row wm)
      obtain ⟨o0, o1, o2, o3, ol⟩ := HOK.out.cells
      have HS : Hid (∀ w', KeepO wm.heap.size row wm w' → w'.cell? ⟨gs, 1, none⟩ = some (.slice (some ad) T.length c) ∧ w'.cell? ⟨go, 1, none⟩ = some (.slice A' L.length c') ∧ w'.cell? (ad.add (k * 3)) = some (.int .i64 an) ∧ w'.cell? ((ad.add (k * 3)).add 1) = some (.int .i64 bn) ∧ w'.cell? ((ad.add (k * 3)).add 2) = some (.int .i64 cn) ∧ w'.cell? ⟨(ad.add (k * 3)).block, (ad.add (k * 3)).off + 1, none⟩ = some (.int .i64 bn) ∧ w'.cell? ⟨(ad.add (k * 3)).block, (ad.add (k * 3)).off + 2, none⟩ = some (.int .i64 cn) ∧ w'.cell? (adl.add an) = some (.int .i64 xa) ∧ w'.cell? (adl.add bn) = some (.int .i64 xb) ∧ w'.cell? (adl.add cn) = some (.int .i64 xc) ∧ KeepO wm.heap.size row wm w') := Lib.hid fun w' h => by
        have hsz := HPK.out.b.size
        have low : ∀ p : Addr, p.block < w.heap.size → w'.cell? p = wm.cell? p := fun p hp => h.get (by omega) (by omega) (fun e => by rw [hrow] at e; have := (HOK.out.r.owns.lt _ e.symm).1; omega)
        have hgs := HPK.out.s.lt
        exact ⟨(h.get (p := ⟨gs, 1, none⟩) hgs (Nat.ne_of_lt hgs) (fun e => by rw [hrow] at e; exact soup_tri_ne HOK.out.r HPK.out.s gs e.symm rfl)).trans s1, (h.get (p := ⟨go, 1, none⟩) ol (Nat.ne_of_lt ol) (fun e => by rw [hrow] at e; exact soup_tri_ne HOK.out.r HOK.out.t go e.symm rfl)).trans o1,
          (low (ad.add (k * 3)) hptb).trans d0, (low ((ad.add (k * 3)).add 1) (by rw [block_of_add]; exact hptb)).trans d1, (low ((ad.add (k * 3)).add 2) (by rw [block_of_add]; exact hptb)).trans d2, (low ⟨(ad.add (k * 3)).block, _, none⟩ hptb).trans d4, (low ⟨(ad.add (k * 3)).block, _, none⟩ hptb).trans d5, (low _ (by rw [block_of_add]; exact hadl)).trans q0, (low _ (by rw [block_of_add]; exact hadl)).trans q1, (low _ (by rw [block_of_add]; exact hadl)).trans q2, h⟩
      have HKO : Hid (∀ w', (w'.cell? ⟨gs, 1, none⟩ = some (.slice (some ad) T.length c) ∧ w'.cell? ⟨go, 1, none⟩ = some (.slice A' L.length c') ∧ w'.cell? (ad.add (k * 3)) = some (.int .i64 an) ∧ w'.cell? ((ad.add (k * 3)).add 1) = some (.int .i64 bn) ∧ w'.cell? ((ad.add (k * 3)).add 2) = some (.int .i64 cn) ∧ w'.cell? ⟨(ad.add (k * 3)).block, (ad.add (k * 3)).off + 1, none⟩ = some (.int .i64 bn) ∧ w'.cell? ⟨(ad.add (k * 3)).block, (ad.add (k * 3)).off + 2, none⟩ = some (.int .i64 cn) ∧ w'.cell? (adl.add an) = some (.int .i64 xa) ∧ w'.cell? (adl.add bn) = some (.int .i64 xb) ∧ w'.cell? (adl.add cn) = some (.int .i64 xc) ∧ KeepO wm.heap.size row wm w') → KeepO wm.heap.size row wm w') := Lib.hid fun w' h => by
        obtain ⟨_, _, _, _, _, _, _, _, _, _, h⟩ := h
        exact h
      subst hrow
      go_wp2_with fail
      refine wp_region_till (S := fun w' => w'.cell? ⟨gs, 1, none⟩ = some (.slice (some ad) T.length c) ∧ w'.cell? ⟨go, 1, none⟩ = some (.slice A' L.length c') ∧ w'.cell? (ad.add (k * 3)) = some (.int .i64 an) ∧ w'.cell? ((ad.add (k * 3)).add 1) = some (.int .i64 bn) ∧ w'.cell? ((ad.add (k * 3)).add 2) = some (.int .i64 cn) ∧ w'.cell? ⟨(ad.add (k * 3)).block, (ad.add (k * 3)).off + 1, none⟩ = some (.int .i64 bn) ∧ w'.cell? ⟨(ad.add (k * 3)).block, (ad.add (k * 3)).off + 2, none⟩ = some (.int .i64 cn) ∧ w'.cell? (adl.add an) = some (.int .i64 xa) ∧ w'.cell? (adl.add bn) = some (.int .i64 xb) ∧ w'.cell? (adl.add cn) = some (.int .i64 xc) ∧ KeepO wm.heap.size (Value.slice A' L.length c').ownBlock wm w') 33 (by kernel_rfl) ?_ (fun hHeld => ?_)
      · (refine HS.out _ ?_; repeat (first | exact HK0.out | exact hK5 | assumption | refine KeepO.alloc ?_ _ | refine KeepO.drew ?_ | refine KeepO.set ?_ _ | exact HKO.out _ (by assumption)))
      refine Till.take (i := 0) (v := ?vt33) rfl (by kernel_rfl) (by kernel_rfl) (by kernel_rfl) (by kernel_rfl) (fun _ _ _ h => h) (Or.inl ⟨by rfl, ?ht33⟩) (by assumption) ?restt33
      case ht33 => (intro w hSw; (try dsimp only at hSw); go_simp; try with_reducible rfl)
      (try simp only [Act.put, List.setIfInBounds_toArray, List.set_cons_zero, List.set_cons_succ])
      refine Till.take (i := 1) (v := ?vt34) rfl (by kernel_rfl) (by kernel_rfl) (by kernel_rfl) (by kernel_rfl) (fun _ _ _ h => h) (Or.inl ⟨by rfl, ?ht34⟩) (by assumption) ?restt34
      case ht34 => (intro w hSw; (try dsimp only at hSw); go_simp; try with_reducible rfl)
      (try simp only [Act.put, List.setIfInBounds_toArray, List.set_cons_zero, List.set_cons_succ])
      refine Till.take (i := 2) (v := ?vt35) rfl (by kernel_rfl) (by kernel_rfl) (by kernel_rfl) (by kernel_rfl) (fun _ _ _ h => h) (Or.inl ⟨by rfl, ?ht35⟩) (by assumption) ?restt35
      case ht35 => (intro w hSw; (try dsimp only at hSw); go_simp; try with_reducible rfl)
      (try simp only [Act.put, List.setIfInBounds_toArray, List.set_cons_zero, List.set_cons_succ])
      refine Till.take (i := 3) (v := ?vt36) rfl (by kernel_rfl) (by kernel_rfl) (by kernel_rfl) (by kernel_rfl) (fun _ _ _ h => h) (Or.inl ⟨by rfl, ?ht36⟩) (by assumption) ?restt36
      case ht36 => (intro w hSw; (try dsimp only at hSw); go_simp; try with_reducible rfl)
      (try simp only [Act.put, List.setIfInBounds_toArray, List.set_cons_zero, List.set_cons_succ])
      refine Till.take (i := 4) (v := ?vt37) rfl (by kernel_rfl) (by kernel_rfl) (by kernel_rfl) (by kernel_rfl) (fun _ _ _ h => h) (Or.inl ⟨by rfl, ?ht37⟩) (by assumption) ?restt37
      case ht37 => (intro w hSw; (try dsimp only at hSw); go_simp; try with_reducible rfl)
      (try simp only [Act.put, List.setIfInBounds_toArray, List.set_cons_zero, List.set_cons_succ])
      refine Till.take (i := 5) (v := ?vt38) rfl (by kernel_rfl) (by kernel_rfl) (by kernel_rfl) (by kernel_rfl) (fun _ _ _ h => h) (Or.inl ⟨by rfl, ?ht38⟩) (by assumption) ?restt38
      case ht38 => (intro w hSw; (try dsimp only at hSw); go_simp; try with_reducible rfl)
      (try simp only [Act.put, List.setIfInBounds_toArray, List.set_cons_zero, List.set_cons_succ])
      refine Till.take (i := 6) (v := ?vt39) rfl (by kernel_rfl) (by kernel_rfl) (by kernel_rfl) (by kernel_rfl) (fun _ _ _ h => h) (Or.inl ⟨by rfl, ?ht39⟩) (by assumption) ?restt39
      case ht39 => (intro w hSw; (try dsimp only at hSw); go_simp; try with_reducible rfl)
      (try simp only [Act.put, List.setIfInBounds_toArray, List.set_cons_zero, List.set_cons_succ])
      refine Till.take (i := 7) (v := ?vt40) rfl (by kernel_rfl) (by kernel_rfl) (by kernel_rfl) (by kernel_rfl) (fun _ _ _ h => h) (Or.inl ⟨by rfl, ?ht40⟩) (by assumption) ?restt40
      case ht40 => (intro w hSw; (try dsimp only at hSw); go_simp; try with_reducible rfl)
      (try simp only [Act.put, List.setIfInBounds_toArray, List.set_cons_zero, List.set_cons_succ])
      refine Till.take (i := 8) (v := ?vt41) rfl (by kernel_rfl) (by kernel_rfl) (by kernel_rfl) (by kernel_rfl) (fun _ _ _ h => h) (Or.inl ⟨by rfl, ?ht41⟩) (by assumption) ?restt41
      case ht41 => (intro w hSw; (try dsimp only at hSw); go_simp; try with_reducible rfl)
      (try simp only [Act.put, List.setIfInBounds_toArray, List.set_cons_zero, List.set_cons_succ])
      refine Till.take (i := 9) (v := ?vt42) rfl (by kernel_rfl) (by kernel_rfl) (by kernel_rfl) (by kernel_rfl) (fun _ _ _ h => h) (Or.inl ⟨by rfl, ?ht42⟩) (by assumption) ?restt42
      case ht42 => (intro w hSw; (try dsimp only at hSw); go_simp; try with_reducible rfl)
      (try simp only [Act.put, List.setIfInBounds_toArray, List.set_cons_zero, List.set_cons_succ])
      refine Till.take (i := 10) (v := ?vt43) rfl (by kernel_rfl) (by kernel_rfl) (by kernel_rfl) (by kernel_rfl) (fun _ _ _ h => h) (Or.inl ⟨by rfl, ?ht43⟩) (by assumption) ?restt43
      case ht43 => (intro w hSw; (try dsimp only at hSw); go_simp; try with_reducible rfl)
      (try simp only [Act.put, List.setIfInBounds_toArray, List.set_cons_zero, List.set_cons_succ])
      refine Till.take (i := 11) (v := ?vt44) rfl (by kernel_rfl) (by kernel_rfl) (by kernel_rfl) (by kernel_rfl) (fun _ _ _ h => h) (Or.inl ⟨by rfl, ?ht44⟩) (by assumption) ?restt44
      case ht44 => (intro w hSw; (try dsimp only at hSw); go_simp; try with_reducible rfl)
      (try simp only [Act.put, List.setIfInBounds_toArray, List.set_cons_zero, List.set_cons_succ])
      refine Till.take (i := 12) (v := ?vt45) rfl (by kernel_rfl) (by kernel_rfl) (by kernel_rfl) (by kernel_rfl) (fun _ _ _ h => h) (Or.inl ⟨by rfl, ?ht45⟩) (by assumption) ?restt45
      case ht45 => (intro w hSw; (try dsimp only at hSw); go_simp; try with_reducible rfl)
      (try simp only [Act.put, List.setIfInBounds_toArray, List.set_cons_zero, List.set_cons_succ])
      refine Till.take (i := 13) (v := ?vt46) rfl (by kernel_rfl) (by kernel_rfl) (by kernel_rfl) (by kernel_rfl) (fun _ _ _ h => h) (Or.inl ⟨by rfl, ?ht46⟩) (by assumption) ?restt46
      case ht46 => (intro w hSw; (try dsimp only at hSw); go_simp; try with_reducible rfl)
      (try simp only [Act.put, List.setIfInBounds_toArray, List.set_cons_zero, List.set_cons_succ])
      refine Till.take (i := 14) (v := ?vt47) rfl (by kernel_rfl) (by kernel_rfl) (by kernel_rfl) (by kernel_rfl) (fun _ _ _ h => h) (Or.inl ⟨by rfl, ?ht47⟩) (by assumption) ?restt47
      case ht47 => (intro w hSw; (try dsimp only at hSw); go_simp; try with_reducible rfl)
      (try simp only [Act.put, List.setIfInBounds_toArray, List.set_cons_zero, List.set_cons_succ])
      refine Till.take (i := 15) (v := ?vt48) rfl (by kernel_rfl) (by kernel_rfl) (by kernel_rfl) (by kernel_rfl) (fun _ _ _ h => h) (Or.inl ⟨by rfl, ?ht48⟩) (by assumption) ?restt48
      case ht48 => (intro w hSw; (try dsimp only at hSw); go_simp; try with_reducible rfl)
      (try simp only [Act.put, List.setIfInBounds_toArray, List.set_cons_zero, List.set_cons_succ])
      refine Till.take (i := 16) (v := ?vt49) rfl (by kernel_rfl) (by kernel_rfl) (by kernel_rfl) (by kernel_rfl) (fun _ _ _ h => h) (Or.inl ⟨by rfl, ?ht49⟩) (by assumption) ?restt49
      case ht49 => (intro w hSw; (try dsimp only at hSw); go_simp; try with_reducible rfl)
      (try simp only [Act.put, List.setIfInBounds_toArray, List.set_cons_zero, List.set_cons_succ])
      refine Till.take (i := 17) (v := ?vt50) rfl (by kernel_rfl) (by kernel_rfl) (by kernel_rfl) (by kernel_rfl) (fun _ _ _ h => h) (Or.inl ⟨by rfl, ?ht50⟩) (by assumption) ?restt50
      case ht50 => (intro w hSw; (try dsimp only at hSw); go_simp; try with_reducible rfl)
      (try simp only [Act.put, List.setIfInBounds_toArray, List.set_cons_zero, List.set_cons_succ])
      refine Till.take (i := 18) (v := ?vt51) rfl (by kernel_rfl) (by kernel_rfl) (by kernel_rfl) (by kernel_rfl) (fun _ _ _ h => h) (Or.inl ⟨by rfl, ?ht51⟩) (by assumption) ?restt51
      case ht51 => (intro w hSw; (try dsimp only at hSw); go_simp; try with_reducible rfl)
      (try simp only [Act.put, List.setIfInBounds_toArray, List.set_cons_zero, List.set_cons_succ])
      refine Till.take (i := 19) (v := ?vt52) rfl (by kernel_rfl) (by kernel_rfl) (by kernel_rfl) (by kernel_rfl) (fun _ _ _ h => h) (Or.inl ⟨by rfl, ?ht52⟩) (by assumption) ?restt52
      case ht52 => (intro w hSw; (try dsimp only at hSw); go_simp; try with_reducible rfl)
      (try simp only [Act.put, List.setIfInBounds_toArray, List.set_cons_zero, List.set_cons_succ])
      refine Till.take (i := 20) (v := ?vt53) rfl (by kernel_rfl) (by kernel_rfl) (by kernel_rfl) (by kernel_rfl) (fun _ _ _ h => h) (Or.inl ⟨by rfl, ?ht53⟩) (by assumption) ?restt53
      case ht53 => (intro w hSw; (try dsimp only at hSw); go_simp; try with_reducible rfl)
      (try simp only [Act.put, List.setIfInBounds_toArray, List.set_cons_zero, List.set_cons_succ])
      refine Till.take (i := 21) (v := ?vt54) rfl (by kernel_rfl) (by kernel_rfl) (by kernel_rfl) (by kernel_rfl) (fun _ _ _ h => h) (Or.inl ⟨by rfl, ?ht54⟩) (by assumption) ?restt54
      case ht54 => (intro w hSw; (try dsimp only at hSw); go_simp; try with_reducible rfl)
      (try simp only [Act.put, List.setIfInBounds_toArray, List.set_cons_zero, List.set_cons_succ])
      refine Till.take (i := 22) (v := ?vt55) rfl (by kernel_rfl) (by kernel_rfl) (by kernel_rfl) (by kernel_rfl) (fun _ _ _ h => h) (Or.inl ⟨by rfl, ?ht55⟩) (by assumption) ?restt55
      case ht55 => (intro w hSw; (try dsimp only at hSw); go_simp; try with_reducible rfl)
      (try simp only [Act.put, List.setIfInBounds_toArray, List.set_cons_zero, List.set_cons_succ])
      refine Till.take (i := 23) (v := ?vt56) rfl (by kernel_rfl) (by kernel_rfl) (by kernel_rfl) (by kernel_rfl) (fun _ _ _ h => h) (Or.inl ⟨by rfl, ?ht56⟩) (by assumption) ?restt56
      case ht56 => (intro w hSw; (try dsimp only at hSw); go_simp; try with_reducible rfl)
      (try simp only [Act.put, List.setIfInBounds_toArray, List.set_cons_zero, List.set_cons_succ])
      refine Till.take (i := 24) (v := ?vt57) rfl (by kernel_rfl) (by kernel_rfl) (by kernel_rfl) (by kernel_rfl) (fun _ _ _ h => h) (Or.inl ⟨by rfl, ?ht57⟩) (by assumption) ?restt57
      case ht57 => (intro w hSw; (try dsimp only at hSw); go_simp; try with_reducible rfl)
      (try simp only [Act.put, List.setIfInBounds_toArray, List.set_cons_zero, List.set_cons_succ])
      refine Till.take (i := 25) (v := ?vt58) rfl (by kernel_rfl) (by kernel_rfl) (by kernel_rfl) (by kernel_rfl) (fun _ _ _ h => h) (Or.inl ⟨by rfl, ?ht58⟩) (by assumption) ?restt58
      case ht58 => (intro w hSw; (try dsimp only at hSw); go_simp; try with_reducible rfl)
      (try simp only [Act.put, List.setIfInBounds_toArray, List.set_cons_zero, List.set_cons_succ])
      refine Till.take (i := 26) (v := ?vt59) rfl (by kernel_rfl) (by kernel_rfl) (by kernel_rfl) (by kernel_rfl) (fun _ _ _ h => h) (Or.inl ⟨by rfl, ?ht59⟩) (by assumption) ?restt59
      case ht59 => (intro w hSw; (try dsimp only at hSw); go_simp; try with_reducible rfl)
      (try simp only [Act.put, List.setIfInBounds_toArray, List.set_cons_zero, List.set_cons_succ])
      refine Till.take (i := 27) (v := ?vt60) rfl (by kernel_rfl) (by kernel_rfl) (by kernel_rfl) (by kernel_rfl) (fun _ _ _ h => h) (Or.inl ⟨by rfl, ?ht60⟩) (by assumption) ?restt60
      case ht60 => (intro w hSw; (try dsimp only at hSw); go_simp; try with_reducible rfl)
      (try simp only [Act.put, List.setIfInBounds_toArray, List.set_cons_zero, List.set_cons_succ])
      refine Till.take (i := 28) (v := ?vt61) rfl (by kernel_rfl) (by kernel_rfl) (by kernel_rfl) (by kernel_rfl) (fun _ _ _ h => h) (Or.inl ⟨by rfl, ?ht61⟩) (by assumption) ?restt61
      case ht61 => (intro w hSw; (try dsimp only at hSw); go_simp; try with_reducible rfl)
      (try simp only [Act.put, List.setIfInBounds_toArray, List.set_cons_zero, List.set_cons_succ])
      refine Till.take (i := 29) (v := ?vt62) rfl (by kernel_rfl) (by kernel_rfl) (by kernel_rfl) (by kernel_rfl) (fun _ _ _ h => h) (Or.inl ⟨by rfl, ?ht62⟩) (by assumption) ?restt62
      case ht62 => (intro w hSw; (try dsimp only at hSw); go_simp; try with_reducible rfl)
      (try simp only [Act.put, List.setIfInBounds_toArray, List.set_cons_zero, List.set_cons_succ])
      refine Till.ready (rs := [30]) (by kernel_rfl) (by simp) ?_
      refine TillEach.cons rfl (fun K hK => ?_) ?_
      · go_simp
        refine hK.out _ _ ?_ (fun hHeld => ?_)
        · (refine HS.out _ ?_; repeat (first | exact HK0.out | exact hK5 | assumption | refine KeepO.alloc ?_ _ | refine KeepO.drew ?_ | refine KeepO.set ?_ _ | exact HKO.out _ (by assumption)))
        clear hK K
        (try simp only [Act.put, List.setIfInBounds_toArray, List.set_cons_zero, List.set_cons_succ])
        refine Till.ready (rs := [31]) (by kernel_rfl) (by simp) ?_
        refine TillEach.cons rfl (fun K hK => ?_) ?_
        · refine step_append_sl _ (by rfl) (.tmp 18) (.tmp 47) _ (by rfl) w.heap.size 51 i0 _ 3 24 Try.underlying22 hi0 hz0 hz1 hz2 rfl (by omega) (.slice A' L.length c') L.length (L.flatMap Tri.cells) (by rfl) ((HOK.out).alloc _).drew.r.owns (wm.heap.size + 1) (some ⟨wm.heap.size, 0, none⟩) 1 1 [.int .i64 xa, .int .i64 xb, .int .i64 xc] (by rfl) (reads_newN _ _ _ 1 3 rfl rfl).drew (by simp [Value.oneCell']) (by simp only [maxLen]; omega) (by omega) (bw_size (bw_drew (bw_alloc HPK.out.b _))) ?_
          intro A5 c5 w5 hown5 hg5 hat5
          obtain ⟨z0, z1, z2⟩ := OneSoup.facts ((HOK.out).alloc _).drew hg5
          have hB5 : Below w.heap.size w w5 := bw_grow (bw_drew (bw_alloc HPK.out.b _)) hg5 (fun x hx => (HOK.out.r.owns.lt x hx).1)
          have hK5 := KeepO.grow (KeepO.drew (KeepO.alloc HK0.out _)) hg5
          refine hK.out _ _ ?_ (fun hHeld => ?_)
          · (refine HS.out _ ?_; repeat (first | exact HK0.out | exact hK5 | assumption | refine KeepO.alloc ?_ _ | refine KeepO.drew ?_ | refine KeepO.set ?_ _ | exact HKO.out _ (by assumption)))
          clear hK K
          (try simp only [Act.put, List.setIfInBounds_toArray, List.set_cons_zero, List.set_cons_succ])
          refine Till.take (i := 32) (v := ?vt63) rfl (by kernel_rfl) (by kernel_rfl) (by kernel_rfl) (by kernel_rfl) (fun _ _ _ h => h) (Or.inl ⟨by rfl, ?ht63⟩) (by assumption) ?restt63
          case ht63 => (intro w hSw; (try dsimp only at hSw); go_simp; try with_reducible rfl)
          (try simp only [Act.put, List.setIfInBounds_toArray, List.set_cons_zero, List.set_cons_succ])
          refine Till.ready (rs := [33]) (by kernel_rfl) (by simp) ?_
          refine TillEach.last rfl (fun K hK => ?_)
          · go_simp
            refine hK.out _ _ ?_
            clear hK K
            (try simp only [Act.put, List.setIfInBounds_toArray, List.set_cons_zero, List.set_cons_succ])
            refine Till.done (by kernel_rfl) ?_ _
            go_wp2_with fail
            refine ⟨⟨k + 1, A5, c5, by omega, by go_num, Lib.hid ?_, Lib.hid ?_⟩, by simp [intOf]; omega⟩
            · rw [← HLS.out]
              exact OneSoup.push ((HOK.out).alloc _).drew hown5 (by simp) (by simp [Tri.cells]) hg5
            · exact (PS.grown ((HPK.out).alloc _).drew ((HOK.out).alloc _).drew.r (Nat.le_refl _) hg5).far HGO.out.1.symm HGO.out.2.1.symm HGO.out.2.2 _ _
        exact TillEach.nil
      exact TillEach.nil
    · obtain rfl : k = T.length := by omega
      rw [List.take_length] at HOK
      obtain ⟨o0, o1, _, _, _⟩ := HOK.out.cells
      obtain ⟨s0, s1, r0, r1, r2, r3⟩ := HPK.out.cells
      go_wp2_with fail
      obtain ⟨f0, f1, _, _, _⟩ := soup_facts (soup_set HPK.out.r (.int .i64 N) (.slice A' (T.map (renT l)).length c'))
      rw [List.length_map] at f0 f1
      refine bodyPost_ret (v := .agg #[.int .i64 N, .slice A' (T.map (renT l)).length c']) ?_ rfl ⟨A', c', rfl, HOK.out.r.soup_set HPK.out.r _ _, bw_set (bw_set HPK.out.b HPK.out.hr _) HPK.out.hr _⟩
      simp [results, Try.results31, go_sem, f0, f1]
end Go.Proofs.Ytmmjonpkpeanpaa
