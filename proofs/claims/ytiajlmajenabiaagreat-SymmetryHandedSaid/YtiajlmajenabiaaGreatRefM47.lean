/- gypsumref47.Mirror, walked. No condition but sizes. -/
import Derived.Test.YtiajlmajenabiaaGreatKd47
set_option maxRecDepth 100000
set_option maxHeartbeats 16000000
set_option linter.all false
namespace Go.Proofs.YtiajlmajenabiaaGreat
open Go.RowKit
attribute [local irreducible] Blk LRow IRow World.alloc World.setCell KeepO World.cell? World.frozen?
theorem refMirror47_any (N : Int) (A : Option Addr) (n c : Nat) (T : List Tri) (w : World) (hn : n ≤ 10000) (ht : TrisAt w w.heap.size A n T) :
  Calls Tryz.prog 18 #[.agg #[.int .i64 N, .slice A n c]] w (SPost w N (T.map (mirT))) := by
 obtain rfl : n = T.length := ht.len.symm
 have HT := Lib.hid ht
 obtain ⟨i0, hi0, hz0, hz1, hz2⟩ := info_parts ltri_info
 clear ht
 go_enter Tryz.func18, Tryz.ntmps18
 go_upto_region 1 with (fail)
 obtain ⟨V, hV⟩ : ∃ V, V = (w.alloc (.cells #[.int .i64 N, .slice A T.length c] 24)).alloc (.cells #[.int .i64 0, .slice none 0 0] 24) := ⟨_, rfl⟩
 have HP : Hid (PS8 w V w.heap.size (w.heap.size + 1) N A T.length c) := by subst hV; exact Lib.hid ⟨(Blk.new _ _ _).alloc _, blk_new1 _ _ _ _, bw_alloc (bw_alloc (Below.refl _ _) _) _, Nat.le_refl _, Nat.le_succ _, by omega⟩
 rw [← hV]
 clear hV
 obtain ⟨gs, hgs⟩ : ∃ gs, gs = w.heap.size := ⟨_, rfl⟩
 obtain ⟨gr, hgr⟩ : ∃ gr, gr = w.heap.size + 1 := ⟨_, rfl⟩
 rw [← hgr] at HP ⊢
 have HP : Hid (PS8 w V gs gr N A T.length c) := by rw [hgs]; exact HP
 simp only [← hgs]
 clear hgs hgr
 have HO : Hid (OneSoup (V.alloc (.cells #[.int .i64 N, .slice none 0 0] 24)) w.heap.size V.heap.size (.int .i64 N) none 0 []) := Lib.hid ⟨Blk.new _ _ _, LRow.nil _ _, HP.out.b.size⟩
 have HP2 : Hid (PS8 w (V.alloc (.cells #[.int .i64 N, .slice none 0 0] 24)) gs gr N A T.length c) := Lib.hid (HP.out.alloc _)
 have HGO : Hid (V.heap.size ≠ gs ∧ V.heap.size ≠ gr ∧ w.heap.size ≤ V.heap.size) := Lib.hid ⟨by have := HP.out.s.lt; omega, by have := HP.out.r.lt; omega, HP.out.b.size⟩
 obtain ⟨s0, s1, r0, r1, r2, r3⟩ := HP.out.cells
 obtain ⟨p0, p1, _, _, _, _⟩ := HP2.out.cells
 go_wp2_with fail
 generalize V.alloc (.cells #[.int .i64 N, .slice none 0 0] 24) = V2 at *
 generalize V.heap.size = go at *
 clear HP s0 s1 r0 r1 r2 r3 p0 p1
 go_loopw [4] (fun iv wr => ∃ (k : Nat) (A' : Option Addr) (c' : Nat), k ≤ T.length ∧ iv = .int .i64 k ∧ Hid (OneSoup wr w.heap.size go (.int .i64 N) A' c' ((T.take k).map (mirT))) ∧ Hid (PS8 w wr gs gr N A T.length c)) (fun iv _ => T.length - (intOf iv).toNat)
 case atStart => exact ⟨0, none, 0, by omega, rfl, HO, HP2⟩
 case round =>
  obtain ⟨k, A', c', hk, rfl, HOK, HPK⟩ := hrel
  obtain ⟨wm, hwm⟩ : ∃ wm : World, wm = wr := ⟨_, rfl⟩
  rw [← hwm] at HOK HPK ⊢
  clear hwm HO HP2
  by_cases hlt : k < T.length
  · obtain ⟨ad, t, e2, htk, _, hadb, hc3⟩ := (HT.out.below HPK.out.b).at_ hlt
    subst e2
    have hk0 : (0 : Int) ≤ (k : Int) := by omega
    have hk1 : (k : Int) < (T.length : Int) := by omega
    obtain ⟨L, hL⟩ : ∃ L, L = (T.take k).map (mirT) := ⟨_, rfl⟩
    rw [← hL] at HOK
    have hLl : L.length ≤ 10000 := by rw [hL]; simp; omega
    have HLS : Hid (L ++ [mirT t] = (T.take (k + 1)).map (mirT)) := Lib.hid (by rw [hL, take_snoc_T T k htk]; simp)
    have HTM := Lib.hid (List.mem_of_getElem? htk)
    obtain ⟨d0, d1, d2, d3, d4, d5⟩ := hc3
    clear hL htk
    have hptb : (ad.add (k * 3)).block < w.heap.size := by rw [block_of_add]; exact hadb
    obtain ⟨s0, s1, r0, r1, r2, r3⟩ := HPK.out.cells
    obtain ⟨row, hrow⟩ : ∃ row, row = (Value.slice A' L.length c').ownBlock := ⟨_, rfl⟩
    have HK0 := Lib.hid (KeepO.refl wm.heap.size row wm)
    obtain ⟨o0, o1, o2, o3, ol⟩ := HOK.out.cells
    have HS : Hid (∀ w', KeepO wm.heap.size row wm w' → w'.cell? ⟨gs, 1, none⟩ = some (.slice (some ad) T.length c) ∧ w'.cell? ⟨go, 1, none⟩ = some (.slice A' L.length c') ∧ w'.cell? (ad.add (k * 3)) = some (.int .i64 t.a) ∧ w'.cell? ((ad.add (k * 3)).add 1) = some (.int .i64 t.b) ∧ w'.cell? ((ad.add (k * 3)).add 2) = some (.int .i64 t.c) ∧ w'.cell? ⟨(ad.add (k * 3)).block, (ad.add (k * 3)).off + 1, none⟩ = some (.int .i64 t.b) ∧ w'.cell? ⟨(ad.add (k * 3)).block, (ad.add (k * 3)).off + 2, none⟩ = some (.int .i64 t.c) ∧ KeepO wm.heap.size row wm w') := Lib.hid fun w' h => by
     have hsz := HPK.out.b.size
     have low : ∀ p : Addr, p.block < w.heap.size → w'.cell? p = wm.cell? p := fun p hp => h.get (by omega) (by omega) (fun e => by rw [hrow] at e; have := (HOK.out.r.owns.lt _ e.symm).1; omega)
     have hgs := HPK.out.s.lt
     exact ⟨(h.get (p := ⟨gs, 1, none⟩) hgs (Nat.ne_of_lt hgs) (fun e => by rw [hrow] at e; exact soup_tri_ne HOK.out.r HPK.out.s gs e.symm rfl)).trans s1, (h.get (p := ⟨go, 1, none⟩) ol (Nat.ne_of_lt ol) (fun e => by rw [hrow] at e; exact soup_tri_ne HOK.out.r HOK.out.t go e.symm rfl)).trans o1,
      (low (ad.add (k * 3)) hptb).trans d0, (low ((ad.add (k * 3)).add 1) (by rw [block_of_add]; exact hptb)).trans d1, (low ((ad.add (k * 3)).add 2) (by rw [block_of_add]; exact hptb)).trans d2, (low ⟨(ad.add (k * 3)).block, _, none⟩ hptb).trans d4, (low ⟨(ad.add (k * 3)).block, _, none⟩ hptb).trans d5, h⟩
    have HKO : Hid (∀ w', (w'.cell? ⟨gs, 1, none⟩ = some (.slice (some ad) T.length c) ∧ w'.cell? ⟨go, 1, none⟩ = some (.slice A' L.length c') ∧ w'.cell? (ad.add (k * 3)) = some (.int .i64 t.a) ∧ w'.cell? ((ad.add (k * 3)).add 1) = some (.int .i64 t.b) ∧ w'.cell? ((ad.add (k * 3)).add 2) = some (.int .i64 t.c) ∧ w'.cell? ⟨(ad.add (k * 3)).block, (ad.add (k * 3)).off + 1, none⟩ = some (.int .i64 t.b) ∧ w'.cell? ⟨(ad.add (k * 3)).block, (ad.add (k * 3)).off + 2, none⟩ = some (.int .i64 t.c) ∧ KeepO wm.heap.size row wm w') → KeepO wm.heap.size row wm w') := Lib.hid fun w' h => by
     obtain ⟨_, _, _, _, _, _, _, h⟩ := h
     exact h
    subst hrow
    go_wp2_with fail
    refine wp_region_till (S := fun w' => w'.cell? ⟨gs, 1, none⟩ = some (.slice (some ad) T.length c) ∧ w'.cell? ⟨go, 1, none⟩ = some (.slice A' L.length c') ∧ w'.cell? (ad.add (k * 3)) = some (.int .i64 t.a) ∧ w'.cell? ((ad.add (k * 3)).add 1) = some (.int .i64 t.b) ∧ w'.cell? ((ad.add (k * 3)).add 2) = some (.int .i64 t.c) ∧ w'.cell? ⟨(ad.add (k * 3)).block, (ad.add (k * 3)).off + 1, none⟩ = some (.int .i64 t.b) ∧ w'.cell? ⟨(ad.add (k * 3)).block, (ad.add (k * 3)).off + 2, none⟩ = some (.int .i64 t.c) ∧ KeepO wm.heap.size (Value.slice A' L.length c').ownBlock wm w') 24 (by kernel_rfl) ?_ (fun hHeld => ?_)
    · (refine HS.out _ ?_; repeat (first | exact HK0.out | exact hK5 | assumption | refine KeepO.alloc ?_ _ | refine KeepO.drew ?_ | refine KeepO.set ?_ _ | exact HKO.out _ (by assumption)))
    refine tKk 0 ?_; (try simp only [zQ])
    refine tKk 1 ?_; (try simp only [zQ])
    refine tKk 2 ?_; (try simp only [zQ])
    refine tKk 3 ?_; (try simp only [zQ])
    refine tKk 4 ?_; (try simp only [zQ])
    refine tKk 5 ?_; (try simp only [zQ])
    refine tKk 6 ?_; (try simp only [zQ])
    refine tKk 7 ?_; (try simp only [zQ])
    refine tKk 8 ?_; (try simp only [zQ])
    refine tKk 9 ?_; (try simp only [zQ])
    refine tKk 10 ?_; (try simp only [zQ])
    refine tKk 11 ?_; (try simp only [zQ])
    refine tKk 12 ?_; (try simp only [zQ])
    refine tKk 13 ?_; (try simp only [zQ])
    refine tKk 14 ?_; (try simp only [zQ])
    refine tKk 15 ?_; (try simp only [zQ])
    refine tKk 16 ?_; (try simp only [zQ])
    refine tKk 17 ?_; (try simp only [zQ])
    refine tKk 18 ?_; (try simp only [zQ])
    refine tKk 19 ?_; (try simp only [zQ])
    refine tKk 20 ?_; (try simp only [zQ])
    refine Till.ready (rs := [21]) (by kernel_rfl) (by simp) ?_
    refine TillEach.cons rfl (fun K hK => ?_) ?_
    · go_simp
      refine hK.out _ _ ?_ (fun hHeld => ?_)
      · (refine HS.out _ ?_; repeat (first | exact HK0.out | exact hK5 | assumption | refine KeepO.alloc ?_ _ | refine KeepO.drew ?_ | refine KeepO.set ?_ _ | exact HKO.out _ (by assumption)))
      clear hK K
      (try simp only [zQ])
      refine Till.ready (rs := [22]) (by kernel_rfl) (by simp) ?_
      refine TillEach.cons rfl (fun K hK => ?_) ?_
      · refine step_append_sl _ (by rfl) (.tmp 16) (.tmp 36) _ (by rfl) w.heap.size 56 i0 _ 3 24 Tryz.underlying22 hi0 hz0 hz1 hz2 rfl (by omega) (.slice A' L.length c') L.length (L.flatMap Tri.cells) (by rfl) ((HOK.out).alloc _).drew.r.owns (wm.heap.size + 1) (some ⟨wm.heap.size, 0, none⟩) 1 1 [.int .i64 t.a, .int .i64 t.c, .int .i64 t.b] (by rfl) (reads_newN _ _ _ 1 3 rfl rfl).drew (by simp [Value.oneCell']) (by simp only [maxLen]; omega) (by omega) (bw_size (bw_drew (bw_alloc HPK.out.b _))) ?_
        intro A5 c5 w5 hown5 hg5 hat5
        obtain ⟨z0, z1, z2⟩ := OneSoup.facts ((HOK.out).alloc _).drew hg5
        have hB5 : Below w.heap.size w w5 := bw_grow (bw_drew (bw_alloc HPK.out.b _)) hg5 (fun x hx => (HOK.out.r.owns.lt x hx).1)
        have hK5 := KeepO.grow (KeepO.drew (KeepO.alloc HK0.out _)) hg5
        refine hK.out _ _ ?_ (fun hHeld => ?_)
        · (refine HS.out _ ?_; repeat (first | exact HK0.out | exact hK5 | assumption | refine KeepO.alloc ?_ _ | refine KeepO.drew ?_ | refine KeepO.set ?_ _ | exact HKO.out _ (by assumption)))
        clear hK K
        (try simp only [zQ])
        refine tKk 23 ?_; (try simp only [zQ])
        refine Till.ready (rs := [24]) (by kernel_rfl) (by simp) ?_
        refine TillEach.last rfl (fun K hK => ?_)
        · go_simp
          refine hK.out _ _ ?_
          clear hK K
          (try simp only [zQ])
          refine Till.done (by kernel_rfl) ?_ _
          go_wp2_with fail
          refine ⟨⟨k + 1, A5, c5, by omega, by go_num, Lib.hid ?_, Lib.hid ?_⟩, by simp [intOf]; omega⟩
          · rw [← HLS.out]
            exact OneSoup.push ((HOK.out).alloc _).drew hown5 (by simp) (by simp [Tri.cells, mirT]) hg5
          · exact (PS8.grown ((HPK.out).alloc _).drew ((HOK.out).alloc _).drew.r (Nat.le_refl _) hg5).far HGO.out.1.symm HGO.out.2.1.symm HGO.out.2.2 _ _
      exact TillEach.nil
    exact TillEach.nil
  · obtain rfl : k = T.length := by omega
    rw [List.take_length] at HOK
    obtain ⟨o0, o1, _, _, _⟩ := HOK.out.cells
    obtain ⟨s0, s1, r0, r1, r2, r3⟩ := HPK.out.cells
    go_wp2_with fail
    obtain ⟨f0, f1, _, _, _⟩ := soup_facts (soup_set HPK.out.r (.int .i64 N) (.slice A' (T.map (mirT)).length c'))
    rw [List.length_map] at f0 f1
    refine bodyPost_ret (v := .agg #[.int .i64 N, .slice A' (T.map (mirT)).length c']) ?_ rfl ⟨A', c', rfl, HOK.out.r.soup_set HPK.out.r _ _, bw_set (bw_set HPK.out.b HPK.out.hr _) HPK.out.hr _⟩
    simp [results, Tryz.results18, go_sem, f0, f1]
end Go.Proofs.YtiajlmajenabiaaGreat
