/- soup.each as soup.Rename calls it, walked. No condition. -/
import Derived.Test.YtcahbcminonfbaaIRow
namespace Go.Proofs.Ytcahbcminonfbaa
open Go.RowKit

set_option linter.unusedSimpArgs false
set_option linter.unusedVariables false
attribute [local irreducible] Blk LRow IRow World.alloc World.setCell KeepO World.cell? World.frozen?
set_option maxRecDepth 100000 in
set_option maxHeartbeats 8000000 in
theorem eachR_any (F : Tri → Tri) (gl : Nat) (N : Int) (A : Option Addr) (n c : Nat) (T : List Tri) (w : World) (hn : n ≤ 10000) (ht : TrisAt w w.heap.size A n T)
    (hF : ∀ t ∈ T, ∀ W, Below w.heap.size w W → Calls Try.prog 45 #[.agg #[.int .i64 t.a, .int .i64 t.b, .int .i64 t.c], .pointer (some ⟨gl, 0, none⟩)] W fun e w' => e = .returned (.agg #[.int .i64 (F t).a, .int .i64 (F t).b, .int .i64 (F t).c]) ∧ Below W.heap.size W w') :
    Calls Try.prog 44 #[.agg #[.int .i64 N, .slice A n c], .func (.func 45) #[] #[.pointer (some ⟨gl, 0, none⟩)]] w (SPost w N (T.map F)) := by
  have HF := Lib.hid hF
  clear hF
  obtain rfl : n = T.length := ht.len.symm
  have HT := Lib.hid ht
  obtain ⟨i0, hi0, hz0, hz1, hz2⟩ := info_parts ltri_info
  clear ht
  go_enter Try.func44, Try.ntmps44
  go_upto_region 1 with (fail)
  obtain ⟨V, hV⟩ : ∃ V, V = (w.alloc (.cells #[.int .i64 N, .slice A T.length c] 24)).alloc (.cells #[.int .i64 0, .slice none 0 0] 24) := ⟨_, rfl⟩
  have HP : Hid (PS8 w V w.heap.size (w.heap.size + 1) N A T.length c) := by subst hV; exact Lib.hid ⟨(Blk.new _ _ _).alloc _, blk_new1 _ _ _ _, bw_alloc (bw_alloc (Below.refl _ _) _) _, Nat.le_refl _, Nat.le_succ _, by omega⟩
  rw [← hV]
  clear hV
  obtain ⟨gs, hgs⟩ : ∃ gs, gs = w.heap.size := ⟨_, rfl⟩
  obtain ⟨gr, hgr⟩ : ∃ gr, gr = w.heap.size + 1 := ⟨_, rfl⟩
  rw [← hgr] at HP ⊢
  have HP : Hid (PS8 w V gs gr N A T.length c) := by rw [hgs]; exact HP
  simp only [← hgs]
  clear hgs hgr
  have HO : Hid (OneSoup (V.alloc (.cells #[.int .i64 N, .slice none 0 0] 24)) w.heap.size V.heap.size (.int .i64 N) none 0 []) := Lib.hid ⟨Blk.new _ _ _, LRow.nil _ _, HP.out.b.size⟩
  have HP2 : Hid (PS8 w (V.alloc (.cells #[.int .i64 N, .slice none 0 0] 24)) gs gr N A T.length c) := Lib.hid (HP.out.alloc _)
  have HGO : Hid (V.heap.size ≠ gs ∧ V.heap.size ≠ gr ∧ w.heap.size ≤ V.heap.size) := Lib.hid ⟨by have := HP.out.s.lt; omega, by have := HP.out.r.lt; omega, HP.out.b.size⟩
  obtain ⟨s0, s1, r0, r1, r2, r3⟩ := HP.out.cells
  obtain ⟨p0, p1, _, _, _, _⟩ := HP2.out.cells
  go_wp2_with fail
  generalize V.alloc (.cells #[.int .i64 N, .slice none 0 0] 24) = V2 at *
  generalize V.heap.size = go at *
  clear HP s0 s1 r0 r1 r2 r3 p0 p1
  go_loopw [14] (fun iv wr => ∃ (k : Nat) (A' : Option Addr) (c' : Nat), k ≤ T.length ∧ iv = .int .i64 k ∧ Hid (OneSoup wr w.heap.size go (.int .i64 N) A' c' ((T.take k).map F)) ∧ Hid (PS8 w wr gs gr N A T.length c)) (fun iv _ => T.length - (intOf iv).toNat)
  case atStart => exact ⟨0, none, 0, by omega, rfl, HO, HP2⟩
  case round =>
    obtain ⟨k, A', c', hk, rfl, HOK, HPK⟩ := hrel
    obtain ⟨wm, hwm⟩ : ∃ wm : World, wm = wr := ⟨_, rfl⟩
    rw [← hwm] at HOK HPK ⊢
    clear hwm HO HP2
    by_cases hlt : k < T.length
    · obtain ⟨ad, t, e2, htk, _, hadb, hc3⟩ := (HT.out.below HPK.out.b).at_ hlt
      subst e2
      have hk0 : (0 : Int) ≤ (k : Int) := by omega
      have hk1 : (k : Int) < (T.length : Int) := by omega
      obtain ⟨L, hL⟩ : ∃ L, L = (T.take k).map F := ⟨_, rfl⟩
      rw [← hL] at HOK
      have hLl : L.length ≤ 10000 := by rw [hL]; simp; omega
      have HLS : Hid (L ++ [F t] = (T.take (k + 1)).map F) := Lib.hid (by rw [hL, take_snoc_T T k htk]; simp)
      have HTM := Lib.hid (List.mem_of_getElem? htk)
      obtain ⟨d0, d1, d2, d3, d4, d5⟩ := hc3
      clear hL htk
      go_upto_region 5 with (fail)
      obtain ⟨w3, hw3⟩ : ∃ w3, w3 = wm.alloc (.cells #[.int .i64 t.a, .int .i64 t.b, .int .i64 t.c] 78) := ⟨_, rfl⟩
      have HTB : Hid (Blk w3 wm.heap.size 78 #[.int .i64 t.a, .int .i64 t.b, .int .i64 t.c]) := by subst hw3; exact Lib.hid (Blk.new _ _ _)
      have HO3 : Hid (OneSoup w3 w.heap.size go (.int .i64 N) A' c' L) := by subst hw3; exact Lib.hid (HOK.out.alloc _)
      have HP3 : Hid (PS8 w w3 gs gr N (some ad) T.length c) := by subst hw3; exact Lib.hid (HPK.out.alloc _)
      have HTR : Hid (∀ x, (Value.slice A' L.length c').ownBlock = some x → x ≠ wm.heap.size) := Lib.hid fun x hx => Nat.ne_of_lt (HOK.out.r.owns.lt x hx).2
      rw [← hw3]
      generalize wm.heap.size = tb at *
      clear hw3 HOK HPK d0 d1 d2 d3 d4 d5
      obtain ⟨row, hrow⟩ : ∃ row, row = (Value.slice A' L.length c').ownBlock := ⟨_, rfl⟩
      have HK0 := Lib.hid (KeepO.refl w3.heap.size row w3)
      obtain ⟨o0, o1, o2, o3, ol⟩ := HO3.out.cells
      have HS : Hid (∀ w', KeepO w3.heap.size row w3 w' → w'.cell? ⟨go, 1, none⟩ = some (.slice A' L.length c') ∧ w'.cell? ⟨tb, 0, none⟩ = some (.int .i64 t.a) ∧ w'.cell? ⟨tb, 1, none⟩ = some (.int .i64 t.b) ∧ w'.cell? ⟨tb, 2, none⟩ = some (.int .i64 t.c) ∧ KeepO w3.heap.size row w3 w') := Lib.hid fun w' h => by
        obtain ⟨x0, x1, x2⟩ := tri_cells HTB.out
        have htl := HTB.out.lt
        have htr : some tb ≠ row := fun e => by rw [hrow] at e; exact HTR.out _ e.symm rfl
        exact ⟨(h.get (p := ⟨go, 1, none⟩) ol (Nat.ne_of_lt ol) (fun e => by rw [hrow] at e; exact soup_tri_ne HO3.out.r HO3.out.t go e.symm rfl)).trans o1, (h.get (p := ⟨tb, 0, none⟩) htl (Nat.ne_of_lt htl) htr).trans x0, (h.get (p := ⟨tb, 1, none⟩) htl (Nat.ne_of_lt htl) htr).trans x1, (h.get (p := ⟨tb, 2, none⟩) htl (Nat.ne_of_lt htl) htr).trans x2, h⟩
      have HKO : Hid (∀ w', (w'.cell? ⟨go, 1, none⟩ = some (.slice A' L.length c') ∧ w'.cell? ⟨tb, 0, none⟩ = some (.int .i64 t.a) ∧ w'.cell? ⟨tb, 1, none⟩ = some (.int .i64 t.b) ∧ w'.cell? ⟨tb, 2, none⟩ = some (.int .i64 t.c) ∧ KeepO w3.heap.size row w3 w') → KeepO w3.heap.size row w3 w') := Lib.hid fun w' h => h.2.2.2.2
      have HTU : Hid (∀ W, Below w.heap.size w W → Calls Try.prog 45 #[.agg #[.int .i64 t.a, .int .i64 t.b, .int .i64 t.c], .pointer (some ⟨gl, 0, none⟩)] W fun e w' => e = .returned (.agg #[.int .i64 (F t).a, .int .i64 (F t).b, .int .i64 (F t).c]) ∧ Below W.heap.size W w') := Lib.hid (HF.out t HTM.out)
      generalize F t = tt at HTU HLS
      subst hrow
      refine wp_region_till (S := fun w' => w'.cell? ⟨go, 1, none⟩ = some (.slice A' L.length c') ∧ w'.cell? ⟨tb, 0, none⟩ = some (.int .i64 t.a) ∧ w'.cell? ⟨tb, 1, none⟩ = some (.int .i64 t.b) ∧ w'.cell? ⟨tb, 2, none⟩ = some (.int .i64 t.c) ∧ KeepO w3.heap.size (Value.slice A' L.length c').ownBlock w3 w') 8 (by kernel_rfl) ?_ (fun hHeld => ?_)
      · (refine HS.out _ ?_; repeat (first | exact HK0.out | exact hK5 | assumption | exact KeepO.call (KeepO.drew HK0.out) hb9 | refine KeepO.alloc ?_ _ | refine KeepO.drew ?_ | refine KeepO.set ?_ _ | exact HKO.out _ (by assumption)))
      refine Till.take (i := 0) (v := ?vt6) rfl (by kernel_rfl) (by kernel_rfl) (by kernel_rfl) (by kernel_rfl) (fun _ _ _ h => h) (Or.inl ⟨by rfl, ?ht6⟩) (by assumption) ?restt6
      case ht6 => (intro w hSw; (try dsimp only at hSw); go_simp; try with_reducible rfl)
      (try simp only [Act.put, List.setIfInBounds_toArray, List.set_cons_zero, List.set_cons_succ])
      refine Till.take (i := 1) (v := ?vt7) rfl (by kernel_rfl) (by kernel_rfl) (by kernel_rfl) (by kernel_rfl) (fun _ _ _ h => h) (Or.inl ⟨by rfl, ?ht7⟩) (by assumption) ?restt7
      case ht7 => (intro w hSw; (try dsimp only at hSw); go_simp; try with_reducible rfl)
      (try simp only [Act.put, List.setIfInBounds_toArray, List.set_cons_zero, List.set_cons_succ])
      refine Till.take (i := 2) (v := ?vt8) rfl (by kernel_rfl) (by kernel_rfl) (by kernel_rfl) (by kernel_rfl) (fun _ _ _ h => h) (Or.inl ⟨by rfl, ?ht8⟩) (by assumption) ?restt8
      case ht8 => (intro w hSw; (try dsimp only at hSw); go_simp; try with_reducible rfl)
      (try simp only [Act.put, List.setIfInBounds_toArray, List.set_cons_zero, List.set_cons_succ])
      refine Till.take (i := 3) (v := ?vt9) rfl (by kernel_rfl) (by kernel_rfl) (by kernel_rfl) (by kernel_rfl) (fun _ _ _ h => h) (Or.inl ⟨by rfl, ?ht9⟩) (by assumption) ?restt9
      case ht9 => (intro w hSw; (try dsimp only at hSw); go_simp; try with_reducible rfl)
      (try simp only [Act.put, List.setIfInBounds_toArray, List.set_cons_zero, List.set_cons_succ])
      refine Till.ready (rs := [4]) (by kernel_rfl) (by simp) ?_
      refine TillEach.cons rfl (fun K hK => ?_) ?_
      · go_simp
        go_wp2_with (go_at_call 45; refine (HTU.out _ (bw_drew HP3.out.b)).mono ?_; rintro e w9 ⟨rfl, hb9⟩)
        refine hK.out _ _ ?_ (fun hHeld => ?_)
        · (refine HS.out _ ?_; repeat (first | exact HK0.out | exact hK5 | assumption | exact KeepO.call (KeepO.drew HK0.out) hb9 | refine KeepO.alloc ?_ _ | refine KeepO.drew ?_ | refine KeepO.set ?_ _ | exact HKO.out _ (by assumption)))
        clear hK K
        (try simp only [Act.put, List.setIfInBounds_toArray, List.set_cons_zero, List.set_cons_succ])
        refine Till.ready (rs := [5]) (by kernel_rfl) (by simp) ?_
        refine TillEach.cons rfl (fun K hK => ?_) ?_
        · go_simp
          refine hK.out _ _ ?_ (fun hHeld => ?_)
          · (refine HS.out _ ?_; repeat (first | exact HK0.out | exact hK5 | assumption | exact KeepO.call (KeepO.drew HK0.out) hb9 | refine KeepO.alloc ?_ _ | refine KeepO.drew ?_ | refine KeepO.set ?_ _ | exact HKO.out _ (by assumption)))
          clear hK K
          (try simp only [Act.put, List.setIfInBounds_toArray, List.set_cons_zero, List.set_cons_succ])
          refine Till.ready (rs := [6]) (by kernel_rfl) (by simp) ?_
          refine TillEach.cons rfl (fun K hK => ?_) ?_
          · refine step_append_sl _ (by rfl) (.tmp 19) (.tmp 23) _ (by rfl) w.heap.size 78 i0 _ 3 24 Try.underlying22 hi0 hz0 hz1 hz2 rfl (by omega) (.slice A' L.length c') L.length (L.flatMap Tri.cells) (by rfl) (((HO3.out).drew.on hb9).alloc _).r.owns (w9.heap.size + 1) (some ⟨w9.heap.size, 0, none⟩) 1 1 [.int .i64 tt.a, .int .i64 tt.b, .int .i64 tt.c] (by rfl) (reads_newN _ _ _ 1 3 rfl rfl) (by simp [Value.oneCell']) (by simp only [maxLen]; omega) (by omega) (bw_size (bw_alloc (bw_call (bw_drew HP3.out.b) hb9) _)) ?_
            intro A5 c5 w5 hown5 hg5 hat5
            obtain ⟨z0, z1, z2⟩ := OneSoup.facts (((HO3.out).drew.on hb9).alloc _) hg5
            have hB5 : Below w.heap.size w w5 := bw_grow (bw_alloc (bw_call (bw_drew HP3.out.b) hb9) _) hg5 (fun x hx => (HO3.out.r.owns.lt x hx).1)
            have hK5 := KeepO.grow (KeepO.alloc (KeepO.call (KeepO.drew HK0.out) hb9) _) hg5
            refine hK.out _ _ ?_ (fun hHeld => ?_)
            · (refine HS.out _ ?_; repeat (first | exact HK0.out | exact hK5 | assumption | exact KeepO.call (KeepO.drew HK0.out) hb9 | refine KeepO.alloc ?_ _ | refine KeepO.drew ?_ | refine KeepO.set ?_ _ | exact HKO.out _ (by assumption)))
            clear hK K
            (try simp only [Act.put, List.setIfInBounds_toArray, List.set_cons_zero, List.set_cons_succ])
            refine Till.take (i := 7) (v := ?vt10) rfl (by kernel_rfl) (by kernel_rfl) (by kernel_rfl) (by kernel_rfl) (fun _ _ _ h => h) (Or.inl ⟨by rfl, ?ht10⟩) (by assumption) ?restt10
            case ht10 => (intro w hSw; (try dsimp only at hSw); go_simp; try with_reducible rfl)
            (try simp only [Act.put, List.setIfInBounds_toArray, List.set_cons_zero, List.set_cons_succ])
            refine Till.ready (rs := [8]) (by kernel_rfl) (by simp) ?_
            refine TillEach.last rfl (fun K hK => ?_)
            · go_simp
              refine hK.out _ _ ?_
              clear hK K
              (try simp only [Act.put, List.setIfInBounds_toArray, List.set_cons_zero, List.set_cons_succ])
              refine Till.done (by kernel_rfl) ?_ _
              go_wp2_with fail
              refine ⟨⟨k + 1, A5, c5, by omega, by go_num, Lib.hid ?_, Lib.hid ?_⟩, by simp [intOf]; omega⟩
              · rw [← HLS.out]
                exact OneSoup.push (((HO3.out).drew.on hb9).alloc _) hown5 (by simp) (by simp [Tri.cells]) hg5
              · exact (PS8.grown (((HP3.out).drew.on hb9).alloc _) (((HO3.out).drew.on hb9).alloc _).r (Nat.le_refl _) hg5).far HGO.out.1.symm HGO.out.2.1.symm HGO.out.2.2 _ _
          exact TillEach.nil
        exact TillEach.nil
      exact TillEach.nil
    · obtain rfl : k = T.length := by omega
      rw [List.take_length] at HOK
      obtain ⟨o0, o1, _, _, _⟩ := HOK.out.cells
      obtain ⟨s0, s1, r0, r1, r2, r3⟩ := HPK.out.cells
      go_wp2_with fail
      obtain ⟨f0, f1, _, _, _⟩ := soup_facts (soup_set HPK.out.r (.int .i64 N) (.slice A' (T.map F).length c'))
      rw [List.length_map] at f0 f1
      refine bodyPost_ret (v := .agg #[.int .i64 N, .slice A' (T.map F).length c']) ?_ rfl ⟨A', c', rfl, HOK.out.r.soup_set HPK.out.r _ _, bw_set (bw_set HPK.out.b HPK.out.hr _) HPK.out.hr _⟩
      simp [results, Try.results44, go_sem, f0, f1]
end Go.Proofs.Ytcahbcminonfbaa
