/- The document's Pick of layer 8, walked. No condition. -/
import Derived.Test.YtmmjonpkpeanpaaRefB8
namespace Go.Proofs.Ytmmjonpkpeanpaa
open Go.RowKit

set_option linter.unusedSimpArgs false
set_option linter.unusedVariables false
attribute [local irreducible] Blk LRow IRow World.alloc World.setCell KeepO World.cell? World.frozen?
set_option maxRecDepth 100000 in
set_option maxHeartbeats 8000000 in
theorem refPick_any (N : Int) (A : Option Addr) (n c : Nat) (T : List Tri) (Al : Option Addr) (m cl : Nat) (l : List Int) (w : World) (hn : n ≤ 1000) (hm : m ≤ 1000) (ht : TrisAt w w.heap.size A n T) (hl : Reads w w.heap.size 1 Al m (ZL l)) :
    Calls Try.prog 14 #[.agg #[.int .i64 N, .slice A n c], .slice Al m cl] w (PickPost w (pickL N T l)) := by
  obtain rfl : n = T.length := ht.len.symm
  obtain rfl : m = l.length := by have := hl.1; simp [ZL] at this; exact this.symm
  have HT := Lib.hid ht
  have HL := Lib.hid hl
  obtain ⟨i0, hi0, hz0, hz1, hz2⟩ := info_parts ltri_info
  clear ht hl
  go_enter Try.func14, Try.ntmps14
  go_wp2_with fail
  obtain ⟨V, hV⟩ : ∃ V, V = (w.alloc (.cells #[.int .i64 N, .slice A T.length c] 24)).alloc (.cells #[.int .i64 0, .slice none 0 0] 24) := ⟨_, rfl⟩
  have HP : Hid (PS w V w.heap.size (w.heap.size + 1) N A T.length c) := by subst hV; exact Lib.hid ⟨(Blk.new _ _ _).alloc _, blk_new1 _ _ _ _, bw_alloc (bw_alloc (Below.refl _ _) _) _, Nat.le_refl _, Nat.le_succ _, by omega⟩
  rw [← hV]
  clear hV
  obtain ⟨gs, hgs⟩ : ∃ gs, gs = w.heap.size := ⟨_, rfl⟩
  obtain ⟨gr, hgr⟩ : ∃ gr, gr = w.heap.size + 1 := ⟨_, rfl⟩
  rw [← hgr] at HP ⊢
  have HP : Hid (PS w V gs gr N A T.length c) := by rw [hgs]; exact HP
  simp only [← hgs]
  clear hgs hgr
  refine (refFits_any N A T.length c T V (by omega) ((HT.out.below HP.out.b).more HP.out.b.size)).mono ?_
  rintro e w1 ⟨rfl, hb⟩
  have HP1 := Lib.hid (HP.out.on hb)
  clear hb HP
  cases hf : fitL N T with
  | false =>
    have HQ : Hid (pickL N T l = (0, [], 1)) := Lib.hid (by unfold pickL; rw [if_pos hf])
    obtain ⟨s0, s1, r0, r1, r2, r3⟩ := HP1.out.cells
    go_wp2_with fail
    obtain ⟨f0, f1, _, _, _⟩ := soup_facts (soup_set HP1.out.r (.int .i64 0) (.slice none 0 0))
    refine bodyPost_ret (v := .tuple #[.agg #[.int .i64 0, .slice none 0 0], .int .i64 1]) ?_ rfl (pick_post HQ.out (LRow.nil _ _) (bw_set (bw_set HP1.out.b HP1.out.hr _) HP1.out.hr _))
    simp [results, Try.results14, go_sem, f0, f1]
  | true =>
    obtain ⟨s0, s1, r0, r1, r2, r3⟩ := HP1.out.cells
    go_wp2_with fail
    obtain ⟨V, hV⟩ : ∃ V, V = w1.alloc (.cells #[.int .i64 N, .slice none 0 0] 24) := ⟨_, rfl⟩
    have HO : Hid (OneSoup V w.heap.size w1.heap.size (.int .i64 N) none 0 []) := by subst hV; exact Lib.hid ⟨Blk.new _ _ _, LRow.nil _ _, HP1.out.b.size⟩
    have HP2 : Hid (PS w V gs gr N A T.length c) := by subst hV; exact Lib.hid (HP1.out.alloc _)
    rw [← hV]
    have HGO : Hid (w1.heap.size ≠ gs ∧ w1.heap.size ≠ gr ∧ w.heap.size ≤ w1.heap.size) := Lib.hid ⟨by have := HP1.out.s.lt; omega, by have := HP1.out.r.lt; omega, HP1.out.b.size⟩
    generalize w1.heap.size = go at *
    clear hV HP1 s0 s1 r0 r1 r2 r3
    go_loopw [7] (fun iv wr => ∃ (k : Nat) (A' : Option Addr) (c' : Nat), k ≤ l.length ∧ iv = .int .i64 k ∧ Hid ((l.take k).any (outOf (3 * T.length)) = false) ∧ Hid (OneSoup wr w.heap.size go (.int .i64 N) A' c' ((l.take k).map (pickT T))) ∧ Hid (PS w wr gs gr N A T.length c)) (fun iv _ => l.length - (intOf iv).toNat)
    case atStart => exact ⟨0, none, 0, by omega, rfl, Lib.hid (by simp), HO, HP2⟩
    case round =>
      obtain ⟨k, A', c', hk, rfl, HK, HOK, HPK⟩ := hrel
      by_cases hlt : k < l.length
      · obtain ⟨ad, u, rfl, had, hu, hc⟩ := ((HL.out.below HPK.out.b).more HPK.out.b.size).at_ hlt
        obtain ⟨x, hx, rfl⟩ := zl_at hu
        have HLX := Lib.hid hx
        clear hu hx
        obtain ⟨s0, s1, r0, r1, r2, r3⟩ := HPK.out.cells
        have hk0 : (0 : Int) ≤ (k : Int) := by omega
        have hk1 : (k : Int) < (l.length : Int) := by omega
        by_cases hbad : outOf (3 * T.length) x = true
        · have HQ : Hid (pickL N T l = (0, [], 2)) := Lib.hid (by
            unfold pickL
            rw [if_neg (by rw [hf]; simp), if_pos]
            exact List.any_eq_true.2 ⟨x, List.mem_of_getElem? HLX.out, hbad⟩)
          obtain ⟨f0, f1, _, _, _⟩ := soup_facts (soup_set HPK.out.r (.int .i64 0) (.slice none 0 0))
          have hbad2 : x < 0 ∨ 3 * (T.length : Int) ≤ x := by simpa [outOf] using hbad
          by_cases hx0 : x < 0
          · go_wp2_with fail
            refine bodyPost_ret (v := .tuple #[.agg #[.int .i64 0, .slice none 0 0], .int .i64 2]) ?_ rfl (pick_post HQ.out (LRow.nil _ _) (bw_set (bw_set HPK.out.b HPK.out.hr _) HPK.out.hr _))
            simp [results, Try.results14, go_sem, f0, f1]
          · have hx1 : 3 * (T.length : Int) ≤ x := by omega
            go_wp2_with fail
            refine bodyPost_ret (v := .tuple #[.agg #[.int .i64 0, .slice none 0 0], .int .i64 2]) ?_ rfl (pick_post HQ.out (LRow.nil _ _) (bw_set (bw_set HPK.out.b HPK.out.hr _) HPK.out.hr _))
            simp [results, Try.results14, go_sem, f0, f1]
        · have hok : outOf (3 * T.length) x = false := by simpa using hbad
          have hin : 0 ≤ x ∧ x < 3 * (T.length : Int) := by simp [outOf] at hok; omega
          obtain ⟨hx0, hx1⟩ := hin
          obtain ⟨xn, rfl⟩ := Int.eq_ofNat_of_zero_le hx0
          have hqn : xn / 3 < T.length := by omega
          obtain ⟨ad2, t, e2, htk, _, hadb, hc3⟩ := (HT.out.below HPK.out.b).at_ hqn
          subst e2
          have HPT : Hid (pickT T (xn : Int) = turnT (xn % 3) t) := Lib.hid (by unfold pickT; rw [show ((xn : Int)).toNat = xn from rfl, tri_of htk])
          obtain ⟨L, hL⟩ : ∃ L, L = (l.take k).map (pickT T) := ⟨_, rfl⟩
          rw [← hL] at HOK
          have hLl : L.length ≤ 1000 := by rw [hL]; simp; omega
          have HLS : Hid (L ++ [turnT (xn % 3) t] = (l.take (k + 1)).map (pickT T)) := Lib.hid (by rw [hL, take_snoc_Z l k HLX.out, List.map_append, List.map_cons, HPT.out]; rfl)
          have HKS : Hid ((l.take (k + 1)).any (outOf (3 * T.length)) = false) := Lib.hid (by rw [take_snoc_Z l k HLX.out, List.any_append, HK.out]; simp [hok])
          clear hL HPT HLX HK hbad hok htk
          have v1 : IntKind.i64.wrap ((xn : Int) / 3) = (xn : Int) / 3 := by rw [IntKind.wrap_i64]; omega
          have v2 : IntKind.i64.wrap ((xn : Int) % 3) = (xn : Int) % 3 := by rw [IntKind.wrap_i64]; omega
          have v3 : ((xn : Int) / 3).toNat = xn / 3 := by omega
          have v4 : (0 : Int) ≤ (xn : Int) / 3 := by omega
          have v5 : (xn : Int) / 3 < (T.length : Int) := by omega
          obtain ⟨d0, d1, d2, d3, d4, d5⟩ := hc3
          generalize hp : ad2.add (xn / 3 * 3) = pt at d0 d1 d2 d3 d4 d5
          have hptb : pt.block < w.heap.size := by rw [← hp, block_of_add]; exact hadb
          obtain ⟨row, hrow⟩ : ∃ row, row = (Value.slice A' L.length c').ownBlock := ⟨_, rfl⟩
          have HK0 := Lib.hid (KeepO.refl wr.heap.size row wr)
          obtain ⟨o0, o1, o2, o3, ol⟩ := HOK.out.cells
          have HS : Hid (∀ w', KeepO wr.heap.size row wr w' → w'.cell? ⟨gs, 1, none⟩ = some (.slice (some ad2) T.length c) ∧ w'.cell? ⟨go, 1, none⟩ = some (.slice A' L.length c') ∧ w'.cell? pt = some (.int .i64 t.a) ∧ w'.cell? (pt.add 1) = some (.int .i64 t.b) ∧ w'.cell? (pt.add 2) = some (.int .i64 t.c) ∧ w'.cell? ⟨pt.block, pt.off + 1, none⟩ = some (.int .i64 t.b) ∧ w'.cell? ⟨pt.block, pt.off + 2, none⟩ = some (.int .i64 t.c) ∧ KeepO wr.heap.size row wr w') := Lib.hid fun w' h => by
            have hsz := HPK.out.b.size
            have hlo : some pt.block ≠ row := fun e => by rw [hrow] at e; have := (HOK.out.r.owns.lt _ e.symm).1; omega
            have hl8 : pt.block < wr.heap.size := by omega
            have hne : pt.block ≠ wr.heap.size := by omega
            have hgs := HPK.out.s.lt
            exact ⟨(h.get (p := ⟨gs, 1, none⟩) hgs (Nat.ne_of_lt hgs) (fun e => by rw [hrow] at e; exact soup_tri_ne HOK.out.r HPK.out.s gs e.symm rfl)).trans s1, (h.get (p := ⟨go, 1, none⟩) ol (Nat.ne_of_lt ol) (fun e => by rw [hrow] at e; exact soup_tri_ne HOK.out.r HOK.out.t go e.symm rfl)).trans o1,
              (h.get hl8 hne hlo).trans d0, (h.get (p := pt.add 1) (by rw [block_of_add]; exact hl8) (by rw [block_of_add]; exact hne) (by rw [block_of_add]; exact hlo)).trans d1, (h.get (p := pt.add 2) (by rw [block_of_add]; exact hl8) (by rw [block_of_add]; exact hne) (by rw [block_of_add]; exact hlo)).trans d2, (h.get (p := ⟨pt.block, _, none⟩) hl8 hne hlo).trans d4, (h.get (p := ⟨pt.block, _, none⟩) hl8 hne hlo).trans d5, h⟩
          have HKO : Hid (∀ w', (w'.cell? ⟨gs, 1, none⟩ = some (.slice (some ad2) T.length c) ∧ w'.cell? ⟨go, 1, none⟩ = some (.slice A' L.length c') ∧ w'.cell? pt = some (.int .i64 t.a) ∧ w'.cell? (pt.add 1) = some (.int .i64 t.b) ∧ w'.cell? (pt.add 2) = some (.int .i64 t.c) ∧ w'.cell? ⟨pt.block, pt.off + 1, none⟩ = some (.int .i64 t.b) ∧ w'.cell? ⟨pt.block, pt.off + 2, none⟩ = some (.int .i64 t.c) ∧ KeepO wr.heap.size row wr w') → KeepO wr.heap.size row wr w') := Lib.hid fun w' h => h.2.2.2.2.2.2.2
          have HTU : Hid (∀ w, Calls Try.prog 33 #[.agg #[.int .i64 t.a, .int .i64 t.b, .int .i64 t.c], .int .i64 ((xn : Int) % 3)] w fun e w' => e = .returned (.agg #[.int .i64 (turnT (xn % 3) t).a, .int .i64 (turnT (xn % 3) t).b, .int .i64 (turnT (xn % 3) t).c]) ∧ Below w.heap.size w w') := Lib.hid fun w => by
            have := refTurned_any t (xn % 3) w (by omega)
            rwa [show (((xn % 3 : Nat)) : Int) = (xn : Int) % 3 by omega] at this
          generalize turnT (xn % 3) t = tt at HTU HLS
          have hq0 : (0 : Int) ≤ (xn : Int) := by omega
          subst hrow
          subst hp
          go_wp2_with fail
          refine wp_region_till (S := fun w' => w'.cell? ⟨gs, 1, none⟩ = some (.slice (some ad2) T.length c) ∧ w'.cell? ⟨go, 1, none⟩ = some (.slice A' L.length c') ∧ w'.cell? (ad2.add (xn / 3 * 3)) = some (.int .i64 t.a) ∧ w'.cell? ((ad2.add (xn / 3 * 3)).add 1) = some (.int .i64 t.b) ∧ w'.cell? ((ad2.add (xn / 3 * 3)).add 2) = some (.int .i64 t.c) ∧ w'.cell? ⟨(ad2.add (xn / 3 * 3)).block, (ad2.add (xn / 3 * 3)).off + 1, none⟩ = some (.int .i64 t.b) ∧ w'.cell? ⟨(ad2.add (xn / 3 * 3)).block, (ad2.add (xn / 3 * 3)).off + 2, none⟩ = some (.int .i64 t.c) ∧ KeepO wr.heap.size (Value.slice A' L.length c').ownBlock wr w') 14 (by kernel_rfl) ?_ (fun hHeld => ?_)
          · (refine HS.out _ ?_; repeat (first | exact HK0.out | exact hK5 | assumption | exact KeepO.call (KeepO.drew HK0.out) hb9 | refine KeepO.alloc ?_ _ | refine KeepO.drew ?_ | refine KeepO.set ?_ _ | exact HKO.out _ (by assumption)))
          refine Till.take (i := 0) (v := ?vt1) rfl (by kernel_rfl) (by kernel_rfl) (by kernel_rfl) (by kernel_rfl) (fun _ _ _ h => h) (Or.inl ⟨by rfl, ?ht1⟩) (by assumption) ?restt1
          case ht1 => (intro w hSw; (try dsimp only at hSw); go_simp; try with_reducible rfl)
          (try simp only [Act.put, List.setIfInBounds_toArray, List.set_cons_zero, List.set_cons_succ])
          refine Till.take (i := 1) (v := ?vt2) rfl (by kernel_rfl) (by kernel_rfl) (by kernel_rfl) (by kernel_rfl) (fun _ _ _ h => h) (Or.inl ⟨by rfl, ?ht2⟩) (by assumption) ?restt2
          case ht2 => (intro w hSw; (try dsimp only at hSw); go_simp; try with_reducible rfl)
          (try simp only [Act.put, List.setIfInBounds_toArray, List.set_cons_zero, List.set_cons_succ])
          refine Till.take (i := 2) (v := ?vt3) rfl (by kernel_rfl) (by kernel_rfl) (by kernel_rfl) (by kernel_rfl) (fun _ _ _ h => h) (Or.inl ⟨by rfl, ?ht3⟩) (by assumption) ?restt3
          case ht3 => (intro w hSw; (try dsimp only at hSw); go_simp; try with_reducible rfl)
          (try simp only [Act.put, List.setIfInBounds_toArray, List.set_cons_zero, List.set_cons_succ])
          refine Till.take (i := 3) (v := ?vt4) rfl (by kernel_rfl) (by kernel_rfl) (by kernel_rfl) (by kernel_rfl) (fun _ _ _ h => h) (Or.inl ⟨by rfl, ?ht4⟩) (by assumption) ?restt4
          case ht4 => (intro w hSw; (try dsimp only at hSw); go_simp; try with_reducible rfl)
          (try simp only [Act.put, List.setIfInBounds_toArray, List.set_cons_zero, List.set_cons_succ])
          refine Till.take (i := 4) (v := ?vt5) rfl (by kernel_rfl) (by kernel_rfl) (by kernel_rfl) (by kernel_rfl) (fun _ _ _ h => h) (Or.inl ⟨by rfl, ?ht5⟩) (by assumption) ?restt5
          case ht5 => (intro w hSw; (try dsimp only at hSw); go_simp; try with_reducible rfl)
          (try simp only [Act.put, List.setIfInBounds_toArray, List.set_cons_zero, List.set_cons_succ])
          refine Till.take (i := 5) (v := ?vt6) rfl (by kernel_rfl) (by kernel_rfl) (by kernel_rfl) (by kernel_rfl) (fun _ _ _ h => h) (Or.inl ⟨by rfl, ?ht6⟩) (by assumption) ?restt6
          case ht6 => (intro w hSw; (try dsimp only at hSw); go_simp; try with_reducible rfl)
          (try simp only [Act.put, List.setIfInBounds_toArray, List.set_cons_zero, List.set_cons_succ])
          refine Till.take (i := 6) (v := ?vt7) rfl (by kernel_rfl) (by kernel_rfl) (by kernel_rfl) (by kernel_rfl) (fun _ _ _ h => h) (Or.inl ⟨by rfl, ?ht7⟩) (by assumption) ?restt7
          case ht7 => (intro w hSw; (try dsimp only at hSw); go_simp; try with_reducible rfl)
          (try simp only [Act.put, List.setIfInBounds_toArray, List.set_cons_zero, List.set_cons_succ])
          refine Till.take (i := 7) (v := ?vt8) rfl (by kernel_rfl) (by kernel_rfl) (by kernel_rfl) (by kernel_rfl) (fun _ _ _ h => h) (Or.inl ⟨by rfl, ?ht8⟩) (by assumption) ?restt8
          case ht8 => (intro w hSw; (try dsimp only at hSw); go_simp; try with_reducible rfl)
          (try simp only [Act.put, List.setIfInBounds_toArray, List.set_cons_zero, List.set_cons_succ])
          refine Till.take (i := 8) (v := ?vt9) rfl (by kernel_rfl) (by kernel_rfl) (by kernel_rfl) (by kernel_rfl) (fun _ _ _ h => h) (Or.inl ⟨by rfl, ?ht9⟩) (by assumption) ?restt9
          case ht9 => (intro w hSw; (try dsimp only at hSw); go_simp; try with_reducible rfl)
          (try simp only [Act.put, List.setIfInBounds_toArray, List.set_cons_zero, List.set_cons_succ])
          refine Till.take (i := 9) (v := ?vt10) rfl (by kernel_rfl) (by kernel_rfl) (by kernel_rfl) (by kernel_rfl) (fun _ _ _ h => h) (Or.inl ⟨by rfl, ?ht10⟩) (by assumption) ?restt10
          case ht10 => (intro w hSw; (try dsimp only at hSw); go_simp; try with_reducible rfl)
          (try simp only [Act.put, List.setIfInBounds_toArray, List.set_cons_zero, List.set_cons_succ])
          refine Till.ready (rs := [10]) (by kernel_rfl) (by simp) ?_
          refine TillEach.cons rfl (fun K hK => ?_) ?_
          · go_simp
            go_wp2_with (go_at_call 33; refine (HTU.out _).mono ?_; rintro e w9 ⟨rfl, hb9⟩)
            refine hK.out _ _ ?_ (fun hHeld => ?_)
            · (refine HS.out _ ?_; repeat (first | exact HK0.out | exact hK5 | assumption | exact KeepO.call (KeepO.drew HK0.out) hb9 | refine KeepO.alloc ?_ _ | refine KeepO.drew ?_ | refine KeepO.set ?_ _ | exact HKO.out _ (by assumption)))
            clear hK K
            (try simp only [Act.put, List.setIfInBounds_toArray, List.set_cons_zero, List.set_cons_succ])
            refine Till.ready (rs := [11]) (by kernel_rfl) (by simp) ?_
            refine TillEach.cons rfl (fun K hK => ?_) ?_
            · go_simp
              refine hK.out _ _ ?_ (fun hHeld => ?_)
              · (refine HS.out _ ?_; repeat (first | exact HK0.out | exact hK5 | assumption | exact KeepO.call (KeepO.drew HK0.out) hb9 | refine KeepO.alloc ?_ _ | refine KeepO.drew ?_ | refine KeepO.set ?_ _ | exact HKO.out _ (by assumption)))
              clear hK K
              (try simp only [Act.put, List.setIfInBounds_toArray, List.set_cons_zero, List.set_cons_succ])
              refine Till.ready (rs := [12]) (by kernel_rfl) (by simp) ?_
              refine TillEach.cons rfl (fun K hK => ?_) ?_
              · refine step_append_sl _ (by rfl) (.tmp 38) (.tmp 48) _ (by rfl) w.heap.size 51 i0 _ 3 24 Try.underlying22 hi0 hz0 hz1 hz2 rfl (by omega) (.slice A' L.length c') L.length (L.flatMap Tri.cells) (by rfl) (((HOK.out).drew.on hb9).alloc _).r.owns (w9.heap.size + 1) (some ⟨w9.heap.size, 0, none⟩) 1 1 [.int .i64 tt.a, .int .i64 tt.b, .int .i64 tt.c] (by rfl) (reads_newN _ _ _ 1 3 rfl rfl) (by simp [Value.oneCell']) (by simp only [maxLen]; omega) (by omega) (bw_size (bw_alloc (bw_call (bw_drew HPK.out.b) hb9) _)) ?_
                intro A5 c5 w5 hown5 hg5 hat5
                obtain ⟨z0, z1, z2⟩ := OneSoup.facts (((HOK.out).drew.on hb9).alloc _) hg5
                have hB5 : Below w.heap.size w w5 := bw_grow (bw_alloc (bw_call (bw_drew HPK.out.b) hb9) _) hg5 (fun x hx => (HOK.out.r.owns.lt x hx).1)
                have hK5 := KeepO.grow (KeepO.alloc (KeepO.call (KeepO.drew HK0.out) hb9) _) hg5
                refine hK.out _ _ ?_ (fun hHeld => ?_)
                · (refine HS.out _ ?_; repeat (first | exact HK0.out | exact hK5 | assumption | exact KeepO.call (KeepO.drew HK0.out) hb9 | refine KeepO.alloc ?_ _ | refine KeepO.drew ?_ | refine KeepO.set ?_ _ | exact HKO.out _ (by assumption)))
                clear hK K
                (try simp only [Act.put, List.setIfInBounds_toArray, List.set_cons_zero, List.set_cons_succ])
                refine Till.take (i := 13) (v := ?vt11) rfl (by kernel_rfl) (by kernel_rfl) (by kernel_rfl) (by kernel_rfl) (fun _ _ _ h => h) (Or.inl ⟨by rfl, ?ht11⟩) (by assumption) ?restt11
                case ht11 => (intro w hSw; (try dsimp only at hSw); go_simp; try with_reducible rfl)
                (try simp only [Act.put, List.setIfInBounds_toArray, List.set_cons_zero, List.set_cons_succ])
                refine Till.ready (rs := [14]) (by kernel_rfl) (by simp) ?_
                refine TillEach.last rfl (fun K hK => ?_)
                · go_simp
                  refine hK.out _ _ ?_
                  clear hK K
                  (try simp only [Act.put, List.setIfInBounds_toArray, List.set_cons_zero, List.set_cons_succ])
                  refine Till.done (by kernel_rfl) ?_ _
                  go_wp2_with fail
                  refine ⟨⟨k + 1, A5, c5, by omega, by go_num, HKS, Lib.hid ?_, Lib.hid ?_⟩, by simp [intOf]; omega⟩
                  · rw [← HLS.out]
                    exact OneSoup.push (((HOK.out).drew.on hb9).alloc _) hown5 (by simp) (by simp [Tri.cells]) hg5
                  · exact (PS.grown (((HPK.out).drew.on hb9).alloc _) (((HOK.out).drew.on hb9).alloc _).r (Nat.le_refl _) hg5).far HGO.out.1.symm HGO.out.2.1.symm HGO.out.2.2 _ _
              exact TillEach.nil
            exact TillEach.nil
          exact TillEach.nil
      · obtain rfl : k = l.length := by omega
        have hall := HK.out
        rw [List.take_length] at hall
        have HQ : Hid (pickL N T l = (N, l.map (pickT T), 0)) := Lib.hid (by unfold pickL; rw [if_neg (by rw [hf]; simp), if_neg (by rw [hall]; simp)])
        have hl8 : ¬ (8192 : Int) < (l.length : Int) := by omega
        have HOE := HOK.out
        rw [List.take_length] at HOE
        obtain ⟨o0, o1, _, _, _⟩ := HOE.cells
        obtain ⟨s0, s1, r0, r1, r2, r3⟩ := HPK.out.cells
        clear HOK HK hall
        go_wp2_with fail
        obtain ⟨f0, f1, _, _, _⟩ := soup_facts (soup_set HPK.out.r (.int .i64 N) (.slice A' (l.map (pickT T)).length c'))
        rw [List.length_map] at f0 f1
        refine bodyPost_ret (v := .tuple #[.agg #[.int .i64 N, .slice A' (l.map (pickT T)).length c'], .int .i64 0]) ?_ rfl (pick_post HQ.out (HOE.r.soup_set HPK.out.r _ _) (bw_set (bw_set HPK.out.b HPK.out.hr _) HPK.out.hr _))
        simp [results, Try.results14, go_sem, f0, f1]
end Go.Proofs.Ytmmjonpkpeanpaa
