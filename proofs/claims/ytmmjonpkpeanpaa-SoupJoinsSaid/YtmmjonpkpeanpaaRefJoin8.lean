/- the document's Join, walked. No condition. -/
import Derived.Test.YtmmjonpkpeanpaaJoinA8
namespace Go.Proofs.Ytmmjonpkpeanpaa
open Go.RowKit

set_option linter.unusedSimpArgs false
set_option linter.unusedVariables false
attribute [local irreducible] Blk LRow World.alloc World.setCell World.cell? World.frozen?
set_option maxRecDepth 100000 in
set_option maxHeartbeats 8000000 in
theorem refJoin_any (A : Option Addr) (n c : Nat) (l : List Sp) (w : World) (hn : n ≤ 6) (hT : ∀ s ∈ l, s.T.length ≤ 1000) (ht : SoupsAt w w.heap.size A n l) :
    Calls Try.prog 23 #[.slice A n c] w (PickPost w (joinL l)) := by
  obtain rfl : l.length = n := ht.len
  have HT := Lib.hid ht
  have HTL := Lib.hid hT
  obtain ⟨i0, hi0, hz0, hz1, hz2⟩ := info_parts ltri_info
  clear ht hT
  go_enter Try.func23, Try.ntmps23
  go_wp2_with fail
  obtain ⟨V, hV⟩ : ∃ V, V = (w.alloc (.cells #[.int .i64 0, .slice none 0 0] 24)).alloc (.cells #[.int .i64 0, .slice none 0 0] 24) := ⟨_, rfl⟩
  have HO : Hid (OneSoup V w.heap.size (w.heap.size + 1) (.int .i64 0) none 0 []) := by subst hV; exact Lib.hid ⟨blk_new1 _ _ _ _, LRow.nil _ _, Nat.le_succ _⟩
  have HR : Hid (Blk V w.heap.size 24 #[.int .i64 0, .slice none 0 0]) := by subst hV; exact Lib.hid ((Blk.new _ _ _).alloc _)
  have HB : Hid (Below w.heap.size w V) := by subst hV; exact Lib.hid (bw_alloc (bw_alloc (Below.refl _ _) _) _)
  rw [← hV]
  clear hV
  obtain ⟨gr, hgr⟩ : ∃ gr, gr = w.heap.size := ⟨_, rfl⟩
  obtain ⟨go, hgo⟩ : ∃ go, go = w.heap.size + 1 := ⟨_, rfl⟩
  have HGR : Hid (w.heap.size ≤ gr) := Lib.hid (by omega)
  have HGO : Hid (go ≠ gr) := Lib.hid (by omega)
  rw [← hgo] at HO ⊢
  rw [← hgr] at HR
  simp only [← hgr]
  clear hgr hgo
  go_loopw [5] (fun iv wr => ∃ k : Nat, k ≤ l.length ∧ iv = .int .i64 k ∧ Hid (allFit (l.take k) = true) ∧ Hid (OneSoup wr w.heap.size go (.int .i64 0) none 0 []) ∧ Hid (Blk wr gr 24 #[.int .i64 0, .slice none 0 0]) ∧ Hid (Below w.heap.size w wr)) (fun iv _ => l.length - (intOf iv).toNat)
  case atStart => exact ⟨0, by omega, rfl, Lib.hid rfl, HO, HR, HB⟩
  case round =>
    obtain ⟨k, hk, rfl, HF, HO1, HR1, HB1⟩ := hrel
    by_cases hlt : k < l.length
    · obtain ⟨ad, s, rfl, hs, hadb, hc2, hst⟩ := (HT.out.below HB1.out).at_ hlt
      have hTl := HTL.out s (List.mem_of_getElem? hs)
      have HS := Lib.hid hs
      have HST := Lib.hid hst
      obtain ⟨sN, sA, sc, sT⟩ := s
      obtain ⟨e0, e1, e2, e3⟩ := hc2
      simp only at e0 e1 e2 e3 hTl HST
      have hk0 : (0 : Int) ≤ (k : Int) := by omega
      have hk1 : (k : Int) < (l.length : Int) := by omega
      clear hs hst hadb HO HR HB
      obtain ⟨w3, hw3⟩ : ∃ w3 : World, w3 = wr := ⟨_, rfl⟩
      rw [← hw3] at HO1 HR1 HB1 HST e0 e1 e2 e3 ⊢
      clear hw3
      go_wp2_with fail
      refine (refFits_any sN sA sT.length sc sT w3 (by omega) (HST.out.more (bw_size HB1.out))).mono ?_
      rintro e w4 ⟨rfl, hb⟩
      have HO4 := Lib.hid (HO1.out.on hb)
      have HR4 := Lib.hid (blk_call HR1.out hb)
      have HB4 := Lib.hid (bw_call HB1.out hb)
      clear hb HO1 HR1 HB1 HST e0 e1 e2 e3
      cases hf : fitL sN sT with
      | false =>
        have HQ := Lib.hid (joinL_bad HS.out hf)
        obtain ⟨r0, r1, r2, r3, _⟩ := soup_facts HR4.out
        go_wp2_with fail
        obtain ⟨f0, f1, _, _, _⟩ := soup_facts (soup_set HR4.out (.int .i64 0) (.slice none 0 0))
        refine bodyPost_ret (v := .tuple #[.agg #[.int .i64 (0), .slice none 0 0], .int .i64 1]) ?_ rfl (pick_post HQ.out (LRow.nil _ _) (bw_set (bw_set HB4.out HGR.out _) HGR.out _))
        simp [results, Try.results23, go_sem, f0, f1]
      | true =>
        go_wp2_with fail
        exact ⟨⟨k + 1, by omega, by go_num, Lib.hid (allFit_snoc HF.out HS.out hf), HO4, HR4, HB4⟩, by simp [intOf]; omega⟩
    · obtain rfl : k = l.length := by omega
      rw [List.take_length] at HF
      have HFN := Lib.hid (allFit_N HF.out)
      obtain ⟨w5, hw5⟩ : ∃ w5 : World, w5 = wr := ⟨_, rfl⟩
      rw [← hw5] at HO1 HR1 HB1 ⊢
      clear hw5 HO HR HB hlt
      go_wp2_with fail
      go_loopw [6] (fun iv wr => ∃ (k : Nat) (A' : Option Addr) (c' : Nat), k ≤ l.length ∧ iv = .int .i64 k ∧ Hid (OneSoup wr w.heap.size go (.int .i64 (joinS (l.take k)).1) A' c' (joinS (l.take k)).2) ∧ Hid (Blk wr gr 24 #[.int .i64 0, .slice none 0 0]) ∧ Hid (Below w.heap.size w wr)) (fun iv _ => l.length - (intOf iv).toNat)
      case atStart => exact ⟨0, none, 0, by omega, rfl, HO1, HR1, HB1⟩
      case round =>
        obtain ⟨k, A', c', hk, rfl, HOK, HRK, HBK⟩ := hrel
        obtain ⟨w6, hw6⟩ : ∃ w6 : World, w6 = wr := ⟨_, rfl⟩
        rw [← hw6] at HOK HRK HBK ⊢
        clear hw6 HO1 HR1 HB1
        by_cases hlt : k < l.length
        · obtain ⟨ad, s, rfl, hs, hadb, hc2, hst⟩ := HT.out.at_ hlt
          have hTl := HTL.out s (List.mem_of_getElem? hs)
          have hsN := HFN.out s (List.mem_of_getElem? hs)
          have HFS := Lib.hid (allFit_take HF.out hs)
          have hjb := joinS_bound l HFN.out k hk
          have hjl := joinS_len l 1000 HTL.out k hk
          have HJ := Lib.hid (joinS_succ l k hs)
          have HST6 := Lib.hid hst
          obtain ⟨sN, sA, sc, sT⟩ := s
          have HC2 := Lib.hid hc2
          simp only at hTl HFS hsN HJ HC2 HST6
          unfold joinStep at HJ
          simp only at HJ
          generalize joinS (l.take k) = r at *
          obtain ⟨rN, rT⟩ := r
          simp only at HOK hjb hjl HJ
          have hk0 : (0 : Int) ≤ (k : Int) := by omega
          have hk1 : (k : Int) < (l.length : Int) := by omega
          have u1 : IntKind.i64.wrap (rN + sN) = rN + sN := by rw [IntKind.wrap_i64]; omega
          have HAB := Lib.hid hadb
          clear hs hst hadb hc2
          go_wp2_with fail
          go_loopw [7] (fun qv wr => ∃ (q : Nat) (A2 : Option Addr) (c2 : Nat), q ≤ sT.length ∧ qv = .int .i64 q ∧ Hid (OneSoup wr w.heap.size go (.int .i64 rN) A2 c2 (rT ++ (sT.take q).map (shT rN))) ∧ Hid (Blk wr gr 24 #[.int .i64 0, .slice none 0 0]) ∧ Hid (Below w.heap.size w wr)) (fun qv _ => sT.length - (intOf qv).toNat)
          case atStart => exact ⟨0, A', c', by omega, rfl, by simpa using HOK, HRK, HBK⟩
          case round =>
            obtain ⟨q, A2, c2, hq, rfl, HOM, HRM, HBM⟩ := hrel
            obtain ⟨wm, hwm⟩ : ∃ wm : World, wm = wr := ⟨_, rfl⟩
            rw [← hwm] at HOM HRM HBM ⊢
            clear hwm HOK HRK HBK
            obtain ⟨e0, e1, e2, e3⟩ := cells2_below HC2.out HBM.out (by rw [block_of_add]; exact HAB.out)
            by_cases hltq : q < sT.length
            · obtain ⟨ad3, t, e3, htq, _, hadb3, hc4⟩ := (HST6.out.below HBM.out).at_ hltq
              obtain ⟨d0, d1, d2, d3, d4, d5⟩ := hc4
              subst e3
              have hft := (fitT_iff.1 (fit_tri HFS.out hltq)).1
              rw [tri_of htq] at hft
              have HLS : Hid (rT ++ (sT.take q).map (shT rN) ++ [shT rN t] = rT ++ (sT.take (q + 1)).map (shT rN)) := Lib.hid (by rw [take_snoc_T sT q htq]; simp)
              have hLl : (rT ++ (sT.take q).map (shT rN)).length ≤ 7000 := by
                rw [List.length_append, List.length_map, List.length_take]
                have := Nat.min_le_left q sT.length
                omega
              generalize rT ++ (sT.take q).map (shT rN) = L at *
              have hq0 : (0 : Int) ≤ (q : Int) := by omega
              have hq1 : (q : Int) < (sT.length : Int) := by omega
              have a1 : IntKind.i64.wrap (t.a + rN) = t.a + rN := by rw [IntKind.wrap_i64]; omega
              have a2 : IntKind.i64.wrap (t.b + rN) = t.b + rN := by rw [IntKind.wrap_i64]; omega
              have a3 : IntKind.i64.wrap (t.c + rN) = t.c + rN := by rw [IntKind.wrap_i64]; omega
              clear htq hadb3 hft
              go_upto_region 14 with (fail)
              obtain ⟨w8, hw8⟩ : ∃ w8, w8 = wm.alloc (.cells #[.int .i64 t.a, .int .i64 t.b, .int .i64 t.c] 51) := ⟨_, rfl⟩
              have HTB : Hid (Blk w8 wm.heap.size 51 #[.int .i64 t.a, .int .i64 t.b, .int .i64 t.c]) := by subst hw8; exact Lib.hid (Blk.new _ _ _)
              have HO8 : Hid (OneSoup w8 w.heap.size go (.int .i64 rN) A2 c2 L) := by subst hw8; exact Lib.hid (HOM.out.alloc _)
              have HR8 : Hid (Blk w8 gr 24 #[.int .i64 0, .slice none 0 0]) := by subst hw8; exact Lib.hid (HRM.out.alloc _)
              have HB8 : Hid (Below w.heap.size w w8) := by subst hw8; exact Lib.hid (bw_alloc HBM.out _)
              rw [← hw8]
              generalize wm.heap.size = tb at *
              clear hw8 HOM HRM HBM d0 d1 d2 d3 d4 d5 e0 e1 e2 e3
              obtain ⟨x0, x1, x2⟩ := tri_cells HTB.out
              obtain ⟨o0, o1, _, _, ol⟩ := HO8.out.cells
              obtain ⟨y0, y1, _, _⟩ := (HO8.out.alloc (.cells #[.int .i64 (t.a + rN), .int .i64 (t.b + rN), .int .i64 (t.c + rN)] 51)).cells
              go_wp2_with (at_builtin; go_must (refine wpList_append_sl _ rfl (.tmp 47) (.tmp 64) _ rfl w.heap.size 51 i0 _ 3 24 Try.underlying22 hi0 hz0 hz1 hz2 rfl (by omega) (.slice A2 L.length c2) L.length (L.flatMap Tri.cells) rfl (HO8.out.alloc _).r.owns (w8.heap.size + 1) (some ⟨w8.heap.size, 0, none⟩) 1 1 [.int .i64 (t.a + rN), .int .i64 (t.b + rN), .int .i64 (t.c + rN)] rfl (reads_newN _ _ _ 1 3 rfl rfl) (by simp [Value.oneCell']) (by simp only [maxLen]; omega) (by omega) (bw_size (bw_alloc HB8.out _)) ?_); intro A5 c5 w5 hown5 hg5 hat5; obtain ⟨z0, z1, z2⟩ := OneSoup.facts (HO8.out.alloc _) hg5)
              have hB5 : Below w.heap.size w w5 := bw_grow (bw_alloc HB8.out _) hg5 (fun x hx => (HO8.out.r.owns.lt x hx).1)
              refine ⟨⟨q + 1, A5, c5, by omega, by go_num, Lib.hid ?_, Lib.hid ?_, Lib.hid (bw_set hB5 HO8.out.g _)⟩, by simp [intOf]; omega⟩
              · rw [← HLS.out]
                exact OneSoup.push (HO8.out.alloc _) hown5 (by simp) (by simp [Tri.cells, shT]) hg5
              · exact (Blk.grown (HR8.out.alloc _) hg5 (fun e => soup_tri_ne HO8.out.r HR8.out gr e.symm rfl)).far HGO.out.symm _
            · obtain rfl : q = sT.length := by omega
              rw [List.take_length] at HOM
              obtain ⟨o0, o1, o2, o3, ol⟩ := HOM.out.cells
              go_wp2_with fail
              refine wp_region_till (S := fun w' => w'.cell? ⟨go, 0, none⟩ = some (.int .i64 rN) ∧ w'.cell? (ad.add (k * 2)) = some (.int .i64 sN) ∧ w'.cell? ⟨(ad.add (k * 2)).block, (ad.add (k * 2)).off, none⟩ = some (.int .i64 sN) ∧ w'.frozen? ⟨go, 0, none⟩ = false) 9 (by kernel_rfl) ⟨HOM.out.drew.cells.1, (cells2_below HC2.out (bw_drew HBM.out) (by rw [block_of_add]; exact HAB.out)).c0, (cells2_below HC2.out (bw_drew HBM.out) (by rw [block_of_add]; exact HAB.out)).f0, HOM.out.drew.cells.2.2.1⟩ (fun hHeld => ?_)
              refine Till.take (i := 0) (v := ?vt1) rfl (by kernel_rfl) (by kernel_rfl) (by kernel_rfl) (by kernel_rfl) (fun _ _ _ h => h) (Or.inl ⟨by rfl, ?ht1⟩) (by assumption) ?restt1
              case ht1 => (intro w hSw; (try dsimp only at hSw); go_simp; try with_reducible rfl)
              (try simp only [Act.put, List.setIfInBounds_toArray, List.set_cons_zero, List.set_cons_succ])
              refine Till.take (i := 1) (v := ?vt2) rfl (by kernel_rfl) (by kernel_rfl) (by kernel_rfl) (by kernel_rfl) (fun _ _ _ h => h) (Or.inl ⟨by rfl, ?ht2⟩) (by assumption) ?restt2
              case ht2 => (intro w hSw; (try dsimp only at hSw); go_simp; try with_reducible rfl)
              (try simp only [Act.put, List.setIfInBounds_toArray, List.set_cons_zero, List.set_cons_succ])
              refine Till.take (i := 2) (v := ?vt3) rfl (by kernel_rfl) (by kernel_rfl) (by kernel_rfl) (by kernel_rfl) (fun _ _ _ h => h) (Or.inl ⟨by rfl, ?ht3⟩) (by assumption) ?restt3
              case ht3 => (intro w hSw; (try dsimp only at hSw); go_simp; try with_reducible rfl)
              (try simp only [Act.put, List.setIfInBounds_toArray, List.set_cons_zero, List.set_cons_succ])
              refine Till.take (i := 3) (v := ?vt4) rfl (by kernel_rfl) (by kernel_rfl) (by kernel_rfl) (by kernel_rfl) (fun _ _ _ h => h) (Or.inl ⟨by rfl, ?ht4⟩) (by assumption) ?restt4
              case ht4 => (intro w hSw; (try dsimp only at hSw); go_simp; try with_reducible rfl)
              (try simp only [Act.put, List.setIfInBounds_toArray, List.set_cons_zero, List.set_cons_succ])
              refine Till.take (i := 4) (v := ?vt5) rfl (by kernel_rfl) (by kernel_rfl) (by kernel_rfl) (by kernel_rfl) (fun _ _ _ h => h) (Or.inl ⟨by rfl, ?ht5⟩) (by assumption) ?restt5
              case ht5 => (intro w hSw; (try dsimp only at hSw); go_simp; try with_reducible rfl)
              (try simp only [Act.put, List.setIfInBounds_toArray, List.set_cons_zero, List.set_cons_succ])
              refine Till.take (i := 5) (v := ?vt6) rfl (by kernel_rfl) (by kernel_rfl) (by kernel_rfl) (by kernel_rfl) (fun _ _ _ h => h) (Or.inl ⟨by rfl, ?ht6⟩) (by assumption) ?restt6
              case ht6 => (intro w hSw; (try dsimp only at hSw); go_simp; try with_reducible rfl)
              (try simp only [Act.put, List.setIfInBounds_toArray, List.set_cons_zero, List.set_cons_succ])
              refine Till.take (i := 6) (v := ?vt7) rfl (by kernel_rfl) (by kernel_rfl) (by kernel_rfl) (by kernel_rfl) (fun _ _ _ h => h) (Or.inl ⟨by rfl, ?ht7⟩) (by assumption) ?restt7
              case ht7 => (intro w hSw; (try dsimp only at hSw); go_simp; try with_reducible rfl)
              (try simp only [Act.put, List.setIfInBounds_toArray, List.set_cons_zero, List.set_cons_succ])
              refine Till.take (i := 7) (v := ?vt8) rfl (by kernel_rfl) (by kernel_rfl) (by kernel_rfl) (by kernel_rfl) (fun _ _ _ h => h) (Or.inl ⟨by rfl, ?ht8⟩) (by assumption) ?restt8
              case ht8 => (intro w hSw; (try dsimp only at hSw); go_simp; try with_reducible rfl)
              (try simp only [Act.put, List.setIfInBounds_toArray, List.set_cons_zero, List.set_cons_succ])
              refine Till.take (i := 8) (v := ?vt9) rfl (by kernel_rfl) (by kernel_rfl) (by kernel_rfl) (by kernel_rfl) (fun _ _ _ h => h) (Or.inl ⟨by rfl, ?ht9⟩) (by assumption) ?restt9
              case ht9 => (intro w hSw; (try dsimp only at hSw); go_simp; try with_reducible rfl)
              (try simp only [Act.put, List.setIfInBounds_toArray, List.set_cons_zero, List.set_cons_succ])
              refine Till.ready (rs := [9]) (by kernel_rfl) (by simp) ?_
              refine TillEach.last rfl (fun K hK => ?_)
              · go_simp
                refine hK.out _ _ ?_
                clear hK K
                (try simp only [Act.put, List.setIfInBounds_toArray, List.set_cons_zero, List.set_cons_succ])
                refine Till.done (by kernel_rfl) ?_ _
                go_wp2_with fail
                exact ⟨⟨k + 1, A2, c2, by omega, by go_num, Lib.hid (by rw [HJ.out]; exact (HOM.out.setN _).drew), Lib.hid (HRM.out.far HGO.out.symm _).drew, Lib.hid (bw_drew (bw_set HBM.out HOM.out.g _))⟩, by simp [intOf]; omega⟩
        · obtain rfl : k = l.length := by omega
          rw [List.take_length] at HOK
          have hjb := joinS_bound l HFN.out l.length (Nat.le_refl _)
          have hjl := joinS_len l 1000 HTL.out l.length (Nat.le_refl _)
          rw [List.take_length] at hjb hjl
          have HQB := Lib.hid (joinL_full HF.out)
          have HQG := Lib.hid (joinL_ok HF.out)
          generalize joinS l = r at *
          obtain ⟨rN, rT⟩ := r
          simp only at HOK HQB HQG hjb hjl
          obtain ⟨o0, o1, _, _, _⟩ := HOK.out.cells
          obtain ⟨r0, r1, r2, r3, _⟩ := soup_facts HRK.out
          by_cases hbig : 4096 < rN
          · have HQ := Lib.hid (HQB.out hbig)
            clear HQB HQG
            go_wp2_with fail
            obtain ⟨f0, f1, _, _, _⟩ := soup_facts (soup_set HRK.out (.int .i64 0) (.slice none 0 0))
            refine bodyPost_ret (v := .tuple #[.agg #[.int .i64 (0), .slice none 0 0], .int .i64 7]) ?_ rfl (pick_post HQ.out (LRow.nil _ _) (bw_set (bw_set HBK.out HGR.out _) HGR.out _))
            simp [results, Try.results23, go_sem, f0, f1]
          · have HQ := Lib.hid (HQG.out hbig)
            clear HQB HQG
            have hlen8 : ¬ (8192 : Int) < (rT.length : Int) := by omega
            go_wp2_with fail
            obtain ⟨f0, f1, _, _, _⟩ := soup_facts (soup_set HRK.out (.int .i64 rN) (.slice A' rT.length c'))
            refine bodyPost_ret (v := .tuple #[.agg #[.int .i64 (rN), .slice A' rT.length c'], .int .i64 0]) ?_ rfl (pick_post HQ.out (HOK.out.r.soup_set HRK.out _ _) (bw_set (bw_set HBK.out HGR.out _) HGR.out _))
            simp [results, Try.results23, go_sem, f0, f1]
end Go.Proofs.Ytmmjonpkpeanpaa
