/- soup.Join, walked. No condition. -/
import Derived.Test.YtmmjonpkpeanpaaJoinA8
namespace Go.Proofs.Ytmmjonpkpeanpaa
open Go.RowKit

set_option linter.unusedSimpArgs false
set_option linter.unusedVariables false
attribute [local irreducible] Blk LRow World.alloc World.setCell World.cell? World.frozen?
set_option maxRecDepth 100000 in
set_option maxHeartbeats 8000000 in
theorem join_any (A : Option Addr) (n c : Nat) (l : List Sp) (w : World) (hn : n ≤ 6) (hT : ∀ s ∈ l, s.T.length ≤ 1000) (ht : SoupsAt w w.heap.size A n l) :
    Calls Try.prog 22 #[.slice A n c] w (PickPost w (joinL l)) := by
  obtain rfl : l.length = n := ht.len
  have HT := Lib.hid ht
  have HTL := Lib.hid hT
  obtain ⟨i0, hi0, hz0, hz1, hz2⟩ := info_parts ltri_info
  clear ht hT
  go_enter Try.func22, Try.ntmps22
  go_wp2_with fail
  obtain ⟨V, hV⟩ : ∃ V, V = (w.alloc (.cells #[.int .i64 0, .slice none 0 0] 24)).alloc (.cells #[.int .i64 0, .slice none 0 0] 24) := ⟨_, rfl⟩
  have HO : Hid (OneSoup V w.heap.size (w.heap.size + 1) (.int .i64 0) none 0 []) := by subst hV; exact Lib.hid ⟨blk_new1 _ _ _ _, LRow.nil _ _, Nat.le_succ _⟩
  have HR : Hid (Blk V w.heap.size 24 #[.int .i64 0, .slice none 0 0]) := by subst hV; exact Lib.hid ((Blk.new _ _ _).alloc _)
  have HB : Hid (Below w.heap.size w V) := by subst hV; exact Lib.hid (bw_alloc (bw_alloc (Below.refl _ _) _) _)
  rw [← hV]
  clear hV
  obtain ⟨gr, hgr⟩ : ∃ gr, gr = w.heap.size := ⟨_, rfl⟩
  obtain ⟨go, hgo⟩ : ∃ go, go = w.heap.size + 1 := ⟨_, rfl⟩
  have HGR : Hid (w.heap.size ≤ gr) := Lib.hid (by omega)
  have HGO : Hid (go ≠ gr) := Lib.hid (by omega)
  rw [← hgo] at HO ⊢
  rw [← hgr] at HR
  simp only [← hgr]
  clear hgr hgo
  go_loopw [13] (fun iv wr => ∃ k : Nat, k ≤ l.length ∧ iv = .int .i64 k ∧ Hid (allFit (l.take k) = true) ∧ Hid (OneSoup wr w.heap.size go (.int .i64 0) none 0 []) ∧ Hid (Blk wr gr 24 #[.int .i64 0, .slice none 0 0]) ∧ Hid (Below w.heap.size w wr)) (fun iv _ => l.length - (intOf iv).toNat)
  case atStart => exact ⟨0, by omega, rfl, Lib.hid rfl, HO, HR, HB⟩
  case round =>
    obtain ⟨k, hk, rfl, HF, HO1, HR1, HB1⟩ := hrel
    by_cases hlt : k < l.length
    · obtain ⟨ad, s, rfl, hs, hadb, hc2, hst⟩ := (HT.out.below HB1.out).at_ hlt
      have hTl := HTL.out s (List.mem_of_getElem? hs)
      have HS := Lib.hid hs
      have HST := Lib.hid hst
      obtain ⟨sN, sA, sc, sT⟩ := s
      obtain ⟨e0, e1, e2, e3⟩ := hc2
      simp only at e0 e1 e2 e3 hTl HST
      have hk0 : (0 : Int) ≤ (k : Int) := by omega
      have hk1 : (k : Int) < (l.length : Int) := by omega
      clear hs hst hadb HO HR HB
      go_wp2_with fail
      obtain ⟨w3, hw3⟩ : ∃ w3, w3 = wr.alloc (.cells #[.int .i64 sN, .slice sA sT.length sc] 24) := ⟨_, rfl⟩
      have HSB : Hid (Blk w3 wr.heap.size 24 #[.int .i64 sN, .slice sA sT.length sc]) := by subst hw3; exact Lib.hid (Blk.new _ _ _)
      have HO3 : Hid (OneSoup w3 w.heap.size go (.int .i64 0) none 0 []) := by subst hw3; exact Lib.hid (HO1.out.alloc _)
      have HR3 : Hid (Blk w3 gr 24 #[.int .i64 0, .slice none 0 0]) := by subst hw3; exact Lib.hid (HR1.out.alloc _)
      have HB3 : Hid (Below w.heap.size w w3) := by subst hw3; exact Lib.hid (bw_alloc HB1.out _)
      rw [← hw3]
      have HST3 : Hid (TrisAt w3 w3.heap.size sA sT.length sT) := by subst hw3; exact Lib.hid ((HST.out.below ((Below.refl _ _).mono HB1.out.size |>.alloc HB1.out.size _)).more (bw_size (bw_alloc HB1.out _)))
      generalize wr.heap.size = sb at *
      clear hw3 HO1 HR1 HB1 e0 e1 e2 e3 HST
      obtain ⟨s0, s1, _, _, _⟩ := soup_facts HSB.out
      go_wp2_with fail
      refine (fits_any sN sA sT.length sc sT w3 (by omega) HST3.out).mono ?_
      rintro e w4 ⟨rfl, hb⟩
      have HO4 := Lib.hid (HO3.out.on hb)
      have HR4 := Lib.hid (blk_call HR3.out hb)
      have HB4 := Lib.hid (bw_call HB3.out hb)
      clear hb HO3 HR3 HB3 HSB HST3 s0 s1
      cases hf : fitL sN sT with
      | false =>
        have HQ := Lib.hid (joinL_bad HS.out hf)
        obtain ⟨r0, r1, r2, r3, _⟩ := soup_facts HR4.out
        go_wp2_with fail
        obtain ⟨f0, f1, _, _, _⟩ := soup_facts (soup_set HR4.out (.int .i64 0) (.slice none 0 0))
        refine bodyPost_ret (v := .tuple #[.agg #[.int .i64 (0), .slice none 0 0], .int .i64 1]) ?_ rfl (pick_post HQ.out (LRow.nil _ _) (bw_set (bw_set HB4.out HGR.out _) HGR.out _))
        simp [results, Try.results22, go_sem, f0, f1]
      | true =>
        go_wp2_with fail
        exact ⟨⟨k + 1, by omega, by go_num, Lib.hid (allFit_snoc HF.out HS.out hf), HO4, HR4, HB4⟩, by simp [intOf]; omega⟩
    · obtain rfl : k = l.length := by omega
      rw [List.take_length] at HF
      have HFN := Lib.hid (allFit_N HF.out)
      obtain ⟨w5, hw5⟩ : ∃ w5 : World, w5 = wr := ⟨_, rfl⟩
      rw [← hw5] at HO1 HR1 HB1 ⊢
      clear hw5 HO HR HB hlt
      go_wp2_with fail
      go_loopw [24] (fun iv wr => ∃ (k : Nat) (A' : Option Addr) (c' : Nat), k ≤ l.length ∧ iv = .int .i64 k ∧ Hid ((joinS (l.take k)).1 ≤ 4096) ∧ Hid (OneSoup wr w.heap.size go (.int .i64 (joinS (l.take k)).1) A' c' (joinS (l.take k)).2) ∧ Hid (Blk wr gr 24 #[.int .i64 0, .slice none 0 0]) ∧ Hid (Below w.heap.size w wr)) (fun iv _ => l.length - (intOf iv).toNat)
      case atStart => exact ⟨0, none, 0, by omega, rfl, Lib.hid (by simp [joinS]), HO1, HR1, HB1⟩
      case round =>
        obtain ⟨k, A', c', hk, rfl, HN, HOK, HRK, HBK⟩ := hrel
        obtain ⟨w6, hw6⟩ : ∃ w6 : World, w6 = wr := ⟨_, rfl⟩
        rw [← hw6] at HOK HRK HBK ⊢
        clear hw6 HO1 HR1 HB1
        by_cases hlt : k < l.length
        · obtain ⟨ad, s, rfl, hs, hadb, hc2, hst⟩ := (HT.out.below HBK.out).at_ hlt
          have hTl := HTL.out s (List.mem_of_getElem? hs)
          have hsN := HFN.out s (List.mem_of_getElem? hs)
          have HFS := Lib.hid (allFit_take HF.out hs)
          have hjb := joinS_bound l HFN.out k hk
          have hjl := joinS_len l 1000 HTL.out k hk
          have HJ := Lib.hid (joinS_succ l k hs)
          have HJF : Hid (4096 < (joinS (l.take k)).1 + s.N → joinL l = (0, [], 7)) := Lib.hid fun h => joinL_full HF.out (by
            have h1 := joinS_take l (fun s hs => (HFN.out s hs).1) (k + 1)
            rw [joinS_succ l k hs] at h1
            exact Int.lt_of_lt_of_le h h1)
          have HJS := Lib.hid hs
          obtain ⟨sN, sA, sc, sT⟩ := s
          obtain ⟨e0, e1, e2, e3⟩ := hc2
          simp only at e0 e1 e2 e3 hTl HFS hsN HJ HJF
          unfold joinStep at HJ
          simp only at HJ
          generalize joinS (l.take k) = r at *
          obtain ⟨rN, rT⟩ := r
          simp only at HN HOK hjb hjl HJ HJF
          have hk0 : (0 : Int) ≤ (k : Int) := by omega
          have hk1 : (k : Int) < (l.length : Int) := by omega
          have hN1 := HN.out
          clear hs hst hadb HN
          obtain ⟨w7, hw7⟩ : ∃ w7, w7 = w6.alloc (.cells #[.int .i64 sN, .slice sA sT.length sc] 24) := ⟨_, rfl⟩
          have HSB : Hid (Blk w7 w6.heap.size 24 #[.int .i64 sN, .slice sA sT.length sc]) := by subst hw7; exact Lib.hid (Blk.new _ _ _)
          have HO7 : Hid (OneSoup w7 w.heap.size go (.int .i64 rN) A' c' rT) := by subst hw7; exact Lib.hid (HOK.out.alloc _)
          have HR7 : Hid (Blk w7 gr 24 #[.int .i64 0, .slice none 0 0]) := by subst hw7; exact Lib.hid (HRK.out.alloc _)
          have HB7 : Hid (Below w.heap.size w w7) := by subst hw7; exact Lib.hid (bw_alloc HBK.out _)
          have HSN : Hid (w6.heap.size ≠ go ∧ w6.heap.size ≠ gr ∧ w.heap.size ≤ w6.heap.size) := Lib.hid ⟨by have := HOK.out.t.lt; omega, by have := HRK.out.lt; omega, HBK.out.size⟩
          have HST6 : Hid (TrisAt w w.heap.size sA sT.length sT) := Lib.hid (HT.out.tris _ (List.mem_of_getElem? HJS.out))
          have F7 := And.intro (And.intro HO7.out.cells (soup_facts HSB.out)) (soup_facts HR7.out)
          rw [hw7] at F7
          obtain ⟨⟨⟨o0, o1, _, _, _⟩, s0, s1, _, _, _⟩, r0, r1, r2, r3, _⟩ := F7
          have u1 : IntKind.i64.wrap (rN + sN) = rN + sN := by rw [IntKind.wrap_i64]; omega
          by_cases hbig : 4096 < rN + sN
          · have HQ := Lib.hid (HJF.out hbig)
            go_wp2_with fail
            rw [← hw7]
            obtain ⟨f0, f1, _, _, _⟩ := soup_facts (soup_set HR7.out (.int .i64 0) (.slice none 0 0))
            refine bodyPost_ret (v := .tuple #[.agg #[.int .i64 (0), .slice none 0 0], .int .i64 7]) ?_ rfl (pick_post HQ.out (LRow.nil _ _) (bw_set (bw_set HB7.out HGR.out _) HGR.out _))
            simp [results, Try.results22, go_sem, f0, f1]
          · have hlen8 : ¬ (8192 : Int) < (rT.length : Int) + (sT.length : Int) := by omega
            go_wp2_with fail
            rw [← hw7]
            generalize w6.heap.size = sb at *
            clear hw7 HOK HRK HBK e0 e1 e2 e3 o0 o1 r0 r1 r2 r3 s0 s1
            go_loopw [48] (fun qv wr => ∃ (q : Nat) (A2 : Option Addr) (c2 : Nat), q ≤ sT.length ∧ qv = .int .i64 q ∧ Hid (OneSoup wr w.heap.size go (.int .i64 rN) A2 c2 (rT ++ (sT.take q).map (shT rN))) ∧ Hid (Blk wr sb 24 #[.int .i64 sN, .slice sA sT.length sc]) ∧ Hid (Blk wr gr 24 #[.int .i64 0, .slice none 0 0]) ∧ Hid (Below w.heap.size w wr)) (fun qv _ => sT.length - (intOf qv).toNat)
            case atStart => exact ⟨0, A', c', by omega, rfl, by simpa using HO7, HSB, HR7, HB7⟩
            case round =>
              obtain ⟨q, A2, c2, hq, rfl, HOM, HSM, HRM, HBM⟩ := hrel
              obtain ⟨wm, hwm⟩ : ∃ wm : World, wm = wr := ⟨_, rfl⟩
              rw [← hwm] at HOM HSM HRM HBM ⊢
              clear hwm HO7 HSB HR7 HB7
              obtain ⟨s0, s1, _, _, _⟩ := soup_facts HSM.out
              by_cases hltq : q < sT.length
              · obtain ⟨ad3, t, e3, htq, _, hadb3, hc4⟩ := (HST6.out.below HBM.out).at_ hltq
                obtain ⟨d0, d1, d2, d3, d4, d5⟩ := hc4
                subst e3
                have hft := (fitT_iff.1 (fit_tri HFS.out hltq)).1
                rw [tri_of htq] at hft
                have HLS : Hid (rT ++ (sT.take q).map (shT rN) ++ [shT rN t] = rT ++ (sT.take (q + 1)).map (shT rN)) := Lib.hid (by rw [take_snoc_T sT q htq]; simp)
                have hLl : (rT ++ (sT.take q).map (shT rN)).length ≤ 7000 := by
                  rw [List.length_append, List.length_map, List.length_take]
                  have := Nat.min_le_left q sT.length
                  omega
                generalize rT ++ (sT.take q).map (shT rN) = L at *
                have hq0 : (0 : Int) ≤ (q : Int) := by omega
                have hq1 : (q : Int) < (sT.length : Int) := by omega
                have a1 : IntKind.i64.wrap (t.a + rN) = t.a + rN := by rw [IntKind.wrap_i64]; omega
                have a2 : IntKind.i64.wrap (t.b + rN) = t.b + rN := by rw [IntKind.wrap_i64]; omega
                have a3 : IntKind.i64.wrap (t.c + rN) = t.c + rN := by rw [IntKind.wrap_i64]; omega
                clear htq hadb3 hft
                go_upto_region 16 with (fail)
                obtain ⟨w8, hw8⟩ : ∃ w8, w8 = wm.alloc (.cells #[.int .i64 t.a, .int .i64 t.b, .int .i64 t.c] 51) := ⟨_, rfl⟩
                have HTB : Hid (Blk w8 wm.heap.size 51 #[.int .i64 t.a, .int .i64 t.b, .int .i64 t.c]) := by subst hw8; exact Lib.hid (Blk.new _ _ _)
                have HO8 : Hid (OneSoup w8 w.heap.size go (.int .i64 rN) A2 c2 L) := by subst hw8; exact Lib.hid (HOM.out.alloc _)
                have HS8 : Hid (Blk w8 sb 24 #[.int .i64 sN, .slice (some ad3) sT.length sc]) := by subst hw8; exact Lib.hid (HSM.out.alloc _)
                have HR8 : Hid (Blk w8 gr 24 #[.int .i64 0, .slice none 0 0]) := by subst hw8; exact Lib.hid (HRM.out.alloc _)
                have HB8 : Hid (Below w.heap.size w w8) := by subst hw8; exact Lib.hid (bw_alloc HBM.out _)
                rw [← hw8]
                generalize wm.heap.size = tb at *
                clear hw8 HOM HSM HRM HBM d0 d1 d2 d3 d4 d5
                obtain ⟨x0, x1, x2⟩ := tri_cells HTB.out
                obtain ⟨o0, o1, _, _, ol⟩ := HO8.out.cells
                obtain ⟨y0, y1, _, _⟩ := (HO8.out.alloc (.cells #[.int .i64 (t.a + rN), .int .i64 (t.b + rN), .int .i64 (t.c + rN)] 51)).cells
                go_wp2_with (at_builtin; go_must (refine wpList_append_sl _ rfl (.tmp 53) (.tmp 70) _ rfl w.heap.size 51 i0 _ 3 24 Try.underlying22 hi0 hz0 hz1 hz2 rfl (by omega) (.slice A2 L.length c2) L.length (L.flatMap Tri.cells) rfl (HO8.out.alloc _).r.owns (w8.heap.size + 1) (some ⟨w8.heap.size, 0, none⟩) 1 1 [.int .i64 (t.a + rN), .int .i64 (t.b + rN), .int .i64 (t.c + rN)] rfl (reads_newN _ _ _ 1 3 rfl rfl) (by simp [Value.oneCell']) (by simp only [maxLen]; omega) (by omega) (bw_size (bw_alloc HB8.out _)) ?_); intro A5 c5 w5 hown5 hg5 hat5; obtain ⟨z0, z1, z2⟩ := OneSoup.facts (HO8.out.alloc _) hg5)
                have hB5 : Below w.heap.size w w5 := bw_grow (bw_alloc HB8.out _) hg5 (fun x hx => (HO8.out.r.owns.lt x hx).1)
                refine ⟨⟨q + 1, A5, c5, by omega, by go_num, Lib.hid ?_, Lib.hid ?_, Lib.hid ?_, Lib.hid (bw_set hB5 HO8.out.g _)⟩, by simp [intOf]; omega⟩
                · rw [← HLS.out]
                  exact OneSoup.push (HO8.out.alloc _) hown5 (by simp) (by simp [Tri.cells, shT]) hg5
                · exact (Blk.grown (HS8.out.alloc _) hg5 (fun e => soup_tri_ne HO8.out.r HS8.out sb e.symm rfl)).far HSN.out.1 _
                · exact (Blk.grown (HR8.out.alloc _) hg5 (fun e => soup_tri_ne HO8.out.r HR8.out gr e.symm rfl)).far HGO.out.symm _
              · obtain rfl : q = sT.length := by omega
                rw [List.take_length] at HOM
                obtain ⟨o0, o1, o2, o3, ol⟩ := HOM.out.cells
                obtain ⟨s0, s1, _, _, _⟩ := soup_facts HSM.out
                go_wp2_with fail
                exact ⟨⟨k + 1, A2, c2, by omega, by go_num, Lib.hid (by rw [HJ.out]; simp only; omega), Lib.hid (by rw [HJ.out]; exact HOM.out.setN _), Lib.hid (HRM.out.far HGO.out.symm _), Lib.hid (bw_set HBM.out HOM.out.g _)⟩, by simp [intOf]; omega⟩
        · obtain rfl : k = l.length := by omega
          rw [List.take_length] at HN HOK
          have HQ := Lib.hid (joinL_ok HF.out (by have := HN.out; omega))
          generalize joinS l = r at *
          obtain ⟨rN, rT⟩ := r
          simp only at HN HOK HQ
          obtain ⟨o0, o1, _, _, _⟩ := HOK.out.cells
          obtain ⟨r0, r1, r2, r3, _⟩ := soup_facts HRK.out
          go_wp2_with fail
          obtain ⟨f0, f1, _, _, _⟩ := soup_facts (soup_set HRK.out (.int .i64 rN) (.slice A' rT.length c'))
          refine bodyPost_ret (v := .tuple #[.agg #[.int .i64 (rN), .slice A' rT.length c'], .int .i64 0]) ?_ rfl (pick_post HQ.out (HOK.out.r.soup_set HRK.out _ _) (bw_set (bw_set HBK.out HGR.out _) HGR.out _))
          simp [results, Try.results22, go_sem, f0, f1]
end Go.Proofs.Ytmmjonpkpeanpaa
