/- soup.Join, walked. No condition. -/
import Derived.Test.YtiajlmajenabiaaGreatFm47
import Derived.Test.YtiajlmajenabiaaGreatIs
import Derived.Test.YtiajlmajenabiaaGreatShelfMul
set_option maxRecDepth 100000
set_option maxHeartbeats 16000000
set_option linter.all false
namespace Go.Proofs.YtiajlmajenabiaaGreat
open Go.RowKit
attribute [local irreducible] Blk LRow World.alloc World.setCell World.cell? World.frozen?
theorem join_any (A : Option Addr) (n c : Nat) (l : List Sp) (w : World) (hn : n ≤ 1000) (hT : ∀ s ∈ l, s.T.length ≤ 1000) (hm : ∀ k, k ≤ l.length → (joinS (l.take k)).2.length ≤ 6000) (ht : SoupsAt w w.heap.size A n l) :
  Calls Tryz.prog 23 #[.slice A n c] w (PickPost w (joinL l)) := by
 obtain rfl : l.length = n := ht.len
 have HT := Lib.hid ht
 have HTL := Lib.hid hT
 have HJL := Lib.hid hm
 clear hm
 obtain ⟨i0, hi0, hz0, hz1, hz2⟩ := info_parts ltri_info
 clear ht hT
 go_enter Tryz.func23, Tryz.ntmps23
 go_wp2_with fail
 obtain ⟨V, hV⟩ : ∃ V, V = (w.alloc (.cells #[.int .i64 0, .slice none 0 0] 24)).alloc (.cells #[.int .i64 0, .slice none 0 0] 24) := ⟨_, rfl⟩
 have HO : Hid (OneSoup V w.heap.size (w.heap.size + 1) (.int .i64 0) none 0 []) := by subst hV; exact Lib.hid ⟨blk_new1 _ _ _ _, LRow.nil _ _, Nat.le_succ _⟩
 have HR : Hid (Blk V w.heap.size 24 #[.int .i64 0, .slice none 0 0]) := by subst hV; exact Lib.hid ((Blk.new _ _ _).alloc _)
 have HB : Hid (Below w.heap.size w V) := by subst hV; exact Lib.hid (bw_alloc (bw_alloc (Below.refl _ _) _) _)
 rw [← hV]
 clear hV
 obtain ⟨gr, hgr⟩ : ∃ gr, gr = w.heap.size := ⟨_, rfl⟩
 obtain ⟨go, hgo⟩ : ∃ go, go = w.heap.size + 1 := ⟨_, rfl⟩
 have HGR : Hid (w.heap.size ≤ gr) := Lib.hid (by omega)
 have HGO : Hid (go ≠ gr) := Lib.hid (by omega)
 rw [← hgo] at HO ⊢
 rw [← hgr] at HR
 simp only [← hgr]
 clear hgr hgo
 go_loopw [13] (fun iv wr => ∃ k : Nat, k ≤ l.length ∧ iv = .int .i64 k ∧ Hid (allFit (l.take k) = true) ∧ Hid (OneSoup wr w.heap.size go (.int .i64 0) none 0 []) ∧ Hid (Blk wr gr 24 #[.int .i64 0, .slice none 0 0]) ∧ Hid (Below w.heap.size w wr)) (fun iv _ => l.length - (intOf iv).toNat)
 case atStart => exact ⟨0, by omega, rfl, Lib.hid rfl, HO, HR, HB⟩
 case round =>
  obtain ⟨k, hk, rfl, HF, HO1, HR1, HB1⟩ := hrel
  by_cases hlt : k < l.length
  · obtain ⟨ad, s, rfl, hs, hadb, hc2, hst⟩ := (HT.out.below HB1.out).at_ hlt
    have hTl := HTL.out s (List.mem_of_getElem? hs)
    have HS := Lib.hid hs
    have HST := Lib.hid hst
    obtain ⟨sN, sA, sc, sT⟩ := s
    obtain ⟨e0, e1, e2, e3⟩ := hc2
    simp only at e0 e1 e2 e3 hTl HST
    have hk0 : (0 : Int) ≤ (k : Int) := by omega
    have hk1 : (k : Int) < (l.length : Int) := by omega
    clear hs hst hadb HO HR HB
    go_wp2_with fail
    obtain ⟨w3, hw3⟩ : ∃ w3, w3 = wr.alloc (.cells #[.int .i64 sN, .slice sA sT.length sc] 24) := ⟨_, rfl⟩
    have HSB : Hid (Blk w3 wr.heap.size 24 #[.int .i64 sN, .slice sA sT.length sc]) := by subst hw3; exact Lib.hid (Blk.new _ _ _)
    have HO3 : Hid (OneSoup w3 w.heap.size go (.int .i64 0) none 0 []) := by subst hw3; exact Lib.hid (HO1.out.alloc _)
    have HR3 : Hid (Blk w3 gr 24 #[.int .i64 0, .slice none 0 0]) := by subst hw3; exact Lib.hid (HR1.out.alloc _)
    have HB3 : Hid (Below w.heap.size w w3) := by subst hw3; exact Lib.hid (bw_alloc HB1.out _)
    rw [← hw3]
    have HST3 : Hid (TrisAt w3 w3.heap.size sA sT.length sT) := by subst hw3; exact Lib.hid ((HST.out.below ((Below.refl _ _).mono HB1.out.size |>.alloc HB1.out.size _)).more (bw_size (bw_alloc HB1.out _)))
    generalize wr.heap.size = sb at *
    clear hw3 HO1 HR1 HB1 e0 e1 e2 e3 HST
    obtain ⟨s0, s1, _, _, _⟩ := soup_facts HSB.out
    go_wp2_with fail
    refine (fits_any sN sA sT.length sc sT w3 (by omega) HST3.out).mono ?_
    rintro e w4 ⟨rfl, hb⟩
    have HO4 := Lib.hid (HO3.out.on hb)
    have HR4 := Lib.hid (blk_call HR3.out hb)
    have HB4 := Lib.hid (bw_call HB3.out hb)
    clear hb HO3 HR3 HB3 HSB HST3 s0 s1
    cases hf : fitL sN sT with
    | false =>
     have HQ := Lib.hid (joinL_bad HS.out hf)
     obtain ⟨r0, r1, r2, r3, _⟩ := soup_facts HR4.out
     go_wp2_with fail
     obtain ⟨f0, f1, _, _, _⟩ := soup_facts (soup_set HR4.out (.int .i64 0) (.slice none 0 0))
     refine bodyPost_ret (v := .tuple #[.agg #[.int .i64 (0), .slice none 0 0], .int .i64 1]) ?_ rfl (pick_post HQ.out (LRow.nil _ _) (bw_set (bw_set HB4.out HGR.out _) HGR.out _))
     simp [results, Tryz.results23, go_sem, f0, f1]
    | true =>
     go_wp2_with fail
     exact ⟨⟨k + 1, by omega, by go_num, Lib.hid (allFit_snoc HF.out HS.out hf), HO4, HR4, HB4⟩, by simp [intOf]; omega⟩
  · obtain rfl : k = l.length := by omega
    rw [List.take_length] at HF
    have HFN := Lib.hid (allFit_N HF.out)
    obtain ⟨w5, hw5⟩ : ∃ w5 : World, w5 = wr := ⟨_, rfl⟩
    rw [← hw5] at HO1 HR1 HB1 ⊢
    clear hw5 HO HR HB hlt
    go_wp2_with fail
    go_loopw [24] (fun iv wr => ∃ (k : Nat) (A' : Option Addr) (c' : Nat), k ≤ l.length ∧ iv = .int .i64 k ∧ Hid ((joinS (l.take k)).1 ≤ 4096) ∧ Hid (OneSoup wr w.heap.size go (.int .i64 (joinS (l.take k)).1) A' c' (joinS (l.take k)).2) ∧ Hid (Blk wr gr 24 #[.int .i64 0, .slice none 0 0]) ∧ Hid (Below w.heap.size w wr)) (fun iv _ => l.length - (intOf iv).toNat)
    case atStart => exact ⟨0, none, 0, by omega, rfl, Lib.hid (by simp [joinS]), HO1, HR1, HB1⟩
    case round =>
     obtain ⟨k, A', c', hk, rfl, HN, HOK, HRK, HBK⟩ := hrel
     obtain ⟨w6, hw6⟩ : ∃ w6 : World, w6 = wr := ⟨_, rfl⟩
     rw [← hw6] at HOK HRK HBK ⊢
     clear hw6 HO1 HR1 HB1
     by_cases hlt : k < l.length
     · obtain ⟨ad, s, rfl, hs, hadb, hc2, hst⟩ := (HT.out.below HBK.out).at_ hlt
       have hTl := HTL.out s (List.mem_of_getElem? hs)
       have hsN := HFN.out s (List.mem_of_getElem? hs)
       have HFS := Lib.hid (allFit_take HF.out hs)
       have hjb := joinS_bound l HFN.out k hk
       have hjl := HJL.out k hk
       have HJ := Lib.hid (joinS_succ l k hs)
       have HJF : Hid (4096 < (joinS (l.take k)).1 + s.N → joinL l = (0, [], 7)) := Lib.hid fun h => joinL_full HF.out (by
        have h1 := joinS_take l (fun s hs => (HFN.out s hs).1) (k + 1)
        rw [joinS_succ l k hs] at h1
        exact Int.lt_of_lt_of_le h h1)
       have HJS := Lib.hid hs
       obtain ⟨sN, sA, sc, sT⟩ := s
       obtain ⟨e0, e1, e2, e3⟩ := hc2
       simp only at e0 e1 e2 e3 hTl HFS hsN HJ HJF
       unfold joinStep at HJ
       simp only at HJ
       generalize joinS (l.take k) = r at *
       obtain ⟨rN, rT⟩ := r
       simp only at HN HOK hjb hjl HJ HJF
       have hk0 : (0 : Int) ≤ (k : Int) := by omega
       have hk1 : (k : Int) < (l.length : Int) := by omega
       have hN1 := HN.out
       clear hs hst hadb HN
       obtain ⟨w7, hw7⟩ : ∃ w7, w7 = w6.alloc (.cells #[.int .i64 sN, .slice sA sT.length sc] 24) := ⟨_, rfl⟩
       have HSB : Hid (Blk w7 w6.heap.size 24 #[.int .i64 sN, .slice sA sT.length sc]) := by subst hw7; exact Lib.hid (Blk.new _ _ _)
       have HO7 : Hid (OneSoup w7 w.heap.size go (.int .i64 rN) A' c' rT) := by subst hw7; exact Lib.hid (HOK.out.alloc _)
       have HR7 : Hid (Blk w7 gr 24 #[.int .i64 0, .slice none 0 0]) := by subst hw7; exact Lib.hid (HRK.out.alloc _)
       have HB7 : Hid (Below w.heap.size w w7) := by subst hw7; exact Lib.hid (bw_alloc HBK.out _)
       have HSN : Hid (w6.heap.size ≠ go ∧ w6.heap.size ≠ gr ∧ w.heap.size ≤ w6.heap.size) := Lib.hid ⟨by have := HOK.out.t.lt; omega, by have := HRK.out.lt; omega, HBK.out.size⟩
       have HST6 : Hid (TrisAt w w.heap.size sA sT.length sT) := Lib.hid (HT.out.tris _ (List.mem_of_getElem? HJS.out))
       have F7 := And.intro (And.intro HO7.out.cells (soup_facts HSB.out)) (soup_facts HR7.out)
       rw [hw7] at F7
       obtain ⟨⟨⟨o0, o1, _, _, _⟩, s0, s1, _, _, _⟩, r0, r1, r2, r3, _⟩ := F7
       have u1 : IntKind.i64.wrap (rN + sN) = rN + sN := by rw [IntKind.wrap_i64]; omega
       by_cases hbig : 4096 < rN + sN
       · have HQ := Lib.hid (HJF.out hbig)
         go_wp2_with fail
         rw [← hw7]
         obtain ⟨f0, f1, _, _, _⟩ := soup_facts (soup_set HR7.out (.int .i64 0) (.slice none 0 0))
         refine bodyPost_ret (v := .tuple #[.agg #[.int .i64 (0), .slice none 0 0], .int .i64 7]) ?_ rfl (pick_post HQ.out (LRow.nil _ _) (bw_set (bw_set HB7.out HGR.out _) HGR.out _))
         simp [results, Tryz.results23, go_sem, f0, f1]
       · have hlen8 : ¬ (8192 : Int) < (rT.length : Int) + (sT.length : Int) := by omega
         go_wp2_with fail
         rw [← hw7]
         generalize w6.heap.size = sb at *
         clear hw7 HOK HRK HBK e0 e1 e2 e3 o0 o1 r0 r1 r2 r3 s0 s1
         go_loopw [48] (fun qv wr => ∃ (q : Nat) (A2 : Option Addr) (c2 : Nat), q ≤ sT.length ∧ qv = .int .i64 q ∧ Hid (OneSoup wr w.heap.size go (.int .i64 rN) A2 c2 (rT ++ (sT.take q).map (shT rN))) ∧ Hid (Blk wr sb 24 #[.int .i64 sN, .slice sA sT.length sc]) ∧ Hid (Blk wr gr 24 #[.int .i64 0, .slice none 0 0]) ∧ Hid (Below w.heap.size w wr)) (fun qv _ => sT.length - (intOf qv).toNat)
         case atStart => exact ⟨0, A', c', by omega, rfl, by simpa using HO7, HSB, HR7, HB7⟩
         case round =>
          obtain ⟨q, A2, c2, hq, rfl, HOM, HSM, HRM, HBM⟩ := hrel
          obtain ⟨wm, hwm⟩ : ∃ wm : World, wm = wr := ⟨_, rfl⟩
          rw [← hwm] at HOM HSM HRM HBM ⊢
          clear hwm HO7 HSB HR7 HB7
          obtain ⟨s0, s1, _, _, _⟩ := soup_facts HSM.out
          by_cases hltq : q < sT.length
          · obtain ⟨ad3, t, e3, htq, _, hadb3, hc4⟩ := (HST6.out.below HBM.out).at_ hltq
            obtain ⟨d0, d1, d2, d3, d4, d5⟩ := hc4
            subst e3
            have hft := (fitT_iff.1 (fit_tri HFS.out hltq)).1
            rw [tri_of htq] at hft
            have HLS : Hid (rT ++ (sT.take q).map (shT rN) ++ [shT rN t] = rT ++ (sT.take (q + 1)).map (shT rN)) := Lib.hid (by rw [take_snoc_T sT q htq]; simp)
            have hLl : (rT ++ (sT.take q).map (shT rN)).length ≤ 7000 := by
             rw [List.length_append, List.length_map, List.length_take]
             have := Nat.min_le_left q sT.length
             omega
            generalize rT ++ (sT.take q).map (shT rN) = L at *
            have hq0 : (0 : Int) ≤ (q : Int) := by omega
            have hq1 : (q : Int) < (sT.length : Int) := by omega
            have a1 : IntKind.i64.wrap (t.a + rN) = t.a + rN := by rw [IntKind.wrap_i64]; omega
            have a2 : IntKind.i64.wrap (t.b + rN) = t.b + rN := by rw [IntKind.wrap_i64]; omega
            have a3 : IntKind.i64.wrap (t.c + rN) = t.c + rN := by rw [IntKind.wrap_i64]; omega
            clear htq hadb3 hft
            go_upto_region 16 with (fail)
            obtain ⟨w8, hw8⟩ : ∃ w8, w8 = wm.alloc (.cells #[.int .i64 t.a, .int .i64 t.b, .int .i64 t.c] 56) := ⟨_, rfl⟩
            have HTB : Hid (Blk w8 wm.heap.size 56 #[.int .i64 t.a, .int .i64 t.b, .int .i64 t.c]) := by subst hw8; exact Lib.hid (Blk.new _ _ _)
            have HO8 : Hid (OneSoup w8 w.heap.size go (.int .i64 rN) A2 c2 L) := by subst hw8; exact Lib.hid (HOM.out.alloc _)
            have HS8 : Hid (Blk w8 sb 24 #[.int .i64 sN, .slice (some ad3) sT.length sc]) := by subst hw8; exact Lib.hid (HSM.out.alloc _)
            have HR8 : Hid (Blk w8 gr 24 #[.int .i64 0, .slice none 0 0]) := by subst hw8; exact Lib.hid (HRM.out.alloc _)
            have HB8 : Hid (Below w.heap.size w w8) := by subst hw8; exact Lib.hid (bw_alloc HBM.out _)
            rw [← hw8]
            generalize wm.heap.size = tb at *
            clear hw8 HOM HSM HRM HBM d0 d1 d2 d3 d4 d5
            obtain ⟨x0, x1, x2⟩ := tri_cells HTB.out
            obtain ⟨o0, o1, _, _, ol⟩ := HO8.out.cells
            obtain ⟨y0, y1, _, _⟩ := (HO8.out.alloc (.cells #[.int .i64 (t.a + rN), .int .i64 (t.b + rN), .int .i64 (t.c + rN)] 56)).cells
            go_wp2_with (at_builtin; go_must (refine wpList_append_sl _ rfl (.tmp 53) (.tmp 70) _ rfl w.heap.size 56 i0 _ 3 24 Tryz.underlying22 hi0 hz0 hz1 hz2 rfl (by omega) (.slice A2 L.length c2) L.length (L.flatMap Tri.cells) rfl (HO8.out.alloc _).r.owns (w8.heap.size + 1) (some ⟨w8.heap.size, 0, none⟩) 1 1 [.int .i64 (t.a + rN), .int .i64 (t.b + rN), .int .i64 (t.c + rN)] rfl (reads_newN _ _ _ 1 3 rfl rfl) (by simp [Value.oneCell']) (by simp only [maxLen]; omega) (by omega) (bw_size (bw_alloc HB8.out _)) ?_); intro A5 c5 w5 hown5 hg5 hat5; obtain ⟨z0, z1, z2⟩ := OneSoup.facts (HO8.out.alloc _) hg5)
            have hB5 : Below w.heap.size w w5 := bw_grow (bw_alloc HB8.out _) hg5 (fun x hx => (HO8.out.r.owns.lt x hx).1)
            refine ⟨⟨q + 1, A5, c5, by omega, by go_num, Lib.hid ?_, Lib.hid ?_, Lib.hid ?_, Lib.hid (bw_set hB5 HO8.out.g _)⟩, by simp [intOf]; omega⟩
            · rw [← HLS.out]
              exact OneSoup.push (HO8.out.alloc _) hown5 (by simp) (by simp [Tri.cells, shT]) hg5
            · exact (Blk.grown (HS8.out.alloc _) hg5 (fun e => soup_tri_ne HO8.out.r HS8.out sb e.symm rfl)).far HSN.out.1 _
            · exact (Blk.grown (HR8.out.alloc _) hg5 (fun e => soup_tri_ne HO8.out.r HR8.out gr e.symm rfl)).far HGO.out.symm _
          · obtain rfl : q = sT.length := by omega
            rw [List.take_length] at HOM
            obtain ⟨o0, o1, o2, o3, ol⟩ := HOM.out.cells
            obtain ⟨s0, s1, _, _, _⟩ := soup_facts HSM.out
            go_wp2_with fail
            exact ⟨⟨k + 1, A2, c2, by omega, by go_num, Lib.hid (by rw [HJ.out]; simp only; omega), Lib.hid (by rw [HJ.out]; exact HOM.out.setN _), Lib.hid (HRM.out.far HGO.out.symm _), Lib.hid (bw_set HBM.out HOM.out.g _)⟩, by simp [intOf]; omega⟩
     · obtain rfl : k = l.length := by omega
       rw [List.take_length] at HN HOK
       have HQ := Lib.hid (joinL_ok HF.out (by have := HN.out; omega))
       generalize joinS l = r at *
       obtain ⟨rN, rT⟩ := r
       simp only at HN HOK HQ
       obtain ⟨o0, o1, _, _, _⟩ := HOK.out.cells
       obtain ⟨r0, r1, r2, r3, _⟩ := soup_facts HRK.out
       go_wp2_with fail
       obtain ⟨f0, f1, _, _, _⟩ := soup_facts (soup_set HRK.out (.int .i64 rN) (.slice A' rT.length c'))
       refine bodyPost_ret (v := .tuple #[.agg #[.int .i64 (rN), .slice A' rT.length c'], .int .i64 0]) ?_ rfl (pick_post HQ.out (HOK.out.r.soup_set HRK.out _ _) (bw_set (bw_set HBK.out HGR.out _) HGR.out _))
       simp [results, Tryz.results23, go_sem, f0, f1]
end Go.Proofs.YtiajlmajenabiaaGreat
namespace Go.Proofs.YtiajlmajenabiaaGreat
open Go.RowKit
theorem rooted_info : (Tryz.prog.info? 139).map (fun i => (i.zero, i.size, i.bytes)) = some (some (.agg #[.slice none 0 0, .int .i64 0, .slice none 0 0, .slice none 0 0, .slice none 0 0, .slice none 0 0]), 6, 128) := by kernel_rfl
theorem soup_info47 : (Tryz.prog.info? 24).map (fun i => (i.zero, i.size, i.bytes)) = some (some (.agg #[.int .i64 0, .slice none 0 0]), 2, 32) := by kernel_rfl
theorem ap_nilP (w : World) : (Builtin.append_ #[94, 94] 94 #[.slice none 0 0, .slice none 0 0]).run Tryz.prog w = .ok (.slice none 0 0) w := by kernel_rfl
theorem ap_nilI (w : World) : (Builtin.append_ #[25, 25] 25 #[.slice none 0 0, .slice none 0 0]).run Tryz.prog w = .ok (.slice none 0 0) w := by kernel_rfl
theorem surf_chk47 {m : Nat} {T : List Tri} (h : checkR (m : Int) T = (0, 0, 0)) : SurfE m T := by
 obtain ⟨k, hk⟩ := surf_of (checkR_zero (by rw [h])).1
 obtain ⟨h1, h2⟩ := surf_e.1 hk
 obtain rfl : m = k := by omega
 exact h2
theorem tab_only {w w5 W : World} {g m gb : Nat} {T : List Tri} (h : TabN w g m T) (hb : Below w.heap.size w w5) (ho : Only (fun i => i = gb) w5 W) (hg : w.heap.size ≤ gb) : TabN W g m T := h.below (hb.trans (ho.below hb.size fun k hk e => by omega))
def FormPost (w : World) (T : List Tri) (e : Ending) (w' : World) : Prop :=
 ∃ (p : List Nat) (At Ao : Option Addr) (ct co : Nat), Put T p ∧ e = .returned (.tuple #[.agg #[.int .i64 ((oldsC T (putL T p)).length : Int), .slice At (joinC T (putL T p) 0).length ct, .slice none 0 0, .slice none 0 0], .slice Ao (oldsC T (putL T p)).length co]) ∧
  LRow w' w.heap.size At ct (joinC T (putL T p) 0) ∧ IR w' w.heap.size Ao co (oldsC T (putL T p)) ∧ Below w.heap.size w w'
attribute [local irreducible] Blk World.alloc World.setCell World.cell? World.frozen? MapV MapI
theorem form_any (m : Nat) (A : Option Addr) (c : Nat) (T : List Tri) (w : World) (hs : checkR (m : Int) T = (0, 0, 0)) (hn : T.length ≤ 1000) (hk : kN T < 20) (hb : T.length * kN T ≤ 1000) (ht : TrisAt w w.heap.size A T.length T) :
  Calls Tryz.prog 56 #[.agg #[.int .i64 (m : Int), .slice A T.length c, .slice none 0 0, .slice none 0 0]] w (FormPost w T) := by
 obtain ⟨K, hKe⟩ : ∃ K, K = kN T := ⟨_, rfl⟩
 rw [← hKe] at hk hb
 have hKT : K ≤ T.length := hKe ▸ kN_le T
 have HKE := Lib.hid hKe
 have HLB := Lib.hid hb
 clear hKe hb
 obtain ⟨i0, hi0, hz0, hz1, hz2⟩ := info_parts rooted_info
 obtain ⟨i1, hi1, iz0, iz1, iz2⟩ := info_parts soup_info47
 obtain ⟨i2, hi2, jz0, jz1, jz2⟩ := info_parts int_infoC
 have HT := Lib.hid ht
 have HS := Lib.hid hs
 clear ht hs
 go_enter Tryz.func56, Tryz.ntmps56
 go_upto_region 1 with (fail)
 obtain ⟨wA, hwA⟩ : ∃ U, U = (w.alloc (.cells #[.int .i64 (m : Int), .slice A T.length c, .slice none 0 0, .slice none 0 0] 96)).alloc (.cells #[.int .i64 0, .slice none 0 0, .slice none 0 0, .slice none 0 0] 96) := ⟨_, rfl⟩
 have K1A : Hid (Blk wA w.heap.size 96 #[.int .i64 (m : Int), .slice A T.length c, .slice none 0 0, .slice none 0 0]) := by subst hwA; exact Lib.hid ((Blk.new _ _ _).alloc _)
 have K2A : Hid (Blk wA (w.heap.size + 1) 96 #[.int .i64 0, .slice none 0 0, .slice none 0 0, .slice none 0 0]) := by subst hwA; exact Lib.hid (Blk.new_ (by rw [World.size_alloc]) _ _)
 have HBA : Hid (Below w.heap.size w wA) := by subst hwA; exact Lib.hid (bw_alloc (bw_alloc (Below.refl _ _) _) _)
 rw [← hwA]
 obtain ⟨b2, hb2⟩ : ∃ b, b = w.heap.size + 1 := ⟨_, rfl⟩
 obtain ⟨b1, hb1⟩ : ∃ b, b = w.heap.size := ⟨_, rfl⟩
 have HG : Hid (w.heap.size ≤ b1 ∧ w.heap.size ≤ b2 ∧ b1 ≠ b2) := Lib.hid (by omega)
 rw [← hb2] at K2A
 rw [← hb1] at K1A
 simp only [← hb2]
 simp only [← hb1]
 have HNE := Lib.hid (new_any (m : Int) A T.length c T wA hn (tris_on HBA.out HT.out))
 have p0 : wA.cell? ⟨b1, 0, none⟩ = some (.int .i64 (m : Int)) := K1A.out.cell 0
 have p1 : wA.cell? ⟨b1, 1, none⟩ = some (.slice A T.length c) := K1A.out.cell 1
 clear hwA hb1 hb2
 go_wp2_with fail
 refine HNE.out.mono ?_
 rintro e w1 hpost
 rcases hpost with ⟨_, g, rfl, htab, hb⟩ | ⟨hne, _⟩
 case inr => exact absurd HS.out hne
 rw [show wv (0, 0, 0) = .agg #[.int .i64 0, .int .i64 0, .int .i64 0] from rfl]
 have HTN : Hid (TabN w1 g m T) := Lib.hid ⟨htab.base (Nat.zero_le _), surf_chk47 HS.out, hn⟩
 have K11 := Lib.hid (K1A.out.below hb K1A.out.lt)
 have K21 := Lib.hid (K2A.out.below hb K2A.out.lt)
 have HB1 := Lib.hid (bw_call HBA.out hb)
 clear htab hb HNE K1A K2A HBA p0 p1
 go_upto_region 2 with (fail)
 obtain ⟨w2, hw2⟩ : ∃ U, U = w1.alloc (.cells #[.int .i64 0, .int .i64 0, .int .i64 0] 43) := ⟨_, rfl⟩
 have HT2 : Hid (TabN w2 g m T) := by subst hw2; exact Lib.hid (HTN.out.alloc _)
 have K12 : Hid (Blk w2 b1 96 #[.int .i64 (m : Int), .slice A T.length c, .slice none 0 0, .slice none 0 0]) := by subst hw2; exact Lib.hid (K11.out.alloc _)
 have K22 : Hid (Blk w2 b2 96 #[.int .i64 0, .slice none 0 0, .slice none 0 0, .slice none 0 0]) := by subst hw2; exact Lib.hid (K21.out.alloc _)
 have HB2 : Hid (Below w.heap.size w w2) := by subst hw2; exact Lib.hid (bw_alloc HB1.out _)
 rw [← hw2]
 have HCN : Hid (Calls Tryz.prog 24 #[.pointer (some ⟨g, 0, none⟩)] w2 (IntPost w2 (K : Int))) := Lib.hid (by have h := count_any g m T w2 HT2.out; rw [kN_eq T, ← HKE.out] at h; exact h)
 have hmk : ∀ wx : World, (Instr.makeSlice 137 (.int .i64 (K : Int)) (.int .i64 (K : Int))).run Tryz.prog wx = .ok (.slice (some ⟨wx.heap.size, 0, none⟩) K K) (wx.alloc (.cells (madeCells #[.slice none 0 0, .int .i64 0, .slice none 0 0, .slice none 0 0, .slice none 0 0, .slice none 0 0] (K * 6)) 139)) := fun wx => by
  have := run_make_rowN (P := Tryz.prog) 137 139 i0 _ Tryz.underlying137 hi0 hz0 .i64 .i64 K K (Nat.le_refl _) (by rw [hz2]; omega) (by omega) wx
  rw [hz1] at this
  exact this
 clear hw2 HTN K11 K21 HB1
 go_wp2_with fail
 refine HCN.out.mono ?_
 rintro e w3 ⟨rfl, hb⟩
 have HT3 := Lib.hid (HT2.out.below hb)
 have K13 := Lib.hid (K12.out.below hb K12.out.lt)
 have K23 := Lib.hid (K22.out.below hb K22.out.lt)
 have HB3 := Lib.hid (bw_call HB2.out hb)
 clear hb HCN HT2 K12 K22 HB2
 go_upto_region 3 with (fail)
 obtain ⟨w4, hw4⟩ : ∃ U, U = w3.alloc (.cells (madeCells #[.slice none 0 0, .int .i64 0, .slice none 0 0, .slice none 0 0, .slice none 0 0, .slice none 0 0] (K * 6)) 139) := ⟨_, rfl⟩
 have HT4 : Hid (TabN w4 g m T) := by subst hw4; exact Lib.hid (HT3.out.alloc _)
 have K14 : Hid (Blk w4 b1 96 #[.int .i64 (m : Int), .slice A T.length c, .slice none 0 0, .slice none 0 0]) := by subst hw4; exact Lib.hid (K13.out.alloc _)
 have K24 : Hid (Blk w4 b2 96 #[.int .i64 0, .slice none 0 0, .slice none 0 0, .slice none 0 0]) := by subst hw4; exact Lib.hid (K23.out.alloc _)
 have G4 : Hid (Blk w4 w3.heap.size 139 (madeCells #[.slice none 0 0, .int .i64 0, .slice none 0 0, .slice none 0 0, .slice none 0 0, .slice none 0 0] (K * 6))) := by subst hw4; exact Lib.hid (Blk.new _ _ _)
 have HB4 : Hid (Below w.heap.size w w4) := by subst hw4; exact Lib.hid (bw_alloc HB3.out _)
 have HGB : Hid (w.heap.size ≤ w3.heap.size) := Lib.hid HB3.out.size
 rw [← hw4]
 obtain ⟨gb, hgb⟩ : ∃ b, b = w3.heap.size := ⟨_, rfl⟩
 have HG3 : Hid (w3.heap.size ≤ gb) := Lib.hid (by omega)
 have HB34 : Hid (Below w3.heap.size w3 w4) := by subst hw4; exact Lib.hid (bw_alloc (Below.refl _ _) _)
 rw [← hgb] at G4 HGB
 simp only [← hgb]
 have HOF := Lib.hid (of_any g m T w4 HT4.out)
 clear hw4 hgb K13 K23 HB3 hmk
 go_wp2_with fail
 refine HOF.out.mono ?_
 rintro e w5 ⟨AO, cO, rfl, hr, hb⟩
 have HT5 := Lib.hid (HT4.out.below hb)
 have HB35 := Lib.hid (bw_call HB34.out hb)
 have K15 := Lib.hid (K14.out.below hb K14.out.lt)
 have K25 := Lib.hid (K24.out.below hb K24.out.lt)
 have G5 := Lib.hid (G4.out.below hb G4.out.lt)
 have HB5 := Lib.hid (bw_call HB4.out hb)
 have HR5 : Hid (IR w5 w4.heap.size AO cO (natL ((List.range T.length).map (ofN T)))) := Lib.hid (by rw [← ofL_nat]; exact hr)
 have HGB2 : Hid (w.heap.size ≤ gb) := HGB
 have HN1 : Hid (b1 ≠ gb) := Lib.hid (K15.out.ne_ G5.out (by decide))
 have HN2 : Hid (b2 ≠ gb) := Lib.hid (K25.out.ne_ G5.out (by decide))
 have HNR : Hid ((Value.slice AO (natL ((List.range T.length).map (ofN T))).length cO).ownBlock ≠ some gb) := Lib.hid (own_blk_ne HR5.out G5.out (by decide))
 have HBA : Hid (BAt w5 T gb K (bestF T 0) w5) := Lib.hid (BAt.start G5.out)
 have HSZ : Hid (w.heap.size ≤ w5.heap.size) := Lib.hid HB5.out.size
 clear hr hb HB34 HOF HT4 K14 K24 G4 HB4
 go_wp2_with fail
 go_loopw [7, 8, 9, 10, 28] (fun _ _ _ _ kv wr => ∃ i : Nat, i ≤ T.length ∧ kv = .int .i64 (i : Int) ∧ Hid (BAt w5 T gb K (bestF T (3 * i)) wr)) (fun _ _ _ _ kv _ => T.length - (intOf kv).toNat)
 case atStart => exact ⟨0, by omega, rfl, HBA⟩
 case round =>
  obtain ⟨i, hi, rfl, GE⟩ := hrel
  obtain ⟨wE, hwE⟩ : ∃ wE : World, wE = wr := ⟨_, rfl⟩
  rw [← hwE] at GE ⊢
  clear hwE HBA
  by_cases hil : i < T.length
  · have hR : IR wE w4.heap.size AO cO (natL ((List.range T.length).map (ofN T))) := own_only HR5.out GE.out.b HNR.out
    obtain ⟨gO, hgO, y⟩ := ir_at hR (show i < ((List.range T.length).map (ofN T)).length by simpa using hil)
    rw [ofN_getD T hil] at y
    obtain ⟨k, hk2⟩ : ∃ k, k = ofN T i := ⟨_, rfl⟩
    have hkK : k < K := by rw [hk2, HKE.out]; exact ofN_lt hil
    rw [← hk2] at y
    have HQ := Lib.hid hk2
    have hii : (i : Int) < (T.length : Int) := by omega
    have hki : (k : Int) < (K : Int) := by omega
    clear hR hk2
    subst hgO
    go_wp2_with fail
    go_loopw [9, 10] (fun cv _ wr => ∃ q : Nat, q ≤ 3 ∧ cv = .int .i64 ((3 * i + q : Nat) : Int) ∧ Hid (BAt w5 T gb K (bestF T (3 * i + q)) wr)) (fun cv _ _ => 3 * i + 3 - (intOf cv).toNat)
    case atStart => exact ⟨0, by omega, by go_num, GE⟩
    case round =>
     obtain ⟨q, hq, rfl, GF⟩ := hrel
     obtain ⟨wF, hwF⟩ : ∃ wF : World, wF = wr := ⟨_, rfl⟩
     rw [← hwF] at GF ⊢
     clear hwF GE
     obtain ⟨d, hd⟩ : ∃ d, d = 3 * i + q := ⟨_, rfl⟩
     rw [← hd] at GF ⊢
     have u1 : IntKind.i64.wrap (3 * (i : Int)) = 3 * (i : Int) := by rw [IntKind.wrap_i64]; omega
     have u2 : IntKind.i64.wrap (3 * (i : Int) + 3) = 3 * (i : Int) + 3 := by rw [IntKind.wrap_i64]; omega
     have u3 : IntKind.i64.wrap ((d : Int) + 1) = (d : Int) + 1 := by rw [IntKind.wrap_i64]; omega
     have HD := Lib.hid hd
     by_cases hq3 : q < 3
     · have hdi : (d : Int) < 3 * (i : Int) + 3 := by omega
       have K1F := Lib.hid (K15.out.only GF.out.b HN1.out)
       have c0 := K1F.out.cell 0
       have c1 := K1F.out.cell 1
       have c2 := K1F.out.cell 2
       have c3 := K1F.out.cell 3
       have hd3 : d < 3 * T.length := by omega
       clear hd
       have HFR := Lib.hid (from_any g m T d (.int .i64 (m : Int)) (.slice A T.length c) wF hd3 (tab_only HT3.out HB35.out GF.out.b HG3.out))
       simp at c0 c1 c2 c3
       go_wp2_with fail
       refine HFR.out.mono ?_
       rintro e wG ⟨Ar, At, Ao, cr, ct, co, rfl, hr, hl, ho, hb⟩
       have GG := Lib.hid (GF.out.below hb)
       have HRr := Lib.hid (own_low (B := w5.heap.size) hr GF.out.b.size)
       have HRl := Lib.hid (LRow.base hl GF.out.b.size)
       have HRo := Lib.hid (own_low (B := w5.heap.size) ho GF.out.b.size)
       clear hr hl ho hb HFR GF K1F c0 c1 c2 c3
       obtain ⟨nr, hnr⟩ : ∃ n, n = (rowC T d).length := ⟨_, rfl⟩
       obtain ⟨nl, hnl⟩ : ∃ n, n = (rootT T d).length := ⟨_, rfl⟩
       obtain ⟨no, hno⟩ : ∃ n, n = (rootO T d).length := ⟨_, rfl⟩
       rw [← hnr, ← hnl, ← hno]
       have HNr := Lib.hid hnr
       have HNl := Lib.hid hnl
       have HNo := Lib.hid hno
       clear hnr hnl hno
       go_upto_region 10 with (fail)
       obtain ⟨wH, hwH⟩ : ∃ U, U = wG.alloc (.cells #[.slice Ar nr cr, .int .i64 (no : Int), .slice At nl ct, .slice none 0 0, .slice none 0 0, .slice Ao no co] 139) := ⟨_, rfl⟩
       have KXwH : Hid (Blk wH wG.heap.size 139 #[.slice Ar nr cr, .int .i64 (no : Int), .slice At nl ct, .slice none 0 0, .slice none 0 0, .slice Ao no co]) := by subst hwH; exact Lib.hid (Blk.new _ _ _)
       have GAwH : Hid (BAt w5 T gb K (bestF T d) wH) := by subst hwH; exact Lib.hid (GG.out.alloc _)
       have RrwH : Hid (IR wH w5.heap.size Ar cr (rowC T d)) := by subst hwH; exact Lib.hid (IR.alloc HRr.out _)
       have RlwH : Hid (LRow wH w5.heap.size At ct (rootT T d)) := by subst hwH; exact Lib.hid (LRow.alloc HRl.out _)
       have RowH : Hid (IR wH w5.heap.size Ao co (rootO T d)) := by subst hwH; exact Lib.hid (IR.alloc HRo.out _)
       rw [← hwH]
       obtain ⟨bx, hbx⟩ : ∃ b, b = wG.heap.size := ⟨_, rfl⟩
       rw [← hbx] at KXwH
       simp only [← hbx]
       have HBwH : Hid (Below wH.heap.size wH wH) := Lib.hid (Below.refl _ _)
       clear hwH hbx GG HRr HRl HRo
       cases hf : bestF T d k with
       | none =>
        have CBwH : Hid (CellQ wH ⟨gb, k * 6, none⟩ (.slice none 0 0)) := Lib.hid ⟨GAwH.out.at_none hkK hf, GAwH.out.lt⟩
        have HPK : Hid (updF (bestF T d) k (pickB T d (bestF T d k)) = updF (bestF T d) k (some d)) := Lib.hid (by rw [hf]; rfl)
        clear hf
        refine wp_region_held_drew (S := fun w' => w'.cell? ⟨gb, k * 6, none⟩ = some (.slice none 0 0)) (by kernel_rfl) (CBwH.out.drew.c) (fun hHeld => ?_)
        refine hKk 0 ?_; (try simp only [zQ])
        refine hKk 1 ?_; (try simp only [zQ])
        refine hKk 2 ?_; (try simp only [zQ])
        refine hKk 3 ?_; (try simp only [zQ])
        refine hKk 4 ?_; (try simp only [zQ])
        refine hKk 5 ?_; (try simp only [zQ])
        refine hKk 6 ?_; (try simp only [zQ])
        refine hKk 7 ?_; (try simp only [zQ])
        refine hRk 8 ?_; (try simp only [zQ])
        refine hRk 9 ?_; (try simp only [zQ])
        refine hRk 10 ?_; (try simp only [zQ])
        refine hRk 11 ?_; (try simp only [zQ])
        refine hRk 12 ?_; (try simp only [zQ])
        refine hRk 13 ?_; (try simp only [zQ])
        refine hRk 14 ?_; (try simp only [zQ])
        refine hRk 15 ?_; (try simp only [zQ])
        refine hRk 16 ?_; (try simp only [zQ])
        refine hKk 17 ?_; (try simp only [zQ])
        refine wpAnyH_done (by kernel_rfl) ?_ _
        have q0 : wH.cell? ⟨bx, 0, none⟩ = some (.slice Ar nr cr) := KXwH.out.cell 0
        have q1 : wH.cell? ⟨bx, 1, none⟩ = some (.int .i64 (no : Int)) := KXwH.out.cell 1
        have q2 : wH.cell? ⟨bx, 2, none⟩ = some (.slice At nl ct) := KXwH.out.cell 2
        have q3 : wH.cell? ⟨bx, 3, none⟩ = some (.slice none 0 0) := KXwH.out.cell 3
        have q4 : wH.cell? ⟨bx, 4, none⟩ = some (.slice none 0 0) := KXwH.out.cell 4
        have q5 : wH.cell? ⟨bx, 5, none⟩ = some (.slice Ao no co) := KXwH.out.cell 5
        obtain ⟨vv, hs, _⟩ := GAwH.out.ex
        have y0 : wH.cell? ⟨gb, k * 6, none⟩ = some (vv k 0) := hs.cell hkK (j := 0) (by decide)
        have y1 := hs.cell hkK (j := 1) (by decide)
        have y2 := hs.cell hkK (j := 2) (by decide)
        have y3 := hs.cell hkK (j := 3) (by decide)
        have y4 := hs.cell hkK (j := 4) (by decide)
        have y5 := hs.cell hkK (j := 5) (by decide)
        have f0 := hs.frozen (k * 6)
        have f1 := hs.frozen (k * 6 + 1)
        have f2 := hs.frozen (k * 6 + 2)
        have f3 := hs.frozen (k * 6 + 3)
        have f4 := hs.frozen (k * 6 + 4)
        have f5 := hs.frozen (k * 6 + 5)
        have GP := Lib.hid (GAwH.out.put hkK (i := d) RrwH.out RlwH.out RowH.out)
        rw [← HNr.out, ← HNl.out, ← HNo.out] at GP
        go_wp2_with fail
        go_roundw
        case rel => exact ⟨q + 1, by omega, by rw [show ((3 * i + (q + 1) : Nat) : Int) = (d : Int) + 1 by have := HD.out; omega], Lib.hid (by rw [show 3 * i + (q + 1) = d + 1 by have := HD.out; omega, bestF, show d / 3 = i by rw [HD.out]; omega, ← HQ.out, HPK.out]; exact GP.out.drew)⟩
        case measure => simp [intOf]; omega
       | some b =>
        obtain ⟨A2, c2, hcb, hrb⟩ := GAwH.out.at_some hkK hf
        obtain ⟨nb, hnb⟩ : ∃ n, n = (rowC T b).length := ⟨_, rfl⟩
        have hnb0 : ((nb : Int) == 0) = false := by
         have : 2 ≤ nb := by rw [hnb]; unfold rowC rowL; simp
         simp; omega
        obtain ⟨z, hz⟩ : ∃ z, z = cmpL (rowC T d) (rowC T b) := ⟨_, rfl⟩
        have HCM : Hid (∀ W, Below wH.heap.size wH W → Calls Tryz.prog 55 #[.slice Ar nr cr, .slice A2 nb c2] W (IntPost W z)) := Lib.hid fun W hW => by
         rw [HNr.out, hnb, hz]
         exact (cmpL_any W _ _ Ar A2 cr c2 _ _ (IR.below RrwH.out hW) (IR.below hrb hW)).mono fun e w' h => ⟨h.1, by rw [h.2]; exact Below.refl _ _⟩
        rw [← hnb] at hcb
        have CBwH : Hid (CellQ wH ⟨gb, k * 6, none⟩ (.slice A2 nb c2)) := Lib.hid ⟨hcb, GAwH.out.lt⟩
        have HPB : Hid (bestF T d k = some b) := Lib.hid hf
        clear hcb hrb hnb hf
        by_cases hzl : z < 0
        · have HPK : Hid (updF (bestF T d) k (pickB T d (bestF T d k)) = updF (bestF T d) k (some d)) := Lib.hid (by rw [HPB.out]; unfold pickB; dsimp only; rw [if_pos (hz ▸ hzl)])
          clear hz
          refine wp_region_held_drew (S := fun w' => w'.cell? ⟨gb, k * 6, none⟩ = some (.slice A2 nb c2) ∧ w'.cell? ⟨bx, 0, none⟩ = some (.slice Ar nr cr)) (by kernel_rfl) ⟨(CBwH.out.drew.c), (KXwH.out.drew.cell 0)⟩ (fun hHeld => ?_)
          refine hKk 0 ?_; (try simp only [zQ])
          refine hKk 1 ?_; (try simp only [zQ])
          refine hKk 2 ?_; (try simp only [zQ])
          refine hKk 3 ?_; (try simp only [zQ])
          refine hKk 4 ?_; (try simp only [zQ])
          refine hKk 5 ?_; (try simp only [zQ])
          refine hKk 6 ?_; (try simp only [zQ])
          refine hKk 7 ?_; (try simp only [zQ])
          refine hKk 8 ?_; (try simp only [zQ])
          refine hKk 9 ?_; (try simp only [zQ])
          refine hKk 10 ?_; (try simp only [zQ])
          refine hKk 11 ?_; (try simp only [zQ])
          refine hKk 12 ?_; (try simp only [zQ])
          refine hKk 13 ?_; (try simp only [zQ])
          refine hKk 14 ?_; (try simp only [zQ])
          refine wpAnyH_ready (rs := [15]) (by kernel_rfl) (by simp) ?_
          refine held_cons rfl (fun K hK => ?_) ?_
          · go_simp
            go_wp2_with (go_at_call 55; refine (HCM.out wH.drew (bw_drew HBwH.out)).mono ?_; rintro e v3 ⟨rfl, hb⟩)
            have CBv3 := Lib.hid (CBwH.out.drew.below hb)
            have KXv3 := Lib.hid (blk_call KXwH.out.drew hb)
            have GAv3 := Lib.hid (GAwH.out.drew.below hb)
            have Rrv3 := Lib.hid (RrwH.out.drew.below hb)
            have Rlv3 := Lib.hid (RlwH.out.drew.below hb)
            have Rov3 := Lib.hid (RowH.out.drew.below hb)
            have HBv3 := Lib.hid (bw_call (bw_drew HBwH.out) hb)
            clear hb
            refine hK.out _ _ ?_ (fun hHeld => ?_)
            · exact ⟨(CBv3.out.c), (KXv3.out.cell 0)⟩
            clear hK K
            (try simp only [zQ])
            refine hKk 16 ?_; (try simp only [zQ])
            refine hKk 17 ?_; (try simp only [zQ])
            refine wpAnyH_done (by kernel_rfl) ?_ _
            have q0 : v3.cell? ⟨bx, 0, none⟩ = some (.slice Ar nr cr) := KXv3.out.cell 0
            have q1 : v3.cell? ⟨bx, 1, none⟩ = some (.int .i64 (no : Int)) := KXv3.out.cell 1
            have q2 : v3.cell? ⟨bx, 2, none⟩ = some (.slice At nl ct) := KXv3.out.cell 2
            have q3 : v3.cell? ⟨bx, 3, none⟩ = some (.slice none 0 0) := KXv3.out.cell 3
            have q4 : v3.cell? ⟨bx, 4, none⟩ = some (.slice none 0 0) := KXv3.out.cell 4
            have q5 : v3.cell? ⟨bx, 5, none⟩ = some (.slice Ao no co) := KXv3.out.cell 5
            obtain ⟨vv, hs, _⟩ := GAv3.out.ex
            have y0 : v3.cell? ⟨gb, k * 6, none⟩ = some (vv k 0) := hs.cell hkK (j := 0) (by decide)
            have y1 := hs.cell hkK (j := 1) (by decide)
            have y2 := hs.cell hkK (j := 2) (by decide)
            have y3 := hs.cell hkK (j := 3) (by decide)
            have y4 := hs.cell hkK (j := 4) (by decide)
            have y5 := hs.cell hkK (j := 5) (by decide)
            have f0 := hs.frozen (k * 6)
            have f1 := hs.frozen (k * 6 + 1)
            have f2 := hs.frozen (k * 6 + 2)
            have f3 := hs.frozen (k * 6 + 3)
            have f4 := hs.frozen (k * 6 + 4)
            have f5 := hs.frozen (k * 6 + 5)
            have GP := Lib.hid (GAv3.out.put hkK (i := d) Rrv3.out Rlv3.out Rov3.out)
            rw [← HNr.out, ← HNl.out, ← HNo.out] at GP
            go_wp2_with fail
            go_roundw
            case rel => exact ⟨q + 1, by omega, by rw [show ((3 * i + (q + 1) : Nat) : Int) = (d : Int) + 1 by have := HD.out; omega], Lib.hid (by rw [show 3 * i + (q + 1) = d + 1 by have := HD.out; omega, bestF, show d / 3 = i by rw [HD.out]; omega, ← HQ.out, HPK.out]; exact GP.out)⟩
            case measure => simp [intOf]; omega
          exact AllReadyH.nil
        · have HPK : Hid (updF (bestF T d) k (pickB T d (bestF T d k)) = bestF T d) := Lib.hid (by rw [HPB.out]; unfold pickB; dsimp only; rw [if_neg (hz ▸ hzl), ← HPB.out, updF_self])
          clear hz
          refine wp_region_held_drew (S := fun w' => w'.cell? ⟨gb, k * 6, none⟩ = some (.slice A2 nb c2) ∧ w'.cell? ⟨bx, 0, none⟩ = some (.slice Ar nr cr)) (by kernel_rfl) ⟨(CBwH.out.drew.c), (KXwH.out.drew.cell 0)⟩ (fun hHeld => ?_)
          refine hKk 0 ?_; (try simp only [zQ])
          refine hKk 1 ?_; (try simp only [zQ])
          refine hKk 2 ?_; (try simp only [zQ])
          refine hKk 3 ?_; (try simp only [zQ])
          refine hKk 4 ?_; (try simp only [zQ])
          refine hKk 5 ?_; (try simp only [zQ])
          refine hKk 6 ?_; (try simp only [zQ])
          refine hKk 7 ?_; (try simp only [zQ])
          refine hKk 8 ?_; (try simp only [zQ])
          refine hKk 9 ?_; (try simp only [zQ])
          refine hKk 10 ?_; (try simp only [zQ])
          refine hKk 11 ?_; (try simp only [zQ])
          refine hKk 12 ?_; (try simp only [zQ])
          refine hKk 13 ?_; (try simp only [zQ])
          refine hKk 14 ?_; (try simp only [zQ])
          refine wpAnyH_ready (rs := [15]) (by kernel_rfl) (by simp) ?_
          refine held_cons rfl (fun K hK => ?_) ?_
          · go_simp
            go_wp2_with (go_at_call 55; refine (HCM.out wH.drew (bw_drew HBwH.out)).mono ?_; rintro e v3 ⟨rfl, hb⟩)
            have CBv3 := Lib.hid (CBwH.out.drew.below hb)
            have KXv3 := Lib.hid (blk_call KXwH.out.drew hb)
            have GAv3 := Lib.hid (GAwH.out.drew.below hb)
            have Rrv3 := Lib.hid (RrwH.out.drew.below hb)
            have Rlv3 := Lib.hid (RlwH.out.drew.below hb)
            have Rov3 := Lib.hid (RowH.out.drew.below hb)
            have HBv3 := Lib.hid (bw_call (bw_drew HBwH.out) hb)
            clear hb
            refine hK.out _ _ ?_ (fun hHeld => ?_)
            · exact ⟨(CBv3.out.c), (KXv3.out.cell 0)⟩
            clear hK K
            (try simp only [zQ])
            refine hKk 16 ?_; (try simp only [zQ])
            refine hKk 17 ?_; (try simp only [zQ])
            refine wpAnyH_done (by kernel_rfl) ?_ _
            go_wp2_with fail
            go_roundw
            case rel => exact ⟨q + 1, by omega, by rw [show ((3 * i + (q + 1) : Nat) : Int) = (d : Int) + 1 by have := HD.out; omega], Lib.hid (by rw [show 3 * i + (q + 1) = d + 1 by have := HD.out; omega, bestF, show d / 3 = i by rw [HD.out]; omega, ← HQ.out, HPK.out]; exact GAv3.out)⟩
            case measure => simp [intOf]; omega
          exact AllReadyH.nil
     · obtain rfl : q = 3 := by omega
       have hdi : ¬ (d : Int) < 3 * (i : Int) + 3 := by omega
       have HG2 : Hid (BAt w5 T gb K (bestF T (3 * (i + 1))) wF) := Lib.hid (by rw [show 3 * (i + 1) = d by have := HD.out; omega]; exact GF.out)
       clear hd GF
       go_wp2_with fail
       go_roundw
       case rel => exact ⟨i + 1, by omega, by go_num, HG2⟩
       case measure => simp [intOf]; omega
  · obtain rfl : i = T.length := by omega
    have hrows := BAt.rows (w := w5) (W := wE) (T := T) (gb := gb) (by rw [← HKE.out]; exact GE.out)
    rw [← HKE.out] at hrows
    obtain ⟨v, hs, hR, hv⟩ := hrows
    have HSO := Lib.hid (sortStable_any w5.heap.size gb K v _ wE hk hs hR)
    have HSV := Lib.hid hv
    have HSA := Lib.hid hs
    clear hs hR hv
    go_wp2_with fail
    refine HSO.out.mono ?_
    rintro e wS ⟨rfl, p, hp, hsS, hup, hoS⟩
    have hPT : Put T p := put_of (by rw [← HKE.out]; exact hp) (by rw [← HKE.out]; exact hup)
    have hpl : p.length = K := by rw [hp.length_eq, List.length_range]
    obtain ⟨sp, qq, uu, hO⟩ := outs_of (b := fun j => bestN T (p.getD j 0)) hsS fun j hj => by
     refine (HSV.out _ ?_).only HSA.out hoS
     have h1 : p.getD j 0 ∈ p := by
      rw [List.getD, List.getElem?_eq_getElem (by omega)]
      exact List.getElem_mem _
     exact List.mem_range.1 (hp.mem_iff.1 h1)
    have HLT : Hid (∀ j, j < K → bestN T (p.getD j 0) < 3 * T.length) := Lib.hid fun j hj => put_lt hPT (by rw [← HKE.out]; exact hj)
    have HPL : Hid (putL T p = (List.range K).map fun j => bestN T (p.getD j 0)) := Lib.hid (by rw [HKE.out]; exact put_list hPT)
    obtain ⟨bf, hbf⟩ : ∃ bf : Nat → Nat, bf = fun j => bestN T (p.getD j 0) := ⟨_, rfl⟩
    rw [← hbf] at hO HPL
    have HLB2 : Hid (∀ j, j < K → bf j < 3 * T.length) := Lib.hid fun j hj => by rw [hbf]; exact HLT.out j hj
    have HPT := Lib.hid hPT
    have K2S : Hid (Blk wS b2 96 #[.int .i64 0, .slice none 0 0, .slice none 0 0, .slice none 0 0]) := Lib.hid (K25.out.only (GE.out.b.trans hoS) HN2.out)
    have HBS : Hid (Below w.heap.size w wS) := Lib.hid (HB5.out.trans ((GE.out.b.trans hoS).below HSZ.out fun k hk e => by have := HGB2.out; omega))
    have HOS := Lib.hid hO
    clear hp hsS hup hoS hPT hpl hO hbf HLT HSO HSV HSA GE
    go_upto_region 17 with (fail)
    obtain ⟨wT, hwT⟩ : ∃ U, U = wS.alloc (.cells #[.int .i64 0, .slice none 0 0, .slice none 0 0, .slice none 0 0] 96) := ⟨_, rfl⟩
    have K3T : Hid (Blk wT wS.heap.size 96 #[.int .i64 0, .slice none 0 0, .slice none 0 0, .slice none 0 0]) := by subst hwT; exact Lib.hid (Blk.new _ _ _)
    have HBT : Hid (Below wS.heap.size wS wT) := by subst hwT; exact Lib.hid (bw_alloc (Below.refl _ _) _)
    rw [← hwT]
    obtain ⟨b11, hb11⟩ : ∃ b, b = wS.heap.size := ⟨_, rfl⟩
    have HN11 : Hid (wS.heap.size ≤ b11) := Lib.hid (by omega)
    rw [← hb11] at K3T
    simp only [← hb11]
    clear hwT hb11
    go_wp2_with fail
    go_loopw [12, 13, 15, 73] (fun v12 v13 _ kv wr => ∃ (j no : Nat) (Aa Ao : Option Addr) (ca co : Nat), j ≤ K ∧ v12 = .slice Ao no co ∧ v13 = .slice Aa j ca ∧ kv = .int .i64 (j : Int) ∧ Hid (no = (oldsC T ((List.range j).map bf)).length) ∧
     Hid (wr.ownsRow wS.heap.size 24 2 (.slice Aa j ca) j (((List.range j).map sp).flatMap Sp.cells)) ∧ Hid (IR wr wS.heap.size Ao co (oldsC T ((List.range j).map bf))) ∧ Hid (Blk wr b11 96 #[.int .i64 0, .slice none 0 0, .slice none 0 0, .slice none 0 0]) ∧ Hid (Below wS.heap.size wS wr)) (fun _ _ _ kv _ => K - (intOf kv).toNat)
    case atStart => exact ⟨0, 0, none, none, 0, 0, by omega, rfl, rfl, rfl, Lib.hid rfl, Lib.hid (World.ownsRow_nil _ _ _ _), Lib.hid (IR.nil _ _), K3T, HBT⟩
    case round =>
     clear K3T HBT
     obtain ⟨j, no, Aa, Ao, ca, co, hj, rfl, rfl, rfl, HNO, HAA, HAO, K3r, HBr⟩ := hrel
     obtain ⟨wU, hwU⟩ : ∃ wU : World, wU = wr := ⟨_, rfl⟩
     rw [← hwU] at HAA HAO K3r HBr ⊢
     clear hwU
     by_cases hjK : j < K
     · have hji : (j : Int) < (K : Int) := by omega
       have HOU := HOS.out.below HBr.out
       have y0 : wU.cell? ⟨gb, j * 6, none⟩ = some (.slice (uu j).1 (uu j).2.1 (uu j).2.2) := HOU.s.cell hjK (j := 0) (by decide)
       have y1 : wU.cell? ⟨gb, j * 6 + 1, none⟩ = some (.int .i64 (sp j).N) := HOU.s.cell hjK (j := 1) (by decide)
       have y2 : wU.cell? ⟨gb, j * 6 + 2, none⟩ = some (.slice (sp j).A (sp j).T.length (sp j).c) := HOU.s.cell hjK (j := 2) (by decide)
       have y3 : wU.cell? ⟨gb, j * 6 + 3, none⟩ = some (.slice none 0 0) := HOU.s.cell hjK (j := 3) (by decide)
       have y4 : wU.cell? ⟨gb, j * 6 + 4, none⟩ = some (.slice none 0 0) := HOU.s.cell hjK (j := 4) (by decide)
       have y5 : wU.cell? ⟨gb, j * 6 + 5, none⟩ = some (.slice (qq j).1 (rootO T (bf j)).length (qq j).2) := HOU.s.cell hjK (j := 5) (by decide)
       have HRO := Lib.hid (HOU.o j hjK)
       clear HOU
       obtain ⟨s1, hs1⟩ : ∃ s, s = sp j := ⟨_, rfl⟩
       obtain ⟨q1, hq1⟩ : ∃ s, s = qq j := ⟨_, rfl⟩
       obtain ⟨l1, hl1⟩ : ∃ s, s = (rootO T (bf j)).length := ⟨_, rfl⟩
       obtain ⟨nt, hnt⟩ : ∃ s, s = s1.T.length := ⟨_, rfl⟩
       rw [← hs1] at y1 y2
       rw [← hnt] at y2
       rw [← hq1, ← hl1] at y5
       rw [← hq1] at HRO
       obtain ⟨Aq, cq⟩ := q1
       obtain ⟨u1, hu1⟩ : ∃ s, s = uu j := ⟨_, rfl⟩
       rw [← hu1] at y0
       obtain ⟨Au, nu, cu⟩ := u1
       dsimp only at y0
       clear hu1
       have HS1 := Lib.hid hs1
       have HL1 := Lib.hid hl1
       have HNT := Lib.hid hnt
       dsimp only at y5 HRO
       clear hs1 hq1 hl1 hnt
       go_upto_region 20 with (fail)
       obtain ⟨wV, hwV⟩ : ∃ U, U = wU.alloc (.cells #[.slice Au nu cu, .int .i64 s1.N, .slice s1.A nt s1.c, .slice none 0 0, .slice none 0 0, .slice Aq l1 cq] 139) := ⟨_, rfl⟩
       have KXV : Hid (Blk wV wU.heap.size 139 #[.slice Au nu cu, .int .i64 s1.N, .slice s1.A nt s1.c, .slice none 0 0, .slice none 0 0, .slice Aq l1 cq]) := by subst hwV; exact Lib.hid (Blk.new _ _ _)
       have K3V : Hid (Blk wV b11 96 #[.int .i64 0, .slice none 0 0, .slice none 0 0, .slice none 0 0]) := by subst hwV; exact Lib.hid (K3r.out.alloc _)
       have HAV : Hid (wV.ownsRow wS.heap.size 24 2 (.slice Aa j ca) j (((List.range j).map sp).flatMap Sp.cells)) := by subst hwV; exact Lib.hid (own_same HAA.out fun k hk => Below.heap_alloc _ _ _ (World.ownsRow.lt HAA.out k hk).2)
       have HOV : Hid (IR wV wS.heap.size Ao co (oldsC T ((List.range j).map bf))) := by subst hwV; exact Lib.hid (IR.alloc HAO.out _)
       have HRV : Hid (IR wV w5.heap.size Aq cq (rootO T (bf j))) := by subst hwV; exact Lib.hid (IR.alloc HRO.out _)
       have HBV : Hid (Below wS.heap.size wS wV) := by subst hwV; exact Lib.hid (bw_alloc HBr.out _)
       have HXG : Hid (wS.heap.size ≤ wU.heap.size) := Lib.hid HBr.out.size
       rw [← hwV]
       obtain ⟨bx, hbx⟩ : ∃ b, b = wU.heap.size := ⟨_, rfl⟩
       rw [← hbx] at KXV HXG
       simp only [← hbx]
       clear hwV hbx HAA HAO K3r HBr HRO y0 y1 y2 y3 y4 y5
       have z0 := KXV.out.cell 0
       have z1 := KXV.out.cell 1
       have z2 := KXV.out.cell 2
       have z3 := KXV.out.cell 3
       have z4 := KXV.out.cell 4
       have z5 := KXV.out.cell 5
       simp at z0 z1 z2 z3 z4 z5
       go_upto_region 21 with (at_builtin; go_must (refine wpList_append_sl _ rfl (.tmp 77) (.tmp 81) _ rfl wS.heap.size 24 i1 _ 2 32 Tryz.underlying86 hi1 iz0 iz1 iz2 rfl (by omega) (.slice Aa j ca) j (((List.range j).map sp).flatMap Sp.cells) rfl (own_same HAV.out fun k hk => Below.heap_alloc _ _ _ (World.ownsRow.lt HAV.out k hk).2) (wV.heap.size + 1) (some ⟨wV.heap.size, 0, none⟩) 1 1 [.int .i64 s1.N, .slice s1.A nt s1.c] rfl (reads_newN _ _ _ 1 2 rfl rfl) (by simp [Value.oneCell']) (by simp only [maxLen]; omega) (by omega) (bw_size (bw_alloc HBV.out _)) ?_); intro A5 c5 wW hown5 hg5 hat5)
       have KXW : Hid (Blk wW bx 139 #[.slice Au nu cu, .int .i64 s1.N, .slice s1.A nt s1.c, .slice none 0 0, .slice none 0 0, .slice Aq l1 cq]) := Lib.hid (Blk.grown (KXV.out.alloc _) hg5 fun e => own_blk_ne HAV.out KXV.out (by decide) e.symm)
       have K3W : Hid (Blk wW b11 96 #[.int .i64 0, .slice none 0 0, .slice none 0 0, .slice none 0 0]) := Lib.hid (Blk.grown (K3V.out.alloc _) hg5 fun e => own_blk_ne HAV.out K3V.out (by decide) e.symm)
       have HAW : Hid (wW.ownsRow wS.heap.size 24 2 (.slice A5 (j + 1) c5) (j + 1) (((List.range (j + 1)).map sp).flatMap Sp.cells)) := Lib.hid (by
        rw [List.range_succ, List.map_append, List.flatMap_append, List.map_singleton, List.flatMap_singleton, ← HS1.out, Sp.cells, ← HNT.out]
        exact hown5)
       have HOW : Hid (IR wW wS.heap.size Ao co (oldsC T ((List.range j).map bf))) := Lib.hid (own_grow2 (own_up HOV.out _) hg5 (own_up HAV.out _) (by decide))
       have HRW : Hid (IR wW w5.heap.size Aq cq (rootO T (bf j))) := Lib.hid (own_grow2 (own_up HRV.out _) hg5 (own_up HAV.out _) (by decide))
       have HBW : Hid (Below wS.heap.size wS wW) := Lib.hid (bw_grow (bw_alloc HBV.out _) hg5 fun x hx => (World.ownsRow.lt HAV.out x hx).1)
       clear hown5 hg5 hat5 KXV K3V HAV HOV HRV HBV z0 z1 z2 z3 z4 z5
       have z0 := KXW.out.cell 0
       have z1 := KXW.out.cell 1
       have z2 := KXW.out.cell 2
       have z3 := KXW.out.cell 3
       have z4 := KXW.out.cell 4
       have z5 := KXW.out.cell 5
       have x0 := K3W.out.cell 0
       have x1 := K3W.out.cell 1
       have x2 := K3W.out.cell 2
       have x3 := K3W.out.cell 3
       have f2 := K3W.out.frozen 2
       have f3 := K3W.out.frozen 3
       have hbn : bx ≠ b11 := KXW.out.ne_ K3W.out (by decide)
       have ap1 := ap_nilP
       have ap2 := ap_nilI
       simp at z0 z1 z2 z3 z4 z5 x0 x1 x2 x3
       go_upto_region 23 with (fail)
       obtain ⟨wX, hwX⟩ : ∃ U, U = (wW.setCell ⟨b11, 2, none⟩ (.slice none 0 0)).setCell ⟨b11, 3, none⟩ (.slice none 0 0) := ⟨_, rfl⟩
       have hkb : Blk (wW.setCell ⟨b11, 2, none⟩ (.slice none 0 0)) b11 96 #[.int .i64 0, .slice none 0 0, .slice none 0 0, .slice none 0 0] := by simpa using K3W.out.set_ 2 (.slice none 0 0)
       have K3X : Hid (Blk wX b11 96 #[.int .i64 0, .slice none 0 0, .slice none 0 0, .slice none 0 0]) := by subst hwX; exact Lib.hid (by simpa using hkb.set_ 3 (.slice none 0 0))
       have KXX : Hid (Blk wX bx 139 #[.slice Au nu cu, .int .i64 s1.N, .slice s1.A nt s1.c, .slice none 0 0, .slice none 0 0, .slice Aq l1 cq]) := by subst hwX; exact Lib.hid ((KXW.out.far (p := ⟨b11, 2, none⟩) hbn _).far (p := ⟨b11, 3, none⟩) hbn _)
       have HAX : Hid (wX.ownsRow wS.heap.size 24 2 (.slice A5 (j + 1) c5) (j + 1) (((List.range (j + 1)).map sp).flatMap Sp.cells)) := by subst hwX; exact Lib.hid (own_off (own_off HAW.out K3W.out (by decide) 2 _) hkb (by decide) 3 _)
       have HOX : Hid (wX.ownsRow wS.heap.size 3 1 (.slice Ao no co) no (ZL (oldsC T ((List.range j).map bf)))) := by
        subst hwX
        refine Lib.hid (own_off (own_off ?_ K3W.out (by decide) 2 _) hkb (by decide) 3 _)
        have h := HOW.out
        unfold IR at h
        rw [← HNO.out] at h
        exact h
       have HRX : Hid (IR wX w5.heap.size Aq cq (rootO T (bf j))) := by subst hwX; exact Lib.hid (own_off (own_off HRW.out K3W.out (by decide) 2 _) hkb (by decide) 3 _)
       have HBX : Hid (Below wS.heap.size wS wX) := by subst hwX; exact Lib.hid (bw_set (bw_set HBW.out (p := ⟨b11, 2, none⟩) HN11.out _) (p := ⟨b11, 3, none⟩) HN11.out _)
       have HRR : Hid (Reads wX wX.heap.size 1 Aq l1 (ZL (rootO T (bf j)))) := Lib.hid (by rw [HL1.out]; exact IR.reads HRX.out)
       have hl1 : l1 ≤ 3000 := by have := rootO_len (bf j) (HLB2.out j hjK); rw [HL1.out]; omega
       have hno : no ≤ 3000 := by
        have h1 := oldsC_len (T := T) (l := (List.range j).map bf) fun x hx => by
         obtain ⟨y, hy, rfl⟩ := List.mem_map.1 hx
         exact HLB2.out y (by have := List.mem_range.1 hy; omega)
        rw [List.length_map, List.length_range, Nat.mul_assoc] at h1
        have h2 : T.length * j ≤ T.length * K := Nat.mul_le_mul_left _ (by omega)
        have h3 := HLB.out
        rw [HNO.out]; omega
       rw [← hwX]
       clear hwX hkb KXW K3W HAW HOW HRW HBW z0 z1 z2 z3 z4 z5 x0 x1 x2 x3 f2 f3 ap1 ap2
       have z5 := KXX.out.cell 5
       simp at z5
       go_wp2_with (at_builtin; go_must (refine wpList_append_sl _ rfl (.tmp 97) (.tmp 99) _ rfl wS.heap.size 3 i2 _ 1 8 Tryz.underlying25 hi2 jz0 jz1 jz2 rfl (by omega) (.slice Ao no co) no (ZL (oldsC T ((List.range j).map bf))) rfl HOX.out wX.heap.size Aq l1 cq (ZL (rootO T (bf j))) rfl HRR.out (fun u hu => by obtain ⟨y, _, rfl⟩ := List.mem_map.1 hu; rfl) (by simp only [maxLen]; omega) (by omega) HBX.out.size ?_); intro A6 c6 wY hown6 hg6 hat6)
       have K3Y : Hid (Blk wY b11 96 #[.int .i64 0, .slice none 0 0, .slice none 0 0, .slice none 0 0]) := Lib.hid (Blk.grown K3X.out hg6 fun e => own_blk_ne HOX.out K3X.out (by decide) e.symm)
       have HAY : Hid (wY.ownsRow wS.heap.size 24 2 (.slice A5 (j + 1) c5) (j + 1) (((List.range (j + 1)).map sp).flatMap Sp.cells)) := Lib.hid (own_grow2 HAX.out hg6 HOX.out (by decide))
       have HNY : Hid (no + l1 = (oldsC T ((List.range (j + 1)).map bf)).length) := Lib.hid (by rw [List.range_succ, List.map_append, List.map_singleton, oldsC_snoc, List.length_append, ← HNO.out, ← HL1.out])
       have HOY : Hid (IR wY wS.heap.size A6 c6 (oldsC T ((List.range (j + 1)).map bf))) := Lib.hid (by
        unfold IR
        rw [← HNY.out, List.range_succ, List.map_append, List.map_singleton, oldsC_snoc]
        unfold ZL at hown6 ⊢
        rw [List.map_append]
        exact hown6)
       have HBY : Hid (Below wS.heap.size wS wY) := Lib.hid (bw_grow HBX.out hg6 fun x hx => (World.ownsRow.lt HOX.out x hx).1)
       clear hown6 hg6 hat6 HAX HOX HRX HBX HRR K3X KXX z5
       go_roundw
       case rel => exact ⟨j + 1, no + l1, A5, A6, c5, c6, by omega, rfl, rfl, by go_num, HNY, HAY, HOY, K3Y, HBY⟩
       case measure => simp [intOf]; omega
     · obtain rfl : j = K := by omega
       have HJ : Hid (joinL ((List.range j).map sp) = (((oldsC T (putL T p)).length : Int), joinC T (putL T p) 0, 0)) := Lib.hid (by rw [HPL.out]; exact joinL_root (surf_chk47 HS.out) hn HLB2.out HLB.out HOS.out.sps)
       have HJC : Hid (Calls Tryz.prog 23 #[.slice Aa j ca] wU (PickPost wU (joinL ((List.range j).map sp)))) := Lib.hid (by
        refine join_any Aa j ca _ wU (by omega) (fun s hs => ?_) (joinS_short HLB2.out HLB.out HOS.out.sps) ⟨Reads.of_own HAA.out, fun s hs => ?_⟩
        · obtain ⟨y, hy, rfl⟩ := List.mem_map.1 hs
          rw [(HOS.out.sps y (List.mem_range.1 hy)).2, rootT_len]
          exact Nat.le_trans (rootC_fi (HLB2.out y (List.mem_range.1 hy))).short hn
        · obtain ⟨y, hy, rfl⟩ := List.mem_map.1 hs
          exact LRow.tris ((HOS.out.l y (List.mem_range.1 hy)).below HBr.out))
       rw [HJ.out] at HJC
       have K2r : Hid (Blk wU b2 96 #[.int .i64 0, .slice none 0 0, .slice none 0 0, .slice none 0 0]) := Lib.hid (K2S.out.below HBr.out K2S.out.lt)
       have HK2L : Hid (b2 < wS.heap.size) := Lib.hid K2S.out.lt
       clear HAA K2S
       go_wp2_with fail
       refine HJC.out.mono ?_
       rintro e wZ ⟨AJ, cJ, rfl, hlJ, hbJ⟩
       have hnp : no = (oldsC T (putL T p)).length := by rw [HNO.out, HPL.out]
       obtain ⟨nN, hnN⟩ : ∃ x, x = (oldsC T (putL T p)).length := ⟨_, rfl⟩
       obtain ⟨nJ, hnJ⟩ : ∃ x, x = (joinC T (putL T p) 0).length := ⟨_, rfl⟩
       dsimp only
       rw [← hnN, ← hnJ]
       have HNN := Lib.hid hnN
       have HNJ := Lib.hid hnJ
       have HNP := Lib.hid hnp
       have K3Z : Hid (Blk wZ b11 96 #[.int .i64 0, .slice none 0 0, .slice none 0 0, .slice none 0 0]) := Lib.hid (K3r.out.below hbJ K3r.out.lt)
       have K2Z : Hid (Blk wZ b2 96 #[.int .i64 0, .slice none 0 0, .slice none 0 0, .slice none 0 0]) := Lib.hid (K2r.out.below hbJ K2r.out.lt)
       have HLZ : Hid (LRow wZ w.heap.size AJ cJ (joinC T (putL T p) 0)) := Lib.hid (LRow.base hlJ (Nat.le_trans HBS.out.size HBr.out.size))
       have HOZ : Hid (IR wZ w.heap.size Ao co (oldsC T (putL T p))) := Lib.hid (own_low (B := w.heap.size) (by rw [HPL.out]; exact HAO.out.below hbJ) HBS.out.size)
       have HBZ : Hid (Below w.heap.size w wZ) := Lib.hid (HBS.out.trans ((HBr.out.trans (hbJ.mono HBr.out.size)).mono HBS.out.size))
       have hb2 : b2 ≠ b11 := by
        have h1 := HN11.out
        have h2 := HK2L.out
        omega
       clear hlJ hbJ hnN hnJ hnp HNO HAO K3r K2r HBr HJC
       have x0 := K3Z.out.cell 0
       have x1 := K3Z.out.cell 1
       have x2 := K3Z.out.cell 2
       have x3 := K3Z.out.cell 3
       have f0 := K3Z.out.frozen 0
       have f1 := K3Z.out.frozen 1
       have v0 := K2Z.out.cell 0
       have v1 := K2Z.out.cell 1
       have v2 := K2Z.out.cell 2
       have v3 := K2Z.out.cell 3
       have g0 := K2Z.out.frozen 0
       have g1 := K2Z.out.frozen 1
       have g2 := K2Z.out.frozen 2
       have g3 := K2Z.out.frozen 3
       simp at x0 x1 x2 x3 v0 v1 v2 v3
       go_wp2_with fail
       obtain ⟨wf, hwf⟩ : ∃ U, U = ((((((wZ.setCell ⟨b11, 0, none⟩ (.int .i64 (nN : Int))).setCell ⟨b11, 1, none⟩ (.slice AJ nJ cJ)).setCell ⟨b2, 0, none⟩ (.int .i64 (nN : Int))).setCell ⟨b2, 1, none⟩ (.slice AJ nJ cJ)).setCell ⟨b2, 2, none⟩ (.slice none 0 0)).setCell ⟨b2, 3, none⟩ (.slice none 0 0)) := ⟨_, rfl⟩
       have K2a : Blk ((wZ.setCell ⟨b11, 0, none⟩ (.int .i64 (nN : Int))).setCell ⟨b11, 1, none⟩ (.slice AJ nJ cJ)) b2 96 #[.int .i64 0, .slice none 0 0, .slice none 0 0, .slice none 0 0] := (K2Z.out.far (p := ⟨b11, 0, none⟩) hb2 _).far (p := ⟨b11, 1, none⟩) hb2 _
       have K2f : Hid (Blk wf b2 96 #[.int .i64 (nN : Int), .slice AJ nJ cJ, .slice none 0 0, .slice none 0 0]) := by subst hwf; exact Lib.hid (by simpa using (((K2a.set_ 0 (.int .i64 (nN : Int))).set_ 1 (.slice AJ nJ cJ)).set_ 2 (.slice none 0 0)).set_ 3 (.slice none 0 0))
       have keep : ∀ (el : TypeId) (s n : Nat) (z : Value) (xs : List Value), el ≠ 96 → wZ.ownsRow w.heap.size el s z n xs → wf.ownsRow w.heap.size el s z n xs := fun el s n z xs hne ho => by
        subst hwf
        refine own_same ho fun q hq => ?_
        have h1 : q ≠ b11 := fun e => own_blk_ne ho K3Z.out hne (e ▸ hq)
        have h2 : q ≠ b2 := fun e => own_blk_ne ho K2Z.out hne (e ▸ hq)
        rw [Below.heap_setCell _ ⟨b2, 3, none⟩ _ q h2, Below.heap_setCell _ ⟨b2, 2, none⟩ _ q h2, Below.heap_setCell _ ⟨b2, 1, none⟩ _ q h2, Below.heap_setCell _ ⟨b2, 0, none⟩ _ q h2, Below.heap_setCell _ ⟨b11, 1, none⟩ _ q h1, Below.heap_setCell _ ⟨b11, 0, none⟩ _ q h1]
       have hg2 : w.heap.size ≤ b2 := HG.out.2.1
       have hg11 : w.heap.size ≤ b11 := Nat.le_trans HBS.out.size HN11.out
       have HBf : Below w.heap.size w wf := by
        subst hwf
        exact bw_set (bw_set (bw_set (bw_set (bw_set (bw_set HBZ.out (p := ⟨b11, 0, none⟩) hg11 _) (p := ⟨b11, 1, none⟩) hg11 _) (p := ⟨b2, 0, none⟩) hg2 _) (p := ⟨b2, 1, none⟩) hg2 _) (p := ⟨b2, 2, none⟩) hg2 _) (p := ⟨b2, 3, none⟩) hg2 _
       have HLf : LRow wf w.heap.size AJ cJ (joinC T (putL T p) 0) := keep _ _ _ _ _ (by decide) HLZ.out
       have HOf : IR wf w.heap.size Ao co (oldsC T (putL T p)) := keep _ _ _ _ _ (by decide) HOZ.out
       have w0 := K2f.out.cell 0
       have w1' := K2f.out.cell 1
       have w2' := K2f.out.cell 2
       have w3' := K2f.out.cell 3
       simp at w0 w1' w2' w3'
       rw [← hwf]
       refine bodyPost_ret (v := .tuple #[.agg #[.int .i64 (nN : Int), .slice AJ nJ cJ, .slice none 0 0, .slice none 0 0], .slice Ao no co]) ?_ rfl ⟨p, AJ, Ao, cJ, co, HPT.out, by rw [HNN.out, HNJ.out, HNP.out], HLf, HOf, HBf⟩
       simp [results, Tryz.results56, go_sem, w0, w1', w2', w3']
end Go.Proofs.YtiajlmajenabiaaGreat
namespace Go.Proofs.YtiajlmajenabiaaGreat
open Go.RowKit
def FormYes (w : World) (T : List Tri) (e : Ending) (w' : World) : Prop :=
 ∃ (p : List Nat) (At Ao : Option Addr) (ct co : Nat), Put T p ∧ e = .returned (.tuple #[.agg #[.int .i64 ((oldsC T (putL T p)).length : Int), .slice At (joinC T (putL T p) 0).length ct], .slice Ao (oldsC T (putL T p)).length co, .int .i64 0]) ∧
  LRow w' w.heap.size At ct (joinC T (putL T p) 0) ∧ IR w' w.heap.size Ao co (oldsC T (putL T p)) ∧ Below w.heap.size w w'
def FormNo (w : World) (e : Ending) (w' : World) : Prop := e = .returned (.tuple #[.agg #[.int .i64 0, .slice none 0 0], .slice none 0 0, .int .i64 11]) ∧ Below w.heap.size w w'
attribute [local irreducible] Blk World.alloc World.setCell World.cell? World.frozen? MapV MapI
theorem formYes_any (m : Nat) (A : Option Addr) (c : Nat) (T : List Tri) (w : World) (hs : checkR (m : Int) T = (0, 0, 0)) (hn : T.length ≤ 1000) (hk : kN T < 20) (hb : T.length * kN T ≤ 1000) (ht : TrisAt w w.heap.size A T.length T) :
  Calls Tryz.prog 27 #[.agg #[.int .i64 (m : Int), .slice A T.length c]] w (FormYes w T) := by
 have HT := Lib.hid ht
 have HS := Lib.hid hs
 have HK := Lib.hid hk
 have HLB := Lib.hid hb
 clear ht hs hk hb
 go_enter Tryz.func27, Tryz.ntmps27
 go_upto_region 1 with (fail)
 obtain ⟨wA, hwA⟩ : ∃ U, U = (w.alloc (.cells #[.int .i64 (m : Int), .slice A T.length c] 24)).alloc (.cells #[.int .i64 0, .slice none 0 0] 24) := ⟨_, rfl⟩
 have K1A : Hid (Blk wA w.heap.size 24 #[.int .i64 (m : Int), .slice A T.length c]) := by subst hwA; exact Lib.hid ((Blk.new _ _ _).alloc _)
 have K2A : Hid (Blk wA (w.heap.size + 1) 24 #[.int .i64 0, .slice none 0 0]) := by subst hwA; exact Lib.hid (Blk.new_ (by rw [World.size_alloc]) _ _)
 have HBA : Hid (Below w.heap.size w wA) := by subst hwA; exact Lib.hid (bw_alloc (bw_alloc (Below.refl _ _) _) _)
 rw [← hwA]
 obtain ⟨b2, hb2⟩ : ∃ b, b = w.heap.size + 1 := ⟨_, rfl⟩
 obtain ⟨b1, hb1⟩ : ∃ b, b = w.heap.size := ⟨_, rfl⟩
 have HG : Hid (w.heap.size ≤ b1 ∧ w.heap.size ≤ b2 ∧ b1 ≠ b2) := Lib.hid (by omega)
 rw [← hb2] at K2A
 rw [← hb1] at K1A
 simp only [← hb2]
 simp only [← hb1]
 have HIS := Lib.hid (is_any (m : Int) A T.length c T wA hn (tris_on HBA.out HT.out))
 have p0 : wA.cell? ⟨b1, 0, none⟩ = some (.int .i64 (m : Int)) := K1A.out.cell 0
 have p1 : wA.cell? ⟨b1, 1, none⟩ = some (.slice A T.length c) := K1A.out.cell 1
 clear hwA hb1 hb2
 go_wp2_with fail
 refine HIS.out.mono ?_
 rintro e w1 ⟨rfl, hb⟩
 have K11 := Lib.hid (K1A.out.below hb K1A.out.lt)
 have K21 := Lib.hid (K2A.out.below hb K2A.out.lt)
 have HB1 := Lib.hid (bw_call HBA.out hb)
 clear hb HIS K1A K2A p0 p1
 rw [decide_eq_true HS.out]
 have p0 : w1.cell? ⟨b1, 0, none⟩ = some (.int .i64 (m : Int)) := K11.out.cell 0
 have p1 : w1.cell? ⟨b1, 1, none⟩ = some (.slice A T.length c) := K11.out.cell 1
 have HFO := Lib.hid (form_any m A c T w1 HS.out hn HK.out HLB.out (tris_on HB1.out HT.out))
 go_wp2_with fail
 refine HFO.out.mono ?_
 rintro e w2 ⟨p, At, Ao, ct, co, hp, rfl, hl, ho, hb⟩
 have K22 := Lib.hid (K21.out.below hb K21.out.lt)
 have HL2 := Lib.hid (LRow.base hl HB1.out.size)
 have HO2 := Lib.hid (own_low (B := w.heap.size) ho HB1.out.size)
 have HB2 := Lib.hid (bw_call HB1.out hb)
 have HP := Lib.hid hp
 obtain ⟨nN, hnN⟩ : ∃ x, x = (oldsC T (putL T p)).length := ⟨_, rfl⟩
 obtain ⟨nJ, hnJ⟩ : ∃ x, x = (joinC T (putL T p) 0).length := ⟨_, rfl⟩
 rw [← hnN, ← hnJ]
 have HNN := Lib.hid hnN
 have HNJ := Lib.hid hnJ
 clear hl ho hb hp HFO K11 K21 HB1 HBA p0 p1 hnN hnJ
 go_upto_region 4 with (fail)
 obtain ⟨w3, hw3⟩ : ∃ U, U = w2.alloc (.cells #[.int .i64 (nN : Int), .slice At nJ ct, .slice none 0 0, .slice none 0 0] 96) := ⟨_, rfl⟩
 have K53 : Hid (Blk w3 w2.heap.size 96 #[.int .i64 (nN : Int), .slice At nJ ct, .slice none 0 0, .slice none 0 0]) := by subst hw3; exact Lib.hid (Blk.new _ _ _)
 have K23 : Hid (Blk w3 b2 24 #[.int .i64 0, .slice none 0 0]) := by subst hw3; exact Lib.hid (K22.out.alloc _)
 have HL3 : Hid (LRow w3 w.heap.size At ct (joinC T (putL T p) 0)) := by subst hw3; exact Lib.hid (LRow.alloc HL2.out _)
 have HO3 : Hid (IR w3 w.heap.size Ao co (oldsC T (putL T p))) := by subst hw3; exact Lib.hid (IR.alloc HO2.out _)
 have HB3 : Hid (Below w.heap.size w w3) := by subst hw3; exact Lib.hid (bw_alloc HB2.out _)
 rw [← hw3]
 obtain ⟨b5, hb5⟩ : ∃ b, b = w2.heap.size := ⟨_, rfl⟩
 rw [← hb5] at K53
 simp only [← hb5]
 clear hw3 hb5 K22 HL2 HO2 HB2
 have x0 : w3.cell? ⟨b5, 0, none⟩ = some (.int .i64 (nN : Int)) := K53.out.cell 0
 have x1 : w3.cell? ⟨b5, 1, none⟩ = some (.slice At nJ ct) := K53.out.cell 1
 have y0 : w3.cell? ⟨b2, 0, none⟩ = some (.int .i64 0) := K23.out.cell 0
 have y1 : w3.cell? ⟨b2, 1, none⟩ = some (.slice none 0 0) := K23.out.cell 1
 have f0 := K23.out.frozen 0
 have f1 := K23.out.frozen 1
 go_wp2_with fail
 obtain ⟨r0, r1, _, _, _⟩ := soup_facts (soup_set K23.out (.int .i64 (nN : Int)) (.slice At nJ ct))
 refine bodyPost_ret (v := .tuple #[.agg #[.int .i64 (nN : Int), .slice At nJ ct], .slice Ao nN co, .int .i64 0]) ?_ rfl ⟨p, At, Ao, ct, co, HP.out, by rw [HNN.out, HNJ.out], own_off (own_off HL3.out K23.out (by decide) 0 _) (by simpa using K23.out.set_ 0 (.int .i64 (nN : Int))) (by decide) 1 _, own_off (own_off HO3.out K23.out (by decide) 0 _) (by simpa using K23.out.set_ 0 (.int .i64 (nN : Int))) (by decide) 1 _, bw_set (bw_set HB3.out (p := ⟨b2, 0, none⟩) HG.out.2.1 _) (p := ⟨b2, 1, none⟩) HG.out.2.1 _⟩
 simp [results, Tryz.results27, go_sem, r0, r1]
theorem formNo_any (N : Int) (A : Option Addr) (c : Nat) (T : List Tri) (w : World) (hs : checkR N T ≠ (0, 0, 0)) (hn : T.length ≤ 1000) (ht : TrisAt w w.heap.size A T.length T) :
  Calls Tryz.prog 27 #[.agg #[.int .i64 N, .slice A T.length c]] w (FormNo w) := by
 have HT := Lib.hid ht
 have HS := Lib.hid hs
 clear ht hs
 go_enter Tryz.func27, Tryz.ntmps27
 go_upto_region 1 with (fail)
 obtain ⟨wA, hwA⟩ : ∃ U, U = (w.alloc (.cells #[.int .i64 N, .slice A T.length c] 24)).alloc (.cells #[.int .i64 0, .slice none 0 0] 24) := ⟨_, rfl⟩
 have K1A : Hid (Blk wA w.heap.size 24 #[.int .i64 N, .slice A T.length c]) := by subst hwA; exact Lib.hid ((Blk.new _ _ _).alloc _)
 have K2A : Hid (Blk wA (w.heap.size + 1) 24 #[.int .i64 0, .slice none 0 0]) := by subst hwA; exact Lib.hid (Blk.new_ (by rw [World.size_alloc]) _ _)
 have HBA : Hid (Below w.heap.size w wA) := by subst hwA; exact Lib.hid (bw_alloc (bw_alloc (Below.refl _ _) _) _)
 rw [← hwA]
 obtain ⟨b2, hb2⟩ : ∃ b, b = w.heap.size + 1 := ⟨_, rfl⟩
 obtain ⟨b1, hb1⟩ : ∃ b, b = w.heap.size := ⟨_, rfl⟩
 have HG : Hid (w.heap.size ≤ b1 ∧ w.heap.size ≤ b2 ∧ b1 ≠ b2) := Lib.hid (by omega)
 rw [← hb2] at K2A
 rw [← hb1] at K1A
 simp only [← hb2]
 simp only [← hb1]
 have HIS := Lib.hid (is_any N A T.length c T wA hn (tris_on HBA.out HT.out))
 have p0 : wA.cell? ⟨b1, 0, none⟩ = some (.int .i64 N) := K1A.out.cell 0
 have p1 : wA.cell? ⟨b1, 1, none⟩ = some (.slice A T.length c) := K1A.out.cell 1
 clear hwA hb1 hb2
 go_wp2_with fail
 refine HIS.out.mono ?_
 rintro e w1 ⟨rfl, hb⟩
 have K11 := Lib.hid (K1A.out.below hb K1A.out.lt)
 have K21 := Lib.hid (K2A.out.below hb K2A.out.lt)
 have HB1 := Lib.hid (bw_call HBA.out hb)
 clear hb HIS K1A K2A p0 p1
 rw [decide_eq_false HS.out]
 have y0 : w1.cell? ⟨b2, 0, none⟩ = some (.int .i64 0) := K21.out.cell 0
 have y1 : w1.cell? ⟨b2, 1, none⟩ = some (.slice none 0 0) := K21.out.cell 1
 have f0 := K21.out.frozen 0
 have f1 := K21.out.frozen 1
 go_wp2_with fail
 obtain ⟨r0, r1, _, _, _⟩ := soup_facts (soup_set K21.out (.int .i64 0) (.slice none 0 0))
 refine bodyPost_ret (v := .tuple #[.agg #[.int .i64 0, .slice none 0 0], .slice none 0 0, .int .i64 11]) ?_ rfl ⟨rfl, bw_set (bw_set HB1.out (p := ⟨b2, 0, none⟩) HG.out.2.1 _) (p := ⟨b2, 1, none⟩) HG.out.2.1 _⟩
 simp [results, Tryz.results27, go_sem, r0, r1]
end Go.Proofs.YtiajlmajenabiaaGreat
namespace Go.Proofs.YtiajlmajenabiaaGreat
open Go.RowKit
attribute [local irreducible] Blk LRow IRow World.alloc World.setCell KeepO World.cell? World.frozen?
theorem eachM_any (F : Tri → Tri) (N : Int) (A : Option Addr) (n c : Nat) (T : List Tri) (w : World) (hn : n ≤ 10000) (ht : TrisAt w w.heap.size A n T)
  (hF : ∀ t ∈ T, ∀ W, Below w.heap.size w W → Calls Tryz.prog 41 #[.agg #[.int .i64 t.a, .int .i64 t.b, .int .i64 t.c]] W fun e w' => e = .returned (.agg #[.int .i64 (F t).a, .int .i64 (F t).b, .int .i64 (F t).c]) ∧ Below W.heap.size W w') :
  Calls Tryz.prog 40 #[.agg #[.int .i64 N, .slice A n c], .func (.func 41) #[] #[]] w (SPost w N (T.map F)) := by
 have HF := Lib.hid hF
 clear hF
 obtain rfl : n = T.length := ht.len.symm
 have HT := Lib.hid ht
 obtain ⟨i0, hi0, hz0, hz1, hz2⟩ := info_parts ltri_info
 clear ht
 go_enter Tryz.func40, Tryz.ntmps40
 go_upto_region 1 with (fail)
 obtain ⟨V, hV⟩ : ∃ V, V = (w.alloc (.cells #[.int .i64 N, .slice A T.length c] 24)).alloc (.cells #[.int .i64 0, .slice none 0 0] 24) := ⟨_, rfl⟩
 have HP : Hid (PS8 w V w.heap.size (w.heap.size + 1) N A T.length c) := by subst hV; exact Lib.hid ⟨(Blk.new _ _ _).alloc _, blk_new1 _ _ _ _, bw_alloc (bw_alloc (Below.refl _ _) _) _, Nat.le_refl _, Nat.le_succ _, by omega⟩
 rw [← hV]
 clear hV
 obtain ⟨gs, hgs⟩ : ∃ gs, gs = w.heap.size := ⟨_, rfl⟩
 obtain ⟨gr, hgr⟩ : ∃ gr, gr = w.heap.size + 1 := ⟨_, rfl⟩
 rw [← hgr] at HP ⊢
 have HP : Hid (PS8 w V gs gr N A T.length c) := by rw [hgs]; exact HP
 simp only [← hgs]
 clear hgs hgr
 have HO : Hid (OneSoup (V.alloc (.cells #[.int .i64 N, .slice none 0 0] 24)) w.heap.size V.heap.size (.int .i64 N) none 0 []) := Lib.hid ⟨Blk.new _ _ _, LRow.nil _ _, HP.out.b.size⟩
 have HP2 : Hid (PS8 w (V.alloc (.cells #[.int .i64 N, .slice none 0 0] 24)) gs gr N A T.length c) := Lib.hid (HP.out.alloc _)
 have HGO : Hid (V.heap.size ≠ gs ∧ V.heap.size ≠ gr ∧ w.heap.size ≤ V.heap.size) := Lib.hid ⟨by have := HP.out.s.lt; omega, by have := HP.out.r.lt; omega, HP.out.b.size⟩
 obtain ⟨s0, s1, r0, r1, r2, r3⟩ := HP.out.cells
 obtain ⟨p0, p1, _, _, _, _⟩ := HP2.out.cells
 go_wp2_with fail
 generalize V.alloc (.cells #[.int .i64 N, .slice none 0 0] 24) = V2 at *
 generalize V.heap.size = go at *
 clear HP s0 s1 r0 r1 r2 r3 p0 p1
 go_loopw [14] (fun iv wr => ∃ (k : Nat) (A' : Option Addr) (c' : Nat), k ≤ T.length ∧ iv = .int .i64 k ∧ Hid (OneSoup wr w.heap.size go (.int .i64 N) A' c' ((T.take k).map F)) ∧ Hid (PS8 w wr gs gr N A T.length c)) (fun iv _ => T.length - (intOf iv).toNat)
 case atStart => exact ⟨0, none, 0, by omega, rfl, HO, HP2⟩
 case round =>
  obtain ⟨k, A', c', hk, rfl, HOK, HPK⟩ := hrel
  obtain ⟨wm, hwm⟩ : ∃ wm : World, wm = wr := ⟨_, rfl⟩
  rw [← hwm] at HOK HPK ⊢
  clear hwm HO HP2
  by_cases hlt : k < T.length
  · obtain ⟨ad, t, e2, htk, _, hadb, hc3⟩ := (HT.out.below HPK.out.b).at_ hlt
    subst e2
    have hk0 : (0 : Int) ≤ (k : Int) := by omega
    have hk1 : (k : Int) < (T.length : Int) := by omega
    obtain ⟨L, hL⟩ : ∃ L, L = (T.take k).map F := ⟨_, rfl⟩
    rw [← hL] at HOK
    have hLl : L.length ≤ 10000 := by rw [hL]; simp; omega
    have HLS : Hid (L ++ [F t] = (T.take (k + 1)).map F) := Lib.hid (by rw [hL, take_snoc_T T k htk]; simp)
    have HTM := Lib.hid (List.mem_of_getElem? htk)
    obtain ⟨d0, d1, d2, d3, d4, d5⟩ := hc3
    clear hL htk
    go_upto_region 5 with (fail)
    obtain ⟨w3, hw3⟩ : ∃ w3, w3 = wm.alloc (.cells #[.int .i64 t.a, .int .i64 t.b, .int .i64 t.c] 56) := ⟨_, rfl⟩
    have HTB : Hid (Blk w3 wm.heap.size 56 #[.int .i64 t.a, .int .i64 t.b, .int .i64 t.c]) := by subst hw3; exact Lib.hid (Blk.new _ _ _)
    have HO3 : Hid (OneSoup w3 w.heap.size go (.int .i64 N) A' c' L) := by subst hw3; exact Lib.hid (HOK.out.alloc _)
    have HP3 : Hid (PS8 w w3 gs gr N (some ad) T.length c) := by subst hw3; exact Lib.hid (HPK.out.alloc _)
    have HTR : Hid (∀ x, (Value.slice A' L.length c').ownBlock = some x → x ≠ wm.heap.size) := Lib.hid fun x hx => Nat.ne_of_lt (HOK.out.r.owns.lt x hx).2
    rw [← hw3]
    generalize wm.heap.size = tb at *
    clear hw3 HOK HPK d0 d1 d2 d3 d4 d5
    obtain ⟨row, hrow⟩ : ∃ row, row = (Value.slice A' L.length c').ownBlock := ⟨_, rfl⟩
    have HK0 := Lib.hid (KeepO.refl w3.heap.size row w3)
    obtain ⟨o0, o1, o2, o3, ol⟩ := HO3.out.cells
    have HS : Hid (∀ w', KeepO w3.heap.size row w3 w' → w'.cell? ⟨go, 1, none⟩ = some (.slice A' L.length c') ∧ w'.cell? ⟨tb, 0, none⟩ = some (.int .i64 t.a) ∧ w'.cell? ⟨tb, 1, none⟩ = some (.int .i64 t.b) ∧ w'.cell? ⟨tb, 2, none⟩ = some (.int .i64 t.c) ∧ KeepO w3.heap.size row w3 w') := Lib.hid fun w' h => by
     obtain ⟨x0, x1, x2⟩ := tri_cells HTB.out
     have htl := HTB.out.lt
     have htr : some tb ≠ row := fun e => by rw [hrow] at e; exact HTR.out _ e.symm rfl
     exact ⟨(h.get (p := ⟨go, 1, none⟩) ol (Nat.ne_of_lt ol) (fun e => by rw [hrow] at e; exact soup_tri_ne HO3.out.r HO3.out.t go e.symm rfl)).trans o1, (h.get (p := ⟨tb, 0, none⟩) htl (Nat.ne_of_lt htl) htr).trans x0, (h.get (p := ⟨tb, 1, none⟩) htl (Nat.ne_of_lt htl) htr).trans x1, (h.get (p := ⟨tb, 2, none⟩) htl (Nat.ne_of_lt htl) htr).trans x2, h⟩
    have HKO : Hid (∀ w', (w'.cell? ⟨go, 1, none⟩ = some (.slice A' L.length c') ∧ w'.cell? ⟨tb, 0, none⟩ = some (.int .i64 t.a) ∧ w'.cell? ⟨tb, 1, none⟩ = some (.int .i64 t.b) ∧ w'.cell? ⟨tb, 2, none⟩ = some (.int .i64 t.c) ∧ KeepO w3.heap.size row w3 w') → KeepO w3.heap.size row w3 w') := Lib.hid fun w' h => h.2.2.2.2
    have HTU : Hid (∀ W, Below w.heap.size w W → Calls Tryz.prog 41 #[.agg #[.int .i64 t.a, .int .i64 t.b, .int .i64 t.c]] W fun e w' => e = .returned (.agg #[.int .i64 (F t).a, .int .i64 (F t).b, .int .i64 (F t).c]) ∧ Below W.heap.size W w') := Lib.hid (HF.out t HTM.out)
    generalize F t = tt at HTU HLS
    subst hrow
    refine wp_region_till (S := fun w' => w'.cell? ⟨go, 1, none⟩ = some (.slice A' L.length c') ∧ w'.cell? ⟨tb, 0, none⟩ = some (.int .i64 t.a) ∧ w'.cell? ⟨tb, 1, none⟩ = some (.int .i64 t.b) ∧ w'.cell? ⟨tb, 2, none⟩ = some (.int .i64 t.c) ∧ KeepO w3.heap.size (Value.slice A' L.length c').ownBlock w3 w') 8 (by kernel_rfl) ?_ (fun hHeld => ?_)
    · (refine HS.out _ ?_; repeat (first | exact HK0.out | exact hK5 | assumption | exact KeepO.call (KeepO.drew HK0.out) hb9 | refine KeepO.alloc ?_ _ | refine KeepO.drew ?_ | refine KeepO.set ?_ _ | exact HKO.out _ (by assumption)))
    refine tKk 0 ?_; (try simp only [zQ])
    refine tKk 1 ?_; (try simp only [zQ])
    refine tKk 2 ?_; (try simp only [zQ])
    refine tKk 3 ?_; (try simp only [zQ])
    refine Till.ready (rs := [4]) (by kernel_rfl) (by simp) ?_
    refine TillEach.cons rfl (fun K hK => ?_) ?_
    · go_simp
      go_wp2_with (go_at_call 41; refine (HTU.out _ (bw_drew HP3.out.b)).mono ?_; rintro e w9 ⟨rfl, hb9⟩)
      refine hK.out _ _ ?_ (fun hHeld => ?_)
      · (refine HS.out _ ?_; repeat (first | exact HK0.out | exact hK5 | assumption | exact KeepO.call (KeepO.drew HK0.out) hb9 | refine KeepO.alloc ?_ _ | refine KeepO.drew ?_ | refine KeepO.set ?_ _ | exact HKO.out _ (by assumption)))
      clear hK K
      (try simp only [zQ])
      refine Till.ready (rs := [5]) (by kernel_rfl) (by simp) ?_
      refine TillEach.cons rfl (fun K hK => ?_) ?_
      · go_simp
        refine hK.out _ _ ?_ (fun hHeld => ?_)
        · (refine HS.out _ ?_; repeat (first | exact HK0.out | exact hK5 | assumption | exact KeepO.call (KeepO.drew HK0.out) hb9 | refine KeepO.alloc ?_ _ | refine KeepO.drew ?_ | refine KeepO.set ?_ _ | exact HKO.out _ (by assumption)))
        clear hK K
        (try simp only [zQ])
        refine Till.ready (rs := [6]) (by kernel_rfl) (by simp) ?_
        refine TillEach.cons rfl (fun K hK => ?_) ?_
        · refine step_append_sl _ (by rfl) (.tmp 19) (.tmp 23) _ (by rfl) w.heap.size 56 i0 _ 3 24 Tryz.underlying22 hi0 hz0 hz1 hz2 rfl (by omega) (.slice A' L.length c') L.length (L.flatMap Tri.cells) (by rfl) (((HO3.out).drew.on hb9).alloc _).r.owns (w9.heap.size + 1) (some ⟨w9.heap.size, 0, none⟩) 1 1 [.int .i64 tt.a, .int .i64 tt.b, .int .i64 tt.c] (by rfl) (reads_newN _ _ _ 1 3 rfl rfl) (by simp [Value.oneCell']) (by simp only [maxLen]; omega) (by omega) (bw_size (bw_alloc (bw_call (bw_drew HP3.out.b) hb9) _)) ?_
          intro A5 c5 w5 hown5 hg5 hat5
          obtain ⟨z0, z1, z2⟩ := OneSoup.facts (((HO3.out).drew.on hb9).alloc _) hg5
          have hB5 : Below w.heap.size w w5 := bw_grow (bw_alloc (bw_call (bw_drew HP3.out.b) hb9) _) hg5 (fun x hx => (HO3.out.r.owns.lt x hx).1)
          have hK5 := KeepO.grow (KeepO.alloc (KeepO.call (KeepO.drew HK0.out) hb9) _) hg5
          refine hK.out _ _ ?_ (fun hHeld => ?_)
          · (refine HS.out _ ?_; repeat (first | exact HK0.out | exact hK5 | assumption | exact KeepO.call (KeepO.drew HK0.out) hb9 | refine KeepO.alloc ?_ _ | refine KeepO.drew ?_ | refine KeepO.set ?_ _ | exact HKO.out _ (by assumption)))
          clear hK K
          (try simp only [zQ])
          refine tKk 7 ?_; (try simp only [zQ])
          refine Till.ready (rs := [8]) (by kernel_rfl) (by simp) ?_
          refine TillEach.last rfl (fun K hK => ?_)
          · go_simp
            refine hK.out _ _ ?_
            clear hK K
            (try simp only [zQ])
            refine Till.done (by kernel_rfl) ?_ _
            go_wp2_with fail
            refine ⟨⟨k + 1, A5, c5, by omega, by go_num, Lib.hid ?_, Lib.hid ?_⟩, by simp [intOf]; omega⟩
            · rw [← HLS.out]
              exact OneSoup.push (((HO3.out).drew.on hb9).alloc _) hown5 (by simp) (by simp [Tri.cells]) hg5
            · exact (PS8.grown (((HP3.out).drew.on hb9).alloc _) (((HO3.out).drew.on hb9).alloc _).r (Nat.le_refl _) hg5).far HGO.out.1.symm HGO.out.2.1.symm HGO.out.2.2 _ _
        exact TillEach.nil
      exact TillEach.nil
    exact TillEach.nil
  · obtain rfl : k = T.length := by omega
    rw [List.take_length] at HOK
    obtain ⟨o0, o1, _, _, _⟩ := HOK.out.cells
    obtain ⟨s0, s1, r0, r1, r2, r3⟩ := HPK.out.cells
    go_wp2_with fail
    obtain ⟨f0, f1, _, _, _⟩ := soup_facts (soup_set HPK.out.r (.int .i64 N) (.slice A' (T.map F).length c'))
    rw [List.length_map] at f0 f1
    refine bodyPost_ret (v := .agg #[.int .i64 N, .slice A' (T.map F).length c']) ?_ rfl ⟨A', c', rfl, HOK.out.r.soup_set HPK.out.r _ _, bw_set (bw_set HPK.out.b HPK.out.hr _) HPK.out.hr _⟩
    simp [results, Tryz.results40, go_sem, f0, f1]
theorem mirror1_any (t : Tri) (w : World) : Calls Tryz.prog 41 #[.agg #[.int .i64 t.a, .int .i64 t.b, .int .i64 t.c]] w fun e w' => e = .returned (.agg #[.int .i64 t.a, .int .i64 t.c, .int .i64 t.b]) ∧ Below w.heap.size w w' := by
 go_enter Tryz.func41, Tryz.ntmps41
 go_upto_region 1 with (fail)
 obtain ⟨V, hV⟩ : ∃ V, V = (w.alloc (.cells #[.int .i64 t.a, .int .i64 t.b, .int .i64 t.c] 56)).alloc (.cells #[.int .i64 0, .int .i64 0, .int .i64 0] 56) := ⟨_, rfl⟩
 have HX : Hid (Blk V w.heap.size 56 #[.int .i64 t.a, .int .i64 t.b, .int .i64 t.c]) := by subst hV; exact Lib.hid ((Blk.new _ _ _).alloc _)
 have HR : Hid (Blk V (w.heap.size + 1) 56 #[.int .i64 0, .int .i64 0, .int .i64 0]) := by subst hV; exact Lib.hid (blk_new1 _ _ _ _)
 have HB : Hid (Below w.heap.size w V) := by subst hV; exact Lib.hid (bw_alloc (bw_alloc (Below.refl _ _) _) _)
 rw [← hV]
 clear hV
 obtain ⟨x0, x1, x2⟩ := tri_cells HX.out
 obtain ⟨y0, y1, y2⟩ := tri_cells HR.out
 have z0 := HR.out.frozen 0
 have z1 := HR.out.frozen 1
 have z2 := HR.out.frozen 2
 go_wp2_with fail
 have HR2 := Lib.hid (((HR.out.set_ 0 (.int .i64 t.a)).set_ 1 (.int .i64 t.c)).set_ 2 (.int .i64 t.b))
 have HB2 := Lib.hid (bw_set (bw_set (bw_set HB.out (p := ⟨w.heap.size + 1, 0, none⟩) (Nat.le_succ _) (.int .i64 t.a)) (p := ⟨w.heap.size + 1, 1, none⟩) (Nat.le_succ _) (.int .i64 t.c)) (p := ⟨w.heap.size + 1, 2, none⟩) (Nat.le_succ _) (.int .i64 t.b))
 have f0 := HR2.out.cell 0
 have f1 := HR2.out.cell 1
 have f2 := HR2.out.cell 2
 simp at f0 f1 f2
 refine bodyPost_ret (v := .agg #[.int .i64 t.a, .int .i64 t.c, .int .i64 t.b]) ?_ rfl ⟨rfl, HB2.out⟩
 simp [results, Tryz.results41, go_sem, f0, f1, f2]
theorem mirror_any (N : Int) (A : Option Addr) (n c : Nat) (T : List Tri) (w : World) (hn : n ≤ 10000) (ht : TrisAt w w.heap.size A n T) :
  Calls Tryz.prog 16 #[.agg #[.int .i64 N, .slice A n c]] w (SPost w N (T.map mirT)) := by
 obtain rfl : n = T.length := ht.len.symm
 have HT := Lib.hid ht
 clear ht
 go_enter Tryz.func16, Tryz.ntmps16
 go_upto_region 1 with (fail)
 obtain ⟨V, hV⟩ : ∃ V, V = (w.alloc (.cells #[.int .i64 N, .slice A T.length c] 24)).alloc (.cells #[.int .i64 0, .slice none 0 0] 24) := ⟨_, rfl⟩
 have HP : Hid (PS8 w V w.heap.size (w.heap.size + 1) N A T.length c) := by subst hV; exact Lib.hid ⟨(Blk.new _ _ _).alloc _, blk_new1 _ _ _ _, bw_alloc (bw_alloc (Below.refl _ _) _) _, Nat.le_refl _, Nat.le_succ _, by omega⟩
 rw [← hV]
 clear hV
 obtain ⟨gs, hgs⟩ : ∃ gs, gs = w.heap.size := ⟨_, rfl⟩
 obtain ⟨gr, hgr⟩ : ∃ gr, gr = w.heap.size + 1 := ⟨_, rfl⟩
 rw [← hgr] at HP ⊢
 have HP : Hid (PS8 w V gs gr N A T.length c) := by rw [hgs]; exact HP
 simp only [← hgs]
 clear hgs hgr
 obtain ⟨s0, s1, r0, r1, r2, r3⟩ := HP.out.cells
 go_wp2_with fail
 refine (eachM_any mirT N A T.length c T V (by omega) ((HT.out.below HP.out.b).more HP.out.b.size) (fun t _ W _ => mirror1_any t W)).mono ?_
 rintro e w1 ⟨A1, c1, rfl, hr, hb⟩
 have HP1 := Lib.hid (HP.out.on hb)
 have HR1 := Lib.hid (LRow.base hr HP.out.b.size)
 clear hb hr HP s0 s1 r0 r1 r2 r3
 obtain ⟨s0, s1, r0, r1, r2, r3⟩ := HP1.out.cells
 go_wp2_with fail
 obtain ⟨f0, f1, _, _, _⟩ := soup_facts (soup_set HP1.out.r (.int .i64 N) (.slice A1 (T.map mirT).length c1))
 rw [List.length_map] at f0 f1
 refine bodyPost_ret (v := .agg #[.int .i64 N, .slice A1 (T.map mirT).length c1]) ?_ rfl ⟨A1, c1, rfl, HR1.out.soup_set HP1.out.r _ _, bw_set (bw_set HP1.out.b HP1.out.hr _) HP1.out.hr _⟩
 simp [results, Tryz.results16, go_sem, f0, f1]
end Go.Proofs.YtiajlmajenabiaaGreat
namespace Go.Proofs.YtiajlmajenabiaaGreat
open Go.RowKit
theorem joinC_len {T : List Tri} : ∀ (l : List Nat) (n : Int), (∀ c ∈ l, c < 3 * T.length) → (joinC T l n).length ≤ T.length * l.length
 | [], _, _ => by simp [joinC]
 | c :: l, n, h => by
  have h1 := joinC_len l (n + (rootO T c).length) fun x hx => h x (List.mem_cons_of_mem _ hx)
  have h2 := (rootC_fi (h c List.mem_cons_self)).short
  rw [joinC, List.length_append, List.length_map, rootT_len, List.length_cons, Nat.mul_succ]
  omega
theorem put_mem {T : List Tri} {p : List Nat} (h : Put T p) : (putL T p).length = kN T ∧ ∀ c ∈ putL T p, c < 3 * T.length := by
 rw [put_list h]
 refine ⟨by simp, fun c hc => ?_⟩
 obtain ⟨j, hj, rfl⟩ := List.mem_map.1 hc
 exact put_lt h (List.mem_range.1 hj)
structure FormI (N : Int) (T : List Tri) (M : Int) (L : List Tri) (er : Int) : Prop where
 yes : checkR N T = (0, 0, 0) → er = 0 ∧ ∃ p, Put T p ∧ M = ((oldsC T (putL T p)).length : Int) ∧ L = joinC T (putL T p) 0
 no : checkR N T ≠ (0, 0, 0) → er = 11 ∧ M = 0 ∧ L = []
def FormAny (w : World) (N : Int) (T : List Tri) (e : Ending) (w' : World) : Prop :=
 ∃ (M : Int) (L : List Tri) (At Ao : Option Addr) (ct no co : Nat) (er : Int), e = .returned (.tuple #[.agg #[.int .i64 M, .slice At L.length ct], .slice Ao no co, .int .i64 er]) ∧ LRow w' w.heap.size At ct L ∧ L.length ≤ 1000 ∧ Below w.heap.size w w' ∧ FormI N T M L er
theorem formAny_any (N : Int) (A : Option Addr) (c : Nat) (T : List Tri) (w : World) (hn : T.length ≤ 1000) (hk : kN T < 20) (hb : T.length * kN T ≤ 1000) (ht : TrisAt w w.heap.size A T.length T) :
  Calls Tryz.prog 27 #[.agg #[.int .i64 N, .slice A T.length c]] w (FormAny w N T) := by
 by_cases h : checkR N T = (0, 0, 0)
 · obtain ⟨m, hm⟩ := surf_of (checkR_zero (by rw [h])).1
   obtain rfl := hm.1
   refine (formYes_any m A c T w h hn hk hb ht).mono ?_
   rintro e w' ⟨p, At, Ao, ct, co, hp, rfl, hl, ho, hb'⟩
   refine ⟨_, _, At, Ao, ct, _, co, 0, rfl, hl, ?_, hb', ⟨fun _ => ⟨rfl, p, hp, rfl, rfl⟩, fun hne => absurd h hne⟩⟩
   have h1 := put_mem hp
   have h2 := joinC_len (T := T) (putL T p) 0 h1.2
   rw [h1.1] at h2
   omega
 · refine (formNo_any N A c T w h hn ht).mono ?_
   rintro e w' ⟨rfl, hb'⟩
   exact ⟨0, [], none, none, 0, 0, 0, 11, rfl, LRow.nil _ _, by simp, hb', ⟨fun h' => absurd h' h, fun _ => ⟨rfl, rfl, rfl⟩⟩⟩
def EqPost (w : World) (N : Int) (T : List Tri) (M : Int) (U : List Tri) (e : Ending) (w' : World) : Prop :=
 ∃ (N1 : Int) (L1 : List Tri) (e1 N2 : Int) (L2 : List Tri) (e2 : Int), FormI N T N1 L1 e1 ∧ FormI M U N2 L2 e2 ∧ e = .returned (.bool (decide (e1 = 0 ∧ e2 = 0 ∧ N1 = N2 ∧ L1 = L2))) ∧ Below w.heap.size w w'
attribute [local irreducible] Blk World.alloc World.setCell World.cell? World.frozen? MapV MapI
theorem equal_any (N M : Int) (A A' : Option Addr) (c c' : Nat) (T U : List Tri) (w : World) (hn : T.length ≤ 1000) (hk : kN T < 20) (hb : T.length * kN T ≤ 1000) (ht : TrisAt w w.heap.size A T.length T)
  (hn' : U.length ≤ 1000) (hk' : kN U < 20) (hb' : U.length * kN U ≤ 1000) (ht' : TrisAt w w.heap.size A' U.length U) :
  Calls Tryz.prog 19 #[.agg #[.int .i64 N, .slice A T.length c], .agg #[.int .i64 M, .slice A' U.length c']] w (EqPost w N T M U) := by
 have HT := Lib.hid ht
 have HU := Lib.hid ht'
 have HK := Lib.hid hk
 have HK' := Lib.hid hk'
 have HLB := Lib.hid hb
 have HLB' := Lib.hid hb'
 clear ht ht' hk hk' hb hb'
 go_enter Tryz.func19, Tryz.ntmps19
 go_upto_region 1 with (fail)
 obtain ⟨wA, hwA⟩ : ∃ X, X = (w.alloc (.cells #[.int .i64 N, .slice A T.length c] 24)).alloc (.cells #[.int .i64 M, .slice A' U.length c'] 24) := ⟨_, rfl⟩
 have K1A : Hid (Blk wA w.heap.size 24 #[.int .i64 N, .slice A T.length c]) := by subst hwA; exact Lib.hid ((Blk.new _ _ _).alloc _)
 have K2A : Hid (Blk wA (w.heap.size + 1) 24 #[.int .i64 M, .slice A' U.length c']) := by subst hwA; exact Lib.hid (Blk.new_ (by rw [World.size_alloc]) _ _)
 have HBA : Hid (Below w.heap.size w wA) := by subst hwA; exact Lib.hid (bw_alloc (bw_alloc (Below.refl _ _) _) _)
 rw [← hwA]
 obtain ⟨b2, hb2⟩ : ∃ b, b = w.heap.size + 1 := ⟨_, rfl⟩
 obtain ⟨b1, hb1⟩ : ∃ b, b = w.heap.size := ⟨_, rfl⟩
 rw [← hb2] at K2A
 rw [← hb1] at K1A
 simp only [← hb2]
 simp only [← hb1]
 have HF1 := Lib.hid (formAny_any N A c T wA hn HK.out HLB.out (tris_on HBA.out HT.out))
 have p0 : wA.cell? ⟨b1, 0, none⟩ = some (.int .i64 N) := K1A.out.cell 0
 have p1 : wA.cell? ⟨b1, 1, none⟩ = some (.slice A T.length c) := K1A.out.cell 1
 clear hwA hb1 hb2
 go_wp2_with fail
 refine HF1.out.mono ?_
 rintro e w1 ⟨N1, L1, At, Ao, ct, no, co, e1, rfl, hl1, hn1, hb, hi1⟩
 have K21 := Lib.hid (K2A.out.below hb K2A.out.lt)
 have HB1 := Lib.hid (bw_call HBA.out hb)
 have HL1 := Lib.hid (LRow.base hl1 HBA.out.size)
 have HI1 := Lib.hid hi1
 clear hb HF1 K1A K2A HBA hl1 hi1 p0 p1
 go_upto_region 2 with (fail)
 obtain ⟨n1, hn1e⟩ : ∃ n, n = L1.length := ⟨_, rfl⟩
 rw [← hn1e] at hn1 ⊢
 have HN1 := Lib.hid hn1e
 clear hn1e
 obtain ⟨w2, hw2⟩ : ∃ X, X = w1.alloc (.cells #[.int .i64 N1, .slice At n1 ct] 24) := ⟨_, rfl⟩
 have K52 : Hid (Blk w2 w1.heap.size 24 #[.int .i64 N1, .slice At n1 ct]) := by subst hw2; exact Lib.hid (Blk.new _ _ _)
 have K22 : Hid (Blk w2 b2 24 #[.int .i64 M, .slice A' U.length c']) := by subst hw2; exact Lib.hid (K21.out.alloc _)
 have HL2 : Hid (LRow w2 w.heap.size At ct L1) := by subst hw2; exact Lib.hid (LRow.alloc HL1.out _)
 have HB2 : Hid (Below w.heap.size w w2) := by subst hw2; exact Lib.hid (bw_alloc HB1.out _)
 rw [← hw2]
 obtain ⟨b5, hb5⟩ : ∃ b, b = w1.heap.size := ⟨_, rfl⟩
 rw [← hb5] at K52
 simp only [← hb5]
 have HF2 := Lib.hid (formAny_any M A' c' U w2 hn' HK'.out HLB'.out (tris_on HB2.out HU.out))
 have p0 : w2.cell? ⟨b2, 0, none⟩ = some (.int .i64 M) := K22.out.cell 0
 have p1 : w2.cell? ⟨b2, 1, none⟩ = some (.slice A' U.length c') := K22.out.cell 1
 clear hw2 hb5 K21 HL1 HB1
 go_wp2_with fail
 refine HF2.out.mono ?_
 rintro e w3 ⟨N2, L2, At2, Ao2, ct2, no2, co2, e2, rfl, hl2, hn2, hb, hi2⟩
 have K53 := Lib.hid (K52.out.below hb K52.out.lt)
 have HL3 := Lib.hid (HL2.out.below hb)
 have HL4 := Lib.hid (LRow.base hl2 HB2.out.size)
 have HB3 := Lib.hid (bw_call HB2.out hb)
 have HI2 := Lib.hid hi2
 clear hb HF2 K52 K22 HB2 HL2 hl2 hi2 p0 p1
 go_upto_region 3 with (fail)
 obtain ⟨n2, hn2e⟩ : ∃ n, n = L2.length := ⟨_, rfl⟩
 rw [← hn2e] at hn2 ⊢
 have HN2 := Lib.hid hn2e
 clear hn2e
 obtain ⟨w4, hw4⟩ : ∃ X, X = w3.alloc (.cells #[.int .i64 N2, .slice At2 n2 ct2] 24) := ⟨_, rfl⟩
 have K84 : Hid (Blk w4 w3.heap.size 24 #[.int .i64 N2, .slice At2 n2 ct2]) := by subst hw4; exact Lib.hid (Blk.new _ _ _)
 have K54 : Hid (Blk w4 b5 24 #[.int .i64 N1, .slice At n1 ct]) := by subst hw4; exact Lib.hid (K53.out.alloc _)
 have HL5 : Hid (LRow w4 w.heap.size At ct L1) := by subst hw4; exact Lib.hid (LRow.alloc HL3.out _)
 have HL6 : Hid (LRow w4 w.heap.size At2 ct2 L2) := by subst hw4; exact Lib.hid (LRow.alloc HL4.out _)
 have HB4 : Hid (Below w.heap.size w w4) := by subst hw4; exact Lib.hid (bw_alloc HB3.out _)
 rw [← hw4]
 obtain ⟨b8, hb8⟩ : ∃ b, b = w3.heap.size := ⟨_, rfl⟩
 rw [← hb8] at K84
 simp only [← hb8]
 clear hw4 hb8 K53 HL3 HL4 HB3
 have q0 : w4.cell? ⟨b5, 0, none⟩ = some (.int .i64 N1) := K54.out.cell 0
 have q1 : w4.cell? ⟨b5, 1, none⟩ = some (.slice At n1 ct) := K54.out.cell 1
 have q2 : w4.cell? ⟨b8, 0, none⟩ = some (.int .i64 N2) := K84.out.cell 0
 have q3 : w4.cell? ⟨b8, 1, none⟩ = some (.slice At2 n2 ct2) := K84.out.cell 1
 have HSM := Lib.hid (soupSame_dec N1 N2 L1 L2 At At2 n1 n2 ct ct2 w4 (by omega) (by omega) (by rw [HN1.out]; exact LRow.tris HL5.out) (by rw [HN2.out]; exact LRow.tris HL6.out))
 obtain ⟨r, hr⟩ : ∃ r, r = decide (e1 = 0 ∧ e2 = 0 ∧ N1 = N2 ∧ L1 = L2) := ⟨_, rfl⟩
 have HR := Lib.hid hr
 by_cases h1 : e1 = 0
 · have h1' : (e1 == 0) = true := by simpa using h1
   by_cases h2 : e2 = 0
   · have h2' : (e2 == 0) = true := by simpa using h2
     obtain ⟨s, hs⟩ : ∃ s, s = decide (N1 = N2 ∧ L1 = L2) := ⟨_, rfl⟩
     rw [← hs] at HSM
     have HX : Hid (r = s) := Lib.hid (by rw [hr, hs]; simp [h1, h2])
     clear hr hs h1 h2
     go_wp2_with fail
     refine HSM.out.mono ?_
     rintro e w5 ⟨rfl, hb⟩
     go_wp2_with fail
     go_ret
     exact ⟨N1, L1, e1, N2, L2, e2, HI1.out, HI2.out, by rw [← HR.out, HX.out]; rfl, bw_call HB4.out hb⟩
   · have h2' : (e2 == 0) = false := by simpa using h2
     have HX : Hid (r = false) := Lib.hid (by rw [hr]; simp [h2])
     clear hr h1 h2
     go_wp2_with fail
     go_ret
     exact ⟨N1, L1, e1, N2, L2, e2, HI1.out, HI2.out, by rw [← HR.out, HX.out]; rfl, HB4.out⟩
 · have h1' : (e1 == 0) = false := by simpa using h1
   have HX : Hid (r = false) := Lib.hid (by rw [hr]; simp [h1])
   clear hr h1
   go_wp2_with fail
   go_ret
   exact ⟨N1, L1, e1, N2, L2, e2, HI1.out, HI2.out, by rw [← HR.out, HX.out]; rfl, HB4.out⟩
end Go.Proofs.YtiajlmajenabiaaGreat
namespace Go.Proofs.YtiajlmajenabiaaGreat
open Go.RowKit
theorem ints_info47 : (Tryz.prog.info? 25).map (fun i => (i.zero, i.size, i.bytes)) = some (some (.slice none 0 0), 1, 24) := by kernel_rfl
def KindPost (w : World) (T : List Tri) (V : List Int) (e : Ending) (w' : World) : Prop :=
 ∃ (p : List Nat) (At Aw : Option Addr) (ct cw : Nat), Put T p ∧ e = .returned (.agg #[.int .i64 ((oldsC T (putL T p)).length : Int), .slice At (joinC T (putL T p) 0).length ct, .slice Aw (waysTo T V (oldsC T (putL T p)).length (joinC T (putL T p) 0) (3 * T.length)).length cw]) ∧
  LRow w' w.heap.size At ct (joinC T (putL T p) 0) ∧ WaysAt w' w.heap.size Aw cw (waysTo T V (oldsC T (putL T p)).length (joinC T (putL T p) 0) (3 * T.length)) ∧ Below w.heap.size w w'
attribute [local irreducible] Blk World.alloc World.setCell World.cell? World.frozen? MapV MapI
theorem kindOf_any (m : Nat) (A Av Al : Option Addr) (c cv nl cl : Nat) (T : List Tri) (V : List Int) (w : World) (hs : checkR (m : Int) T = (0, 0, 0)) (hn : T.length ≤ 1000) (hk : kN T < 20) (hb : T.length * kN T ≤ 1000) (ht : TrisAt w w.heap.size A T.length T)
  (hm : V.length = m) (hv : Reads w w.heap.size 1 Av V.length (ZL V)) :
  Calls Tryz.prog 81 #[.agg #[.int .i64 (m : Int), .slice A T.length c, .slice Av V.length cv, .slice Al nl cl]] w (KindPost w T V) := by
 have HT := Lib.hid ht
 have HS := Lib.hid hs
 have HK := Lib.hid hk
 have HLB := Lib.hid hb
 have HV := Lib.hid hv
 have HVM := Lib.hid hm
 obtain ⟨nv, hnv⟩ : ∃ n, n = V.length := ⟨_, rfl⟩
 rw [← hnv]
 have HNV := Lib.hid hnv
 clear ht hs hk hb hv hm hnv
 obtain ⟨i0, hi0, hz0, hz1, hz2⟩ := info_parts int_infoC
 obtain ⟨i3, hi3, jz0, jz1, jz2⟩ := info_parts ints_info47
 go_enter Tryz.func81, Tryz.ntmps81
 go_upto_region 1 with (fail)
 obtain ⟨wA, hwA⟩ : ∃ U, U = (w.alloc (.cells #[.int .i64 (m : Int), .slice A T.length c, .slice Av nv cv, .slice Al nl cl] 125)).alloc (.cells #[.int .i64 0, .slice none 0 0, .slice none 0 0] 91) := ⟨_, rfl⟩
 have K1A : Hid (Blk wA w.heap.size 125 #[.int .i64 (m : Int), .slice A T.length c, .slice Av nv cv, .slice Al nl cl]) := by subst hwA; exact Lib.hid ((Blk.new _ _ _).alloc _)
 have K2A : Hid (Blk wA (w.heap.size + 1) 91 #[.int .i64 0, .slice none 0 0, .slice none 0 0]) := by subst hwA; exact Lib.hid (Blk.new_ (by rw [World.size_alloc]) _ _)
 have HBA : Hid (Below w.heap.size w wA) := by subst hwA; exact Lib.hid (bw_alloc (bw_alloc (Below.refl _ _) _) _)
 rw [← hwA]
 obtain ⟨b2, hb2⟩ : ∃ b, b = w.heap.size + 1 := ⟨_, rfl⟩
 obtain ⟨b1, hb1⟩ : ∃ b, b = w.heap.size := ⟨_, rfl⟩
 have HG : Hid (w.heap.size ≤ b1 ∧ w.heap.size ≤ b2 ∧ b1 ≠ b2) := Lib.hid (by omega)
 rw [← hb2] at K2A
 rw [← hb1] at K1A
 simp only [← hb2]
 simp only [← hb1]
 have HNE := Lib.hid (new_any (m : Int) A T.length c T wA hn (tris_on HBA.out HT.out))
 have p0 : wA.cell? ⟨b1, 0, none⟩ = some (.int .i64 (m : Int)) := K1A.out.cell 0
 have p1 : wA.cell? ⟨b1, 1, none⟩ = some (.slice A T.length c) := K1A.out.cell 1
 clear hwA hb1 hb2
 go_wp2_with fail
 refine HNE.out.mono ?_
 rintro e w1 hpost
 rcases hpost with ⟨_, g, rfl, htab, hb⟩ | ⟨hne, _⟩
 case inr => exact absurd HS.out hne
 rw [show wv (0, 0, 0) = .agg #[.int .i64 0, .int .i64 0, .int .i64 0] from rfl]
 have HTN : Hid (TabN w1 g m T) := Lib.hid ⟨htab.base (Nat.zero_le _), surf_chk47 HS.out, hn⟩
 have K11 := Lib.hid (K1A.out.below hb K1A.out.lt)
 have K21 := Lib.hid (K2A.out.below hb K2A.out.lt)
 have HB1 := Lib.hid (bw_call HBA.out hb)
 clear htab hb HNE K1A K2A HBA p0 p1
 go_upto_region 2 with (fail)
 obtain ⟨w2, hw2⟩ : ∃ U, U = w1.alloc (.cells #[.int .i64 0, .int .i64 0, .int .i64 0] 43) := ⟨_, rfl⟩
 have HT2 : Hid (TabN w2 g m T) := by subst hw2; exact Lib.hid (HTN.out.alloc _)
 have K12 : Hid (Blk w2 b1 125 #[.int .i64 (m : Int), .slice A T.length c, .slice Av nv cv, .slice Al nl cl]) := by subst hw2; exact Lib.hid (K11.out.alloc _)
 have K22 : Hid (Blk w2 b2 91 #[.int .i64 0, .slice none 0 0, .slice none 0 0]) := by subst hw2; exact Lib.hid (K21.out.alloc _)
 have HB2 : Hid (Below w.heap.size w w2) := by subst hw2; exact Lib.hid (bw_alloc HB1.out _)
 rw [← hw2]
 have HFO := Lib.hid (formYes_any m A c T w2 HS.out hn HK.out HLB.out (tris_on HB2.out HT.out))
 have p0 : w2.cell? ⟨b1, 0, none⟩ = some (.int .i64 (m : Int)) := K12.out.cell 0
 have p1 : w2.cell? ⟨b1, 1, none⟩ = some (.slice A T.length c) := K12.out.cell 1
 clear hw2 HTN K11 K21 HB1
 go_wp2_with fail
 refine HFO.out.mono ?_
 rintro e w3 ⟨p, At, Ao, ct, co, hp, rfl, hl, _, hb⟩
 have HT3 := Lib.hid (HT2.out.below hb)
 have K13 := Lib.hid (K12.out.below hb K12.out.lt)
 have K23 := Lib.hid (K22.out.below hb K22.out.lt)
 have HL3 := Lib.hid (LRow.base hl HB2.out.size)
 have HB3 := Lib.hid (bw_call HB2.out hb)
 have HP := Lib.hid hp
 obtain ⟨nN, hnN⟩ : ∃ x, x = (oldsC T (putL T p)).length := ⟨_, rfl⟩
 obtain ⟨LJ, hLJ⟩ : ∃ x, x = joinC T (putL T p) 0 := ⟨_, rfl⟩
 obtain ⟨nJ, hnJ⟩ : ∃ x, x = LJ.length := ⟨_, rfl⟩
 rw [← hLJ] at HL3
 rw [← hnN, ← hLJ, ← hnJ]
 have hnJ2 : nJ ≤ 1000 := by
  have h1 := put_mem hp
  have h2 := joinC_len (T := T) (putL T p) 0 h1.2
  rw [h1.1] at h2
  have := HLB.out
  rw [hnJ, hLJ]; omega
 have HNN := Lib.hid hnN
 have HLJ := Lib.hid hLJ
 have HNJ := Lib.hid hnJ
 clear hl hb hp HFO HT2 K12 K22 HB2 p0 p1 hnN hLJ hnJ
 go_upto_region 4 with (fail)
 obtain ⟨w4, hw4⟩ : ∃ U, U = (w3.alloc (.cells #[.int .i64 (nN : Int), .slice At nJ ct] 24)).alloc (.cells #[.int .i64 (nN : Int), .slice At nJ ct, .slice none 0 0] 91) := ⟨_, rfl⟩
 have HT4 : Hid (TabN w4 g m T) := by subst hw4; exact Lib.hid ((HT3.out.alloc _).alloc _)
 have K14 : Hid (Blk w4 b1 125 #[.int .i64 (m : Int), .slice A T.length c, .slice Av nv cv, .slice Al nl cl]) := by subst hw4; exact Lib.hid ((K13.out.alloc _).alloc _)
 have K24 : Hid (Blk w4 b2 91 #[.int .i64 0, .slice none 0 0, .slice none 0 0]) := by subst hw4; exact Lib.hid ((K23.out.alloc _).alloc _)
 have K54 : Hid (Blk w4 w3.heap.size 24 #[.int .i64 (nN : Int), .slice At nJ ct]) := by subst hw4; exact Lib.hid ((Blk.new _ _ _).alloc _)
 have K84 : Hid (Blk w4 (w3.heap.size + 1) 91 #[.int .i64 (nN : Int), .slice At nJ ct, .slice none 0 0]) := by subst hw4; exact Lib.hid (Blk.new_ (by rw [World.size_alloc]) _ _)
 have HL4 : Hid (LRow w4 w.heap.size At ct LJ) := by subst hw4; exact Lib.hid (LRow.alloc (LRow.alloc HL3.out _) _)
 have HB4 : Hid (Below w.heap.size w w4) := by subst hw4; exact Lib.hid (bw_alloc (bw_alloc HB3.out _) _)
 have HG8 : Hid (w.heap.size ≤ w3.heap.size) := Lib.hid HB3.out.size
 have HT38 : Hid (Below w3.heap.size w3 w4) := by subst hw4; exact Lib.hid (bw_alloc (bw_alloc (Below.refl _ _) _) _)
 rw [← hw4]
 obtain ⟨b8, hb8⟩ : ∃ b, b = w3.heap.size + 1 := ⟨_, rfl⟩
 obtain ⟨b5, hb5⟩ : ∃ b, b = w3.heap.size := ⟨_, rfl⟩
 have HGB8 : Hid (w.heap.size ≤ b8) := Lib.hid (by have := HG8.out; omega)
 have HG38 : Hid (w3.heap.size ≤ b8) := Lib.hid (by omega)
 rw [← hb8] at K84
 rw [← hb5] at K54
 simp only [← hb8]
 simp only [← hb5]
 have HBL2 : Hid (b2 < w3.heap.size) := Lib.hid K23.out.lt
 clear hw4 hb8 hb5 K13 K23 HL3 HB3
 have HTR : Hid (Calls Tryz.prog 86 #[.pointer (some ⟨g, 0, none⟩)] w4 (IsPost w4 (.int .i64 T.length))) := Lib.hid (tris_any g 0 m T w4 HT4.out.t.s)
 have u3 : IntKind.i64.wrap (3 * (T.length : Int)) = 3 * (T.length : Int) := by rw [IntKind.wrap_i64]; omega
 have HWS : Hid (WaysAt w4 w4.heap.size none 0 (waysTo T V nN LJ 0)) := Lib.hid (WaysAt.nil _ _)
 have HK84 := K84
 have HN28 : Hid (b2 ≠ b8) := Lib.hid (by have := HBL2.out; have := HG38.out; omega)
 have HN1 : Hid (b1 ≠ b8) := Lib.hid (K14.out.ne_ K84.out (by decide))
 have HN5 : Hid (b5 ≠ b8) := Lib.hid (K54.out.ne_ K84.out (by decide))
 have HW4 : Hid (w.heap.size ≤ w4.heap.size) := Lib.hid HB4.out.size
 have HSV : Hid (Reads w4 w4.heap.size 1 Av nv (ZL V)) := Lib.hid (by rw [HNV.out]; exact (HV.out.below HB4.out).more HB4.out.size)
 have HW0 : Hid (V.length = m) := HVM
 go_wp2_with fail
 refine HTR.out.mono ?_
 rintro e w4' ⟨rfl, hw⟩
 replace hw := hw.symm
 subst hw
 clear HTR
 go_wp2_with fail
 go_loopw [9, 10, 11, 13, 14, 15, 34] (fun _ _ _ _ _ _ kv wr => ∃ (q nw cw : Nat) (Aw : Option Addr), q ≤ 3 * T.length ∧ kv = .int .i64 (q : Int) ∧ Hid (nw = (waysTo T V nN LJ q).length) ∧ Hid (Blk wr b8 91 #[.int .i64 (nN : Int), .slice At nJ ct, .slice Aw nw cw]) ∧ Hid (WaysAt wr w4.heap.size Aw cw (waysTo T V nN LJ q)) ∧ Hid (Only (fun i => i = b8) w4 wr)) (fun _ _ _ _ _ _ kv _ => 3 * T.length - (intOf kv).toNat)
 case atStart => exact ⟨0, 0, 0, none, by omega, rfl, Lib.hid rfl, K84, HWS, Lib.hid (Only.refl _ _)⟩
 case round =>
  clear HWS K84
  obtain ⟨q, nw, cw, Aw, hq, rfl, HNW, K8r, HWr, HOr⟩ := hrel
  obtain ⟨wE, hwE⟩ : ∃ wE : World, wE = wr := ⟨_, rfl⟩
  rw [← hwE] at K8r HWr HOr ⊢
  clear hwE
  by_cases hql : q < 3 * T.length
  · have hqi : (q : Int) < 3 * (T.length : Int) := by omega
    have HRO := Lib.hid (rooted_any g m T q wE hql (tab_only HT3.out HT38.out HOr.out HG38.out))
    go_wp2_with fail
    refine HRO.out.mono ?_
    rintro e wF ⟨Ar, Ao2, Ac, cr, co2, cc, rfl, hl, ho, _, hb⟩
    obtain ⟨R, hR⟩ : ∃ R, R = rootT T q := ⟨_, rfl⟩
    obtain ⟨O, hO⟩ : ∃ O, O = rootO T q := ⟨_, rfl⟩
    obtain ⟨nR, hnR⟩ : ∃ n, n = R.length := ⟨_, rfl⟩
    obtain ⟨nO, hnO⟩ : ∃ n, n = O.length := ⟨_, rfl⟩
    have hnR1 : nR ≤ 1000 := by rw [hnR, hR, rootT_len]; have := (rootC_fi hql).short; omega
    have hnO1 : nO ≤ 3000 := by rw [hnO, hO]; have := rootO_len q hql; omega
    rw [← rootT_len, ← hR, ← hO, ← hnR, ← hnO]
    rw [← hR] at hl
    rw [← hO] at ho
    have HR := Lib.hid hR
    have HO := Lib.hid hO
    have HNR := Lib.hid hnR
    have HNO := Lib.hid hnO
    have HRl := Lib.hid (LRow.base hl HOr.out.size)
    have HRo := Lib.hid (own_low (B := w4.heap.size) ho HOr.out.size)
    have HOF : Hid (Only (fun i => i = b8) w4 wF) := Lib.hid (HOr.out.trans (Only.of_below hb _))
    have K8F := Lib.hid (K8r.out.below hb K8r.out.lt)
    have HWF := Lib.hid (HWr.out.below hb)
    clear hl ho hb hR hO hnR hnO HRO HOr K8r HWr
    go_upto_region 8 with (fail)
    obtain ⟨wG, hwG⟩ : ∃ U, U = wF.alloc (.cells #[.int .i64 (nO : Int), .slice Ar nR cr] 24) := ⟨_, rfl⟩
    have KXG : Hid (Blk wG wF.heap.size 24 #[.int .i64 (nO : Int), .slice Ar nR cr]) := by subst hwG; exact Lib.hid (Blk.new _ _ _)
    have K8G : Hid (Blk wG b8 91 #[.int .i64 (nN : Int), .slice At nJ ct, .slice Aw nw cw]) := by subst hwG; exact Lib.hid (K8F.out.alloc _)
    have HWG : Hid (WaysAt wG w4.heap.size Aw cw (waysTo T V nN LJ q)) := by subst hwG; exact Lib.hid (HWF.out.alloc _)
    have HOG : Hid (Only (fun i => i = b8) w4 wG) := by subst hwG; exact Lib.hid (HOF.out.alloc _)
    have HRlG : Hid (LRow wG w4.heap.size Ar cr R) := by subst hwG; exact Lib.hid (LRow.alloc HRl.out _)
    have HRoG : Hid (IR wG w4.heap.size Ao2 co2 O) := by subst hwG; exact Lib.hid (IR.alloc HRo.out _)
    rw [← hwG]
    obtain ⟨bx, hbx⟩ : ∃ b, b = wF.heap.size := ⟨_, rfl⟩
    rw [← hbx] at KXG
    simp only [← hbx]
    clear hwG hbx K8F HWF HOF HRl HRo
    have K5G : Hid (Blk wG b5 24 #[.int .i64 (nN : Int), .slice At nJ ct]) := Lib.hid (K54.out.only HOG.out HN5.out)
    have HLG : Hid (LRow wG w.heap.size At ct LJ) := Lib.hid (own_same HL4.out fun k hk => HOG.out.block k (World.ownsRow.lt HL4.out k hk).2 fun e => own_blk_ne HL4.out HK84.out (by decide) (e ▸ hk))
    have HSM := Lib.hid (soupSame_dec (nO : Int) (nN : Int) R LJ Ar At nR nJ cr ct wG (by omega) (by omega) (by rw [HNR.out]; exact LRow.tris HRlG.out) (by rw [HNJ.out]; exact LRow.tris HLG.out))
    have q0 : wG.cell? ⟨bx, 0, none⟩ = some (.int .i64 (nO : Int)) := KXG.out.cell 0
    have q1 : wG.cell? ⟨bx, 1, none⟩ = some (.slice Ar nR cr) := KXG.out.cell 1
    have q2 : wG.cell? ⟨b5, 0, none⟩ = some (.int .i64 (nN : Int)) := K5G.out.cell 0
    have q3 : wG.cell? ⟨b5, 1, none⟩ = some (.slice At nJ ct) := K5G.out.cell 1
    cases hgd : goodC T nN LJ q with
    | false =>
     have hdc : decide ((nO : Int) = (nN : Int) ∧ R = LJ) = false := by rw [HNO.out, HO.out, HR.out]; exact hgd
     rw [hdc] at HSM
     have HNX : Hid (waysTo T V nN LJ (q + 1) = waysTo T V nN LJ q) := Lib.hid (waysTo_no hgd)
     clear hdc hgd
     go_wp2_with fail
     refine HSM.out.mono ?_
     rintro e wH ⟨rfl, hb⟩
     have K8H := Lib.hid (K8G.out.below hb K8G.out.lt)
     have HWH : Hid (WaysAt wH w4.heap.size Aw cw (waysTo T V nN LJ (q + 1))) := Lib.hid (by rw [HNX.out]; exact HWG.out.below hb)
     have HOH : Hid (Only (fun i => i = b8) w4 wH) := Lib.hid (HOG.out.trans (Only.of_below hb _))
     have HNH : Hid (nw = (waysTo T V nN LJ (q + 1)).length) := Lib.hid (by rw [HNX.out]; exact HNW.out)
     clear hb
     go_wp2_with fail
     go_roundw
     case rel => exact ⟨q + 1, nw, cw, Aw, by omega, by go_num, HNH, K8H, HWH, HOH⟩
     case measure => simp [intOf]; omega
    | true =>
     have hdc : decide ((nO : Int) = (nN : Int) ∧ R = LJ) = true := by rw [HNO.out, HO.out, HR.out]; exact hgd
     rw [hdc] at HSM
     have HNX : Hid (waysTo T V nN LJ (q + 1) = waysTo T V nN LJ q ++ [wayOf T V q]) := Lib.hid (waysTo_yes hgd)
     clear hdc hgd
     go_wp2_with fail
     refine HSM.out.mono ?_
     rintro e wH ⟨rfl, hb⟩
     have K8H := Lib.hid (K8G.out.below hb K8G.out.lt)
     have HWH := Lib.hid (HWG.out.below hb)
     have HOH : Hid (Only (fun i => i = b8) w4 wH) := Lib.hid (HOG.out.trans (Only.of_below hb _))
     have HRoH := Lib.hid (HRoG.out.below hb)
     clear hb HSM K8G HWG HOG HRoG HRlG KXG K5G HLG q0 q1 q2 q3
     have HOm : Hid (∀ v ∈ O, 0 ≤ v ∧ v < (m : Int)) := Lib.hid fun v hv => by rw [HO.out] at hv; exact oldC_in (surf_chk47 HS.out) (rootC_fi hql).lt v hv
     have hmk : ∀ wx : World, (Instr.makeSlice 25 (.int .i64 (nO : Int)) (.int .i64 (nO : Int))).run Tryz.prog wx = .ok (.slice (some ⟨wx.heap.size, 0, none⟩) nO nO) (wx.alloc (.cells (intsA (List.replicate nO 0)) 3)) := fun wx => by
      have := run_make_rowN (P := Tryz.prog) 25 3 i0 _ Tryz.underlying25 hi0 hz0 .i64 .i64 nO nO (Nat.le_refl _) (by rw [hz2]; omega) (by omega) wx
      rw [hz1, madeI1] at this
      exact this
     go_upto_region 10 with (fail)
     obtain ⟨wI, hwI⟩ : ∃ U, U = wH.alloc (.cells (intsA (List.replicate nO 0)) 3) := ⟨_, rfl⟩
     have KWI : Hid (Blk wI wH.heap.size 3 (intsA (wayP V O 0))) := by subst hwI; exact Lib.hid (by rw [wayP_zero, ← HNO.out]; exact Blk.new _ _ _)
     have K8I : Hid (Blk wI b8 91 #[.int .i64 (nN : Int), .slice At nJ ct, .slice Aw nw cw]) := by subst hwI; exact Lib.hid (K8H.out.alloc _)
     have HBHI : Hid (Below wH.heap.size wH wI) := by subst hwI; exact Lib.hid (bw_alloc (Below.refl _ _) _)
     have HOI : Hid (Only (fun i => i = b8) w4 wI) := by subst hwI; exact Lib.hid (HOH.out.alloc _)
     have HRoI : Hid (IR wI w4.heap.size Ao2 co2 O) := by subst hwI; exact Lib.hid (IR.alloc HRoH.out _)
     have HLg : Hid (∀ k, (Value.slice Ao2 O.length co2).ownBlock = some k → k < wH.heap.size) := Lib.hid fun k hk => (World.ownsRow.lt HRoH.out k hk).2
     have HL4w : Hid (w4.heap.size ≤ wH.heap.size) := Lib.hid HOH.out.size
     have HL8 : Hid (b8 < wH.heap.size) := Lib.hid K8H.out.lt
     rw [← hwI]
     obtain ⟨gw, hgw⟩ : ∃ b, b = wH.heap.size := ⟨_, rfl⟩
     rw [← hgw] at KWI HLg HL4w HL8
     simp only [← hgw]
     have HGW := Lib.hid hgw
     clear hwI hgw K8H HOH HRoH hmk
     have HK1I : Hid (Blk wI b1 125 #[.int .i64 (m : Int), .slice A T.length c, .slice Av nv cv, .slice Al nl cl]) := Lib.hid (K14.out.only HOI.out HN1.out)
     have HN1w : Hid (b1 ≠ gw) := Lib.hid (by have := K14.out.lt; have := HL4w.out; omega)
     have HBI : Hid (Below w.heap.size w wI) := Lib.hid (HB4.out.trans (HOI.out.below HW4.out fun k hk e => by have := HGB8.out; omega))
     have HGWw : Hid (w.heap.size ≤ gw) := Lib.hid (Nat.le_trans HW4.out HL4w.out)
     go_wp2_with fail
     go_loopw [14, 15, 53] (fun _ _ kv wr => ∃ i : Nat, i ≤ nO ∧ kv = .int .i64 (i : Int) ∧ Hid (Blk wr gw 3 (intsA (wayP V O i))) ∧ Hid (Only (fun i => i = gw) wI wr)) (fun _ _ kv _ => nO - (intOf kv).toNat)
     case atStart => exact ⟨0, by omega, rfl, KWI, Lib.hid (Only.refl _ _)⟩
     case round =>
      clear KWI
      obtain ⟨i, hi, rfl, KWr, HOw⟩ := hrel
      obtain ⟨wJ, hwJ⟩ : ∃ wJ : World, wJ = wr := ⟨_, rfl⟩
      rw [← hwJ] at KWr HOw ⊢
      clear hwJ
      by_cases hio : i < nO
      · have hii : (i : Int) < (nO : Int) := by omega
        have hil : i < O.length := by have := HNO.out; omega
        have hRo : IR wJ w4.heap.size Ao2 co2 O := own_same HRoI.out fun k hk => HOw.out.block k (World.ownsRow.lt HRoI.out k hk).2 fun e => by have := HLg.out k hk; omega
        obtain ⟨ad, hA, cq⟩ := IR.cellQ hRo (List.getElem?_eq_getElem hil)
        obtain ⟨v, hv⟩ : ∃ v, v = O[i] := ⟨_, rfl⟩
        have hvr := HOm.out v (by rw [hv]; exact List.getElem_mem hil)
        obtain ⟨x, rfl⟩ : ∃ x : Nat, v = (x : Int) := ⟨v.toNat, by omega⟩
        rw [← hv] at cq
        have HVi : Hid (O[i]? = some (x : Int)) := Lib.hid (by rw [List.getElem?_eq_getElem hil, ← hv])
        have hxv : x < nv := by have h1 := HVM.out; have h2 := HNV.out; omega
        have hVr : Reads wJ w.heap.size 1 Av nv (ZL V) := by rw [HNV.out]; exact HV.out.below (HBI.out.trans (HOw.out.below HBI.out.size fun k hk e => by have := HGWw.out; omega))
        obtain ⟨ae, y, hAv, _, hy, hcy⟩ := zl_read hVr hxv
        have HYV : Hid (V.getD (x : Int).toNat 0 = y) := Lib.hid (by rw [List.getD, show (x : Int).toNat = x by omega, hy]; rfl)
        have hxi : (x : Int) < (nv : Int) := by omega
        have c0 := cq.c
        have K1J := Lib.hid (HK1I.out.only HOw.out HN1w.out)
        have d2 : wJ.cell? ⟨b1, 2, none⟩ = some (.slice Av nv cv) := K1J.out.cell 2
        have e0 : wJ.cell? ⟨gw, i, none⟩ = some (.int .i64 ((wayP V O i).getD i 0)) := by rw [KWr.out.cell]; exact intsA_at (by rw [wayP_len (by omega)]; exact hil)
        have f0 := KWr.out.frozen i
        clear hRo hvr hv cq hVr hy
        subst hA hAv
        go_wp2_with fail
        have KW2 : Hid (Blk (wJ.setCell ⟨gw, i, none⟩ (.int .i64 y)) gw 3 (intsA (wayP V O (i + 1)))) := Lib.hid (by rw [← wayP_set HVi.out, HYV.out, ← intsA_set]; exact KWr.out.set_ i _)
        have HO2 : Hid (Only (fun i => i = gw) wI (wJ.setCell ⟨gw, i, none⟩ (.int .i64 y))) := Lib.hid (only_set1 HOw.out i _)
        go_roundw
        case rel => exact ⟨i + 1, by omega, by go_num, KW2, HO2⟩
        case measure => simp [intOf]; omega
      · obtain rfl : i = nO := by omega
        have K8J := Lib.hid (K8I.out.only HOw.out (by have := HL8.out; omega))
        have HWJ : WaysAt wJ w4.heap.size Aw cw (waysTo T V nN LJ q) := HWH.out.below (HBHI.out.trans (HOw.out.below HBHI.out.size fun k hk e => by have := HGW.out; omega))
        have hwy : wayP V O i = wayOf T V q := by rw [HNO.out, wayP_all, wayOf, HO.out]
        have hwl : i = (wayOf T V q).length := by rw [← hwy, wayP_len (by rw [← HNO.out]; exact Nat.le_refl _), HNO.out]
        have HIW : Hid (IR wJ w4.heap.size (some ⟨gw, 0, none⟩) i (wayOf T V q)) := Lib.hid (by
         have h1 := KWr.out
         rw [hwy] at h1
         have h2 := ints_own h1 HL4w.out (by rw [← hwl]; unfold maxLen; omega)
         rw [← hwl] at h2
         exact h2)
        have HWL := Lib.hid hwl
        obtain ⟨LW, hLW, hLo, hLi⟩ := HWJ.ex
        rw [← HNW.out] at hLo
        have HLW := Lib.hid hLW
        have HLo := Lib.hid hLo
        have HLi := Lib.hid hLi
        have hnw : nw ≤ 3000 := by have := waysTo_len T V nN LJ q; have h := HNW.out; omega
        have HOJ : Hid (Only (fun i => i = b8) w4 wJ) := Lib.hid (HOI.out.trans_ HOw.out fun k hk e => by have := HL4w.out; omega)
        clear HWJ hwy hwl hLW hLo hLi KWr HOw
        have k2 := K8J.out.cell 2
        simp at k2
        go_wp2_with (at_builtin; go_must (refine wpList_append_sl _ rfl (.tmp 68) (.tmp 70) _ rfl w4.heap.size 25 i3 _ 1 24 Tryz.underlying33 hi3 jz0 jz1 jz2 rfl (by omega) (.slice Aw nw cw) nw (LW.map wayC) rfl (own_up HLo.out _) (wJ.heap.size + 1) (some ⟨wJ.heap.size, 0, none⟩) 1 1 [.slice (some ⟨gw, 0, none⟩) i i] rfl (reads_newN _ _ _ 1 1 rfl rfl) (by simp [Value.oneCell']) (by simp only [maxLen]; omega) (by omega) (by rw [World.size_alloc]; have := HOJ.out.size; omega) ?_); intro A5 c5 wK hown5 hg5 hat5; have K8K : Hid (Blk wK b8 91 #[.int .i64 (nN : Int), .slice At nJ ct, .slice Aw nw cw]) := Lib.hid (Blk.grown (K8J.out.alloc _) hg5 fun e => own_blk_ne HLo.out K8J.out (by decide) e.symm); have k2 : wK.cell? ⟨b8, 2, none⟩ = some (.slice Aw nw cw) := K8K.out.cell 2; have kf := K8K.out.frozen 2)
        have HWn : Hid (WaysAt wK w4.heap.size A5 c5 (waysTo T V nN LJ (q + 1))) := Lib.hid (by
         rw [HNX.out]
         have hlo := HLo.out
         have hho := hown5
         have hg := hg5
         rw [HNW.out] at hlo hho hg
         refine WaysAt.push ⟨⟨LW, HLW.out, own_up hlo _, fun x hx => IR.alloc (HLi.out x hx) _⟩⟩ (Aw := some ⟨gw, 0, none⟩) (cw := i) ?_ hg HLW.out (fun x hx => IR.alloc (HLi.out x hx) _) (own_up hlo _) ?_
         · have := HIW.out
           rw [HWL.out] at this ⊢
           exact IR.alloc this _
         · rw [HWL.out] at hho
           rw [HWL.out]
           exact hho)
        have HOK : Hid (Only (fun i => i = b8) w4 wK) := Lib.hid ((HOJ.out.alloc _).grown hg5 fun x hx => .inr (World.ownsRow.lt HLo.out x hx).1)
        have HNK : Hid (nw + 1 = (waysTo T V nN LJ (q + 1)).length) := Lib.hid (by rw [HNX.out, List.length_append, HNW.out]; rfl)
        have K8L : Hid (Blk (wK.setCell ⟨b8, 2, none⟩ (.slice A5 (nw + 1) c5)) b8 91 #[.int .i64 (nN : Int), .slice At nJ ct, .slice A5 (nw + 1) c5]) := Lib.hid (by simpa using K8K.out.set_ 2 (.slice A5 (nw + 1) c5))
        have HWL2 : Hid (WaysAt (wK.setCell ⟨b8, 2, none⟩ (.slice A5 (nw + 1) c5)) w4.heap.size A5 c5 (waysTo T V nN LJ (q + 1))) := Lib.hid (HWn.out.off K8K.out (by decide) (by decide) 2 _)
        have HOL : Hid (Only (fun i => i = b8) w4 (wK.setCell ⟨b8, 2, none⟩ (.slice A5 (nw + 1) c5))) := Lib.hid (only_set1 HOK.out 2 _)
        go_roundw
        case rel => exact ⟨q + 1, nw + 1, c5, A5, by omega, by go_num, HNK, K8L, HWL2, HOL⟩
        case measure => simp [intOf]; omega
  · obtain rfl : q = 3 * T.length := by omega
    have K2r := Lib.hid (K24.out.only HOr.out (by have := HN28.out; omega))
    have HLr : Hid (LRow wE w.heap.size At ct LJ) := Lib.hid (own_same HL4.out fun k hk => HOr.out.block k (World.ownsRow.lt HL4.out k hk).2 fun e => own_blk_ne HL4.out HK84.out (by decide) (e ▸ hk))
    have HBr : Hid (Below w.heap.size w wE) := Lib.hid (HB4.out.trans (HOr.out.below HW4.out fun k hk e => by have := HGB8.out; omega))
    clear HOr HT3 HT38
    have x0 := K8r.out.cell 0
    have x1 := K8r.out.cell 1
    have x2 := K8r.out.cell 2
    have y0 := K2r.out.cell 0
    have y1 := K2r.out.cell 1
    have y2 := K2r.out.cell 2
    have g0 := K2r.out.frozen 0
    have g1 := K2r.out.frozen 1
    have g2 := K2r.out.frozen 2
    simp at x0 x1 x2 y0 y1 y2
    go_wp2_with fail
    obtain ⟨wf, hwf⟩ : ∃ U, U = ((wE.setCell ⟨b2, 0, none⟩ (.int .i64 (nN : Int))).setCell ⟨b2, 1, none⟩ (.slice At nJ ct)).setCell ⟨b2, 2, none⟩ (.slice Aw nw cw) := ⟨_, rfl⟩
    have K2a : Blk (wE.setCell ⟨b2, 0, none⟩ (.int .i64 (nN : Int))) b2 91 #[.int .i64 (nN : Int), .slice none 0 0, .slice none 0 0] := by simpa using K2r.out.set_ 0 (.int .i64 (nN : Int))
    have K2b : Blk ((wE.setCell ⟨b2, 0, none⟩ (.int .i64 (nN : Int))).setCell ⟨b2, 1, none⟩ (.slice At nJ ct)) b2 91 #[.int .i64 (nN : Int), .slice At nJ ct, .slice none 0 0] := by simpa using K2a.set_ 1 (.slice At nJ ct)
    have K2f : Hid (Blk wf b2 91 #[.int .i64 (nN : Int), .slice At nJ ct, .slice Aw nw cw]) := by subst hwf; exact Lib.hid (by simpa using K2b.set_ 2 (.slice Aw nw cw))
    have HLf : LRow wf w.heap.size At ct LJ := by subst hwf; exact own_off (own_off (own_off HLr.out K2r.out (by decide) 0 _) K2a (by decide) 1 _) K2b (by decide) 2 _
    have HWf : WaysAt wf w.heap.size Aw cw (waysTo T V nN LJ (3 * T.length)) := by subst hwf; exact (((HWr.out.off K2r.out (by decide) (by decide) 0 _).off K2a (by decide) (by decide) 1 _).off K2b (by decide) (by decide) 2 _).base HW4.out
    have HBf : Below w.heap.size w wf := by subst hwf; exact bw_set (bw_set (bw_set HBr.out (p := ⟨b2, 0, none⟩) HG.out.2.1 _) (p := ⟨b2, 1, none⟩) HG.out.2.1 _) (p := ⟨b2, 2, none⟩) HG.out.2.1 _
    have w0 := K2f.out.cell 0
    have w1' := K2f.out.cell 1
    have w2' := K2f.out.cell 2
    simp at w0 w1' w2'
    rw [← hwf]
    refine bodyPost_ret (v := .agg #[.int .i64 (nN : Int), .slice At nJ ct, .slice Aw nw cw]) ?_ rfl ⟨p, At, Aw, ct, cw, HP.out, by rw [HNN.out, HNJ.out, HNW.out, HNN.out, HLJ.out], by rw [← HLJ.out]; exact HLf, by rw [← HNN.out, ← HLJ.out]; exact HWf, HBf⟩
    simp [results, Tryz.results81, go_sem, w0, w1', w2']
end Go.Proofs.YtiajlmajenabiaaGreat
namespace Go.Proofs.YtiajlmajenabiaaGreat
open Go.RowKit
structure KindV where
 M : Int
 L : List Tri
 ws : List (List Int)
def kindV (P : PartV) : KindV :=
 ⟨(rootO P.t (bestN P.t 0)).length, rootT P.t (bestN P.t 0), waysTo P.t P.v (rootO P.t (bestN P.t 0)).length (rootT P.t (bestN P.t 0)) (3 * P.t.length)⟩
theorem put_one {T : List Tri} (h : kN T = 1) {p : List Nat} (hp : Put T p) : putL T p = [bestN T 0] := by
 rw [put_list hp, h]
 have h1 := hp.perm
 rw [h] at h1
 have : p = [0] := List.perm_singleton.1 h1
 rw [this]
 rfl
theorem shift_zero (t : Tri) : shiftT 0 t = t := by
 obtain ⟨a, b, c⟩ := t
 simp [shiftT]
theorem joinC_one (T : List Tri) (b : Nat) : joinC T [b] 0 = rootT T b := by
 simp only [joinC, List.append_nil]
 conv => rhs; rw [← List.map_id (rootT T b)]
 exact List.map_congr_left fun t _ => shift_zero t
theorem oldsC_one (T : List Tri) (b : Nat) : oldsC T [b] = rootO T b := by simp [oldsC]
def KindPost1 (w : World) (k : KindV) (e : Ending) (w' : World) : Prop :=
 ∃ (At Aw : Option Addr) (ct cw : Nat), e = .returned (.agg #[.int .i64 k.M, .slice At k.L.length ct, .slice Aw k.ws.length cw]) ∧ LRow w' w.heap.size At ct k.L ∧ WaysAt w' w.heap.size Aw cw k.ws ∧ Below w.heap.size w w'
theorem kindOf1_any (A Av Al : Option Addr) (c cv nl cl : Nat) (P : PartV) (w : World) (hN : P.n = (P.v.length : Int)) (hs : checkR P.n P.t = (0, 0, 0)) (hn : P.t.length ≤ 1000) (hk : kN P.t = 1) (ht : TrisAt w w.heap.size A P.t.length P.t)
  (hv : Reads w w.heap.size 1 Av P.v.length (ZL P.v)) :
  Calls Tryz.prog 81 #[.agg #[.int .i64 P.n, .slice A P.t.length c, .slice Av P.v.length cv, .slice Al nl cl]] w (KindPost1 w (kindV P)) := by
 rw [hN] at hs ⊢
 refine (kindOf_any P.v.length A Av Al c cv nl cl P.t P.v w hs hn (by omega) (by rw [hk]; omega) ht rfl hv).mono ?_
 rintro e w' ⟨p, At, Aw, ct, cw, hp, rfl, hl, hw, hb⟩
 rw [put_one hk hp, joinC_one, oldsC_one] at *
 exact ⟨At, Aw, ct, cw, rfl, hl, hw, hb⟩
structure KCell where
 At : Option Addr
 ct : Nat
 Aw : Option Addr
 cw : Nat
 k : KindV
def KCell.cells (x : KCell) : List Value := [.int .i64 x.k.M, .slice x.At x.k.L.length x.ct, .slice x.Aw x.k.ws.length x.cw]
structure KindsAt (W : World) (B : Nat) (A : Option Addr) (c : Nat) (ks : List KindV) : Prop where
 ex : ∃ L : List KCell, L.map KCell.k = ks ∧ W.ownsRow B 91 3 (.slice A ks.length c) ks.length (L.flatMap KCell.cells) ∧ ∀ x ∈ L, LRow W B x.At x.ct x.k.L ∧ WaysAt W B x.Aw x.cw x.k.ws
section
variable {W W' : World} {B c : Nat} {A : Option Addr} {ks : List KindV}
theorem KindsAt.nil (W : World) (B : Nat) : KindsAt W B none 0 [] := ⟨⟨[], rfl, World.ownsRow_nil _ _ _ _, fun x hx => by cases hx⟩⟩
theorem KindsAt.same (h : KindsAt W B A c ks) (hb : ∀ (el : TypeId) (s n : Nat) (z : Value) (xs : List Value), W.ownsRow B el s z n xs → W'.ownsRow B el s z n xs) : KindsAt W' B A c ks := by
 obtain ⟨L, h1, h2, h3⟩ := h.ex
 exact ⟨⟨L, h1, hb _ _ _ _ _ h2, fun x hx => ⟨hb _ _ _ _ _ (h3 x hx).1, (h3 x hx).2.same fun el s n z xs _ ho => hb _ _ _ _ _ ho⟩⟩⟩
theorem KindsAt.below (h : KindsAt W B A c ks) (hb : Below W.heap.size W W') : KindsAt W' B A c ks := h.same fun _ _ _ _ _ ho => own_same ho fun q hq => hb.block q (World.ownsRow.lt ho q hq).2
theorem KindsAt.alloc (h : KindsAt W B A c ks) (o : Obj) : KindsAt (W.alloc o) B A c ks := h.below (bw_alloc (Below.refl _ _) o)
theorem KindsAt.drew (h : KindsAt W B A c ks) : KindsAt W.drew B A c ks := h.below (bw_drew (Below.refl _ _))
theorem KindsAt.base {B' : Nat} (h : KindsAt W B A c ks) (hB : B' ≤ B) : KindsAt W B' A c ks := by
 obtain ⟨L, h1, h2, h3⟩ := h.ex
 exact ⟨⟨L, h1, own_low h2 hB, fun x hx => ⟨LRow.base (h3 x hx).1 hB, (h3 x hx).2.base hB⟩⟩⟩
theorem KindsAt.at_ (h : KindsAt W B A c ks) {i : Nat} (hi : i < ks.length) : ∃ (g : Nat) (At Aw : Option Addr) (ct cw : Nat) (k : KindV), A = some ⟨g, 0, none⟩ ∧ ks[i]? = some k ∧ W.cell? ⟨g, i * 3, none⟩ = some (.int .i64 k.M) ∧ W.cell? ⟨g, i * 3 + 1, none⟩ = some (.slice At k.L.length ct) ∧ W.cell? ⟨g, i * 3 + 2, none⟩ = some (.slice Aw k.ws.length cw) ∧
  LRow W B At ct k.L ∧ WaysAt W B Aw cw k.ws := by
 obtain ⟨L, h1, h2, h3⟩ := h.ex
 obtain ⟨g, c1, hv, _⟩ := World.ownsRow.form h2 (by omega)
 injection hv with hA _ hc
 have hl : i < L.length := by rw [← h1, List.length_map] at hi; exact hi
 have hx : L[i]? = some L[i] := List.getElem?_eq_getElem hl
 have hcell : ∀ r u, r < 3 → L[i].cells[r]? = some u → W.cell? ⟨g, i * 3 + r, none⟩ = some u := fun r u hr hu => by
  have h4 := flatMap_at 3 KCell.cells (fun _ => rfl) L i r _ hx hr
  rw [hu] at h4
  have := World.ownsRow.cells (hA ▸ h2) (g := g) rfl (i * 3 + r) u h4
  rw [show (⟨g, 0, none⟩ : Addr).add (i * 3 + r) = ⟨g, i * 3 + r, none⟩ by unfold Addr.add; split <;> simp_all] at this
  exact this
 exact ⟨g, L[i].At, L[i].Aw, L[i].ct, L[i].cw, L[i].k, hA, by rw [← h1, List.getElem?_map, hx]; rfl, hcell 0 _ (by decide) rfl, hcell 1 _ (by decide) rfl, hcell 2 _ (by decide) rfl, (h3 _ (List.getElem_mem hl)).1, (h3 _ (List.getElem_mem hl)).2⟩
end
end Go.Proofs.YtiajlmajenabiaaGreat
namespace Go.Proofs.YtiajlmajenabiaaGreat
open Go.RowKit Go.Shelf
def alikeK (o k : KindV) : Bool := decide (o.M = k.M ∧ o.L = k.L)
def likeN (ks : List KindV) (k : KindV) (j : Nat) : Nat := 1 + ((ks.take j).filter fun o => alikeK o k).length
def timesN (n k : Nat) : Option Nat := if n * k ≤ 4611686018427387904 then some (n * k) else none
def orderN (ks : List KindV) : Nat → Option Nat
 | 0 => some 1
 | i + 1 => (orderN ks i).bind fun n => (ks[i]?).bind fun k => (timesN n k.ws.length).bind fun n' => timesN n' (likeN ks k i)
theorem likeN_zero (ks : List KindV) (k : KindV) : likeN ks k 0 = 1 := by simp [likeN]
theorem likeN_yes {ks : List KindV} {o k : KindV} {j : Nat} (ho : ks[j]? = some o) (h : alikeK o k = true) : likeN ks k (j + 1) = likeN ks k j + 1 := by
 unfold likeN
 rw [List.take_add_one, ho, List.filter_append, List.length_append]
 simp [h]
 omega
theorem likeN_no {ks : List KindV} {o k : KindV} {j : Nat} (ho : ks[j]? = some o) (h : alikeK o k = false) : likeN ks k (j + 1) = likeN ks k j := by
 unfold likeN
 rw [List.take_add_one, ho, List.filter_append, List.length_append]
 simp [h]
theorem likeN_le (ks : List KindV) (k : KindV) (j : Nat) : likeN ks k j ≤ 1 + j := by
 unfold likeN
 have h1 := List.length_filter_le (fun o => alikeK o k) (ks.take j)
 have h2 := List.length_take_le j ks
 omega
theorem timesN_yes {n k : Nat} (h : n * k ≤ 4611686018427387904) : timesN n k = some (n * k) := if_pos h
theorem timesN_no {n k : Nat} (h : ¬ n * k ≤ 4611686018427387904) : timesN n k = none := if_neg h
theorem orderN_succ {ks : List KindV} {i n : Nat} {k : KindV} (h : orderN ks i = some n) (hk : ks[i]? = some k) : orderN ks (i + 1) = (timesN n k.ws.length).bind fun n' => timesN n' (likeN ks k i) := by
 rw [orderN, h, hk]
 rfl
theorem orderN_none {ks : List KindV} : ∀ {i j : Nat}, i ≤ j → orderN ks i = none → orderN ks j = none
 | i, 0, hij, h => by
  obtain rfl : i = 0 := by omega
  exact h
 | i, j + 1, hij, h => by
  rcases Nat.lt_or_ge j i with h1 | h1
  · obtain rfl : i = j + 1 := by omega
    exact h
  · rw [orderN, orderN_none h1 h]
    rfl
attribute [local irreducible] Blk World.alloc World.setCell World.cell? World.frozen? MapV MapI
theorem times_any (n k b : Nat) (w : World) (hn : n ≤ 4611686018427387904) (hk : k ≤ 4611686018427387904) (h : Blk w b 57 #[.int .u64 (n : Int)]) :
  Calls Tryz.prog 82 #[.int .i64 (k : Int), .pointer (some ⟨b, 0, none⟩)] w fun e w' => e = .returned (.bool (decide (n * k ≤ 4611686018427387904))) ∧ w' = w.setCell ⟨b, 0, none⟩ (.int .u64 ((n * k % 18446744073709551616 : Nat) : Int)) := by
 have HM : Hid (Calls Tryz.prog 83 #[.int .u64 (n : Int), .int .u64 (k : Int)] w fun e w' => e = .returned (.tuple #[.int .u64 ((n * k / 18446744073709551616 : Nat) : Int), .int .u64 ((n * k % 18446744073709551616 : Nat) : Int)]) ∧ w' = w) := Lib.hid (Any.bits_Mul64 Tryz.mulU n k (by omega) (by omega) w)
 obtain ⟨hi, hhi⟩ : ∃ x, x = n * k / 18446744073709551616 := ⟨_, rfl⟩
 obtain ⟨lo, hlo⟩ : ∃ x, x = n * k % 18446744073709551616 := ⟨_, rfl⟩
 obtain ⟨r, hr⟩ : ∃ x, x = decide (n * k ≤ 4611686018427387904) := ⟨_, rfl⟩
 rw [← hhi, ← hlo] at HM
 rw [← hlo, ← hr]
 have hlo2 : lo < 18446744073709551616 := by omega
 have hhl : n * k = hi * 18446744073709551616 + lo := by omega
 have c0 := h.cell 0
 have f0 := h.frozen 0
 have u1 : IntKind.u64.wrap (k : Int) = (k : Int) := by rw [IntKind.wrap_u64]; omega
 simp at c0
 by_cases hz : hi = 0
 · have hz1 : ((hi : Int) == 0) = true := by simp [hz]
   have HR : Hid (r = decide (lo ≤ 4611686018427387904)) := Lib.hid (by rw [hr, hhl, hz]; simp)
   have hle : decide ((lo : Int) ≤ 4611686018427387904) = decide (lo ≤ 4611686018427387904) := by
    by_cases hx : lo ≤ 4611686018427387904
    · rw [decide_eq_true hx, decide_eq_true (by omega)]
    · rw [decide_eq_false hx, decide_eq_false (by omega)]
   have HLE := Lib.hid hle
   clear hhl hr hhi hlo hle
   go_enter Tryz.func82, Tryz.ntmps82
   go_wp2_with fail
   refine HM.out.mono ?_
   rintro e w1 ⟨rfl, hw⟩
   replace hw := hw.symm
   subst hw
   go_wp2_with fail
   go_ret
   refine ⟨?_, rfl⟩
   rw [HR.out, ← HLE.out]
   rfl
 · have hz1 : ((hi : Int) == 0) = false := by simp [hz]
   have HR : Hid (r = false) := Lib.hid (by rw [hr]; exact decide_eq_false (by omega))
   clear hhl hr hhi hlo hz
   go_enter Tryz.func82, Tryz.ntmps82
   go_wp2_with fail
   refine HM.out.mono ?_
   rintro e w1 ⟨rfl, hw⟩
   replace hw := hw.symm
   subst hw
   go_wp2_with fail
   go_ret
   refine ⟨?_, rfl⟩
   rw [HR.out]
   rfl
end Go.Proofs.YtiajlmajenabiaaGreat
namespace Go.Proofs.YtiajlmajenabiaaGreat
open Go.RowKit
theorem KindsAt.cap {W : World} {B c : Nat} {A : Option Addr} {ks : List KindV} (h : KindsAt W B A c ks) : ks.length ≤ c := by
 obtain ⟨L, h1, h2, h3⟩ := h.ex
 obtain ⟨A', c', e, hc⟩ := own_form h2
 injection e with _ _ e
 rw [e]; exact hc
def ordV (o : Option Nat) : Value :=
 match o with
 | some n => .tuple #[.int .i64 (n : Int), .int .i64 0]
 | none => .tuple #[.int .i64 0, .int .i64 7]
def OrderPost (w : World) (o : Option Nat) (e : Ending) (w' : World) : Prop := e = .returned (ordV o) ∧ Below w.heap.size w w'
attribute [local irreducible] Blk World.alloc World.setCell World.cell? World.frozen? MapV MapI
theorem order_any (B : Nat) (A : Option Addr) (c : Nat) (ks : List KindV) (w : World) (hK : ks.length ≤ 1000) (hL : ∀ k ∈ ks, k.L.length ≤ 1000) (hW : ∀ k ∈ ks, k.ws.length ≤ 1000000) (h : KindsAt w B A c ks) :
  Calls Tryz.prog 46 #[.slice A ks.length c] w (OrderPost w (orderN ks ks.length)) := by
 have HK := Lib.hid h
 have HL := Lib.hid hL
 have HW := Lib.hid hW
 obtain ⟨K, hKe⟩ : ∃ K, K = ks.length := ⟨_, rfl⟩
 rw [← hKe] at hK ⊢
 have HKE := Lib.hid hKe
 have hcap : K ≤ c := hKe ▸ h.cap
 clear h hL hW hKe
 go_enter Tryz.func46, Tryz.ntmps46
 go_upto_region 2 with (fail)
 obtain ⟨wA, hwA⟩ : ∃ U, U = w.alloc (.cells #[.int .u64 1] 57) := ⟨_, rfl⟩
 have KNA : Hid (Blk wA w.heap.size 57 #[.int .u64 ((1 : Nat) : Int)]) := by subst hwA; exact Lib.hid (Blk.new _ _ _)
 have HBA : Hid (Below w.heap.size w wA) := by subst hwA; exact Lib.hid (bw_alloc (Below.refl _ _) _)
 rw [← hwA]
 obtain ⟨b4, hb4⟩ : ∃ b, b = w.heap.size := ⟨_, rfl⟩
 have HG : Hid (w.heap.size ≤ b4) := Lib.hid (by omega)
 rw [← hb4] at KNA
 simp only [← hb4]
 clear hwA hb4
 go_wp2_with fail
 go_loopw [6, 7, 8, 10, 14] (fun _ _ _ _ kv wr => ∃ i n : Nat, i ≤ K ∧ kv = .int .i64 (i : Int) ∧ n ≤ 4611686018427387904 ∧ Hid (orderN ks i = some n) ∧ Hid (Blk wr b4 57 #[.int .u64 (n : Int)]) ∧ Hid (Below w.heap.size w wr)) (fun _ _ _ _ kv _ => K - (intOf kv).toNat)
 case atStart => exact ⟨0, 1, by omega, rfl, by omega, Lib.hid rfl, KNA, HBA⟩
 case round =>
  clear KNA HBA
  obtain ⟨i, n, hi, rfl, hn, HOI, KNr, HBr⟩ := hrel
  obtain ⟨wE, hwE⟩ : ∃ wE : World, wE = wr := ⟨_, rfl⟩
  rw [← hwE] at KNr HBr ⊢
  clear hwE
  by_cases hiK : i < K
  · have hii : (i : Int) < (K : Int) := by omega
    have HKr := HK.out.below HBr.out
    obtain ⟨g, At, Aw, ct, cw, k, hA, hks, y0, y1, y2, hl, hw⟩ := HKr.at_ (by rw [← HKE.out]; exact hiK)
    have hkm := List.mem_of_getElem? hks
    obtain ⟨nl, hnl⟩ : ∃ x, x = k.L.length := ⟨_, rfl⟩
    obtain ⟨nw, hnw⟩ : ∃ x, x = k.ws.length := ⟨_, rfl⟩
    rw [← hnl] at y1
    rw [← hnw] at y2
    have hnl1 : nl ≤ 1000 := by rw [hnl]; exact HL.out k hkm
    have hnw1 : nw ≤ 1000000 := by rw [hnw]; exact HW.out k hkm
    have HKS := Lib.hid hks
    have HNl := Lib.hid hnl
    have HNw := Lib.hid hnw
    have HLk := Lib.hid hl
    clear hks hl hw hkm hnl hnw HKr
    subst hA
    go_upto_region 7 with (fail)
    obtain ⟨wF, hwF⟩ : ∃ U, U = wE.alloc (.cells #[.int .i64 k.M, .slice At nl ct, .slice Aw nw cw] 91) := ⟨_, rfl⟩
    have K7F : Hid (Blk wF wE.heap.size 91 #[.int .i64 k.M, .slice At nl ct, .slice Aw nw cw]) := by subst hwF; exact Lib.hid (Blk.new _ _ _)
    have KNF : Hid (Blk wF b4 57 #[.int .u64 (n : Int)]) := by subst hwF; exact Lib.hid (KNr.out.alloc _)
    have HBF : Hid (Below w.heap.size w wF) := by subst hwF; exact Lib.hid (bw_alloc HBr.out _)
    have HLF : Hid (LRow wF B At ct k.L) := by subst hwF; exact Lib.hid (LRow.alloc HLk.out _)
    rw [← hwF]
    obtain ⟨b7, hb7⟩ : ∃ b, b = wE.heap.size := ⟨_, rfl⟩
    rw [← hb7] at K7F
    simp only [← hb7]
    have hic : (i : Int) ≤ (c : Int) := by omega
    clear hwF hb7 KNr HBr HLk y0 y1 y2
    go_wp2_with fail
    go_loopw [8, 10, 23] (fun lv _ jv wr => ∃ j q : Nat, j ≤ i ∧ lv = .int .i64 (q : Int) ∧ jv = .int .i64 (j : Int) ∧ q ≤ 1 + j ∧ Hid (q = likeN ks k j) ∧ Hid (Below wF.heap.size wF wr)) (fun _ _ jv _ => i - (intOf jv).toNat)
    case atStart => exact ⟨0, 1, by omega, by go_num, rfl, by omega, Lib.hid (likeN_zero ks k).symm, Lib.hid (Below.refl _ _)⟩
    case round =>
     obtain ⟨j, q, hj, rfl, rfl, hq, HLI, HBi⟩ := hrel
     obtain ⟨wG, hwG⟩ : ∃ wG : World, wG = wr := ⟨_, rfl⟩
     rw [← hwG] at HBi ⊢
     clear hwG
     by_cases hji : j < i
     · have hjii : (j : Int) < (i : Int) := by omega
       have HKr := (HK.out.below HBF.out).below HBi.out
       obtain ⟨g2, At2, Aw2, ct2, cw2, o, hA2, hos, z0, z1, z2, hl2, _⟩ := HKr.at_ (i := j) (by rw [← HKE.out]; omega)
       injection hA2 with hA2
       injection hA2 with hA2
       subst hA2
       obtain ⟨nl2, hnl2⟩ : ∃ x, x = o.L.length := ⟨_, rfl⟩
       obtain ⟨nw2, hnw2⟩ : ∃ x, x = o.ws.length := ⟨_, rfl⟩
       rw [← hnl2] at z1
       rw [← hnw2] at z2
       have hnl3 : nl2 ≤ 1000 := by rw [hnl2]; exact HL.out o (List.mem_of_getElem? hos)
       have HOS := Lib.hid hos
       have HNl2 := Lib.hid hnl2
       have HLo := Lib.hid hl2
       clear hos hl2 hnl2 hnw2 HKr
       go_upto_region 10 with (fail)
       obtain ⟨wH, hwH⟩ : ∃ U, U = wG.alloc (.cells #[.int .i64 o.M, .slice At2 nl2 ct2, .slice Aw2 nw2 cw2] 91) := ⟨_, rfl⟩
       have KXH : Hid (Blk wH wG.heap.size 91 #[.int .i64 o.M, .slice At2 nl2 ct2, .slice Aw2 nw2 cw2]) := by subst hwH; exact Lib.hid (Blk.new _ _ _)
       have HBH : Hid (Below wF.heap.size wF wH) := by subst hwH; exact Lib.hid (bw_alloc HBi.out _)
       have HLoH : Hid (LRow wH B At2 ct2 o.L) := by subst hwH; exact Lib.hid (LRow.alloc HLo.out _)
       rw [← hwH]
       obtain ⟨bx, hbx⟩ : ∃ b, b = wG.heap.size := ⟨_, rfl⟩
       rw [← hbx] at KXH
       simp only [← hbx]
       clear hwH hbx HBi HLo z0 z1 z2
       have K7H := Lib.hid (K7F.out.below HBH.out K7F.out.lt)
       have HLFH := Lib.hid (LRow.below HLF.out HBH.out)
       have HSM := Lib.hid (soupSame_dec o.M k.M o.L k.L At2 At nl2 nl ct2 ct wH (by omega) (by omega) (by rw [HNl2.out]; exact LRow.tris HLoH.out) (by rw [HNl.out]; exact LRow.tris HLFH.out))
       have x0 : wH.cell? ⟨bx, 0, none⟩ = some (.int .i64 o.M) := KXH.out.cell 0
       have x1 : wH.cell? ⟨bx, 1, none⟩ = some (.slice At2 nl2 ct2) := KXH.out.cell 1
       have y0 : wH.cell? ⟨b7, 0, none⟩ = some (.int .i64 k.M) := K7H.out.cell 0
       have y1 : wH.cell? ⟨b7, 1, none⟩ = some (.slice At nl ct) := K7H.out.cell 1
       cases hal : alikeK o k with
       | true =>
        have hd : decide (o.M = k.M ∧ o.L = k.L) = true := hal
        rw [hd] at HSM
        have HLN : Hid (q + 1 = likeN ks k (j + 1)) := Lib.hid (by rw [likeN_yes HOS.out hal, HLI.out])
        clear hal hd
        go_wp2_with fail
        refine HSM.out.mono ?_
        rintro e wI ⟨rfl, hb⟩
        have HBI := Lib.hid (bw_call HBH.out hb)
        clear hb
        go_wp2_with fail
        go_roundw
        case rel => exact ⟨j + 1, q + 1, by omega, by go_num, by go_num, by omega, HLN, HBI⟩
        case measure => simp [intOf]; omega
       | false =>
        have hd : decide (o.M = k.M ∧ o.L = k.L) = false := hal
        rw [hd] at HSM
        have HLN : Hid (q = likeN ks k (j + 1)) := Lib.hid (by rw [likeN_no HOS.out hal, HLI.out])
        clear hal hd
        go_wp2_with fail
        refine HSM.out.mono ?_
        rintro e wI ⟨rfl, hb⟩
        have HBI := Lib.hid (bw_call HBH.out hb)
        clear hb
        go_wp2_with fail
        go_roundw
        case rel => exact ⟨j + 1, q, by omega, rfl, by go_num, by omega, HLN, HBI⟩
        case measure => simp [intOf]; omega
     · obtain rfl : j = i := by omega
       have K7G := Lib.hid (K7F.out.below HBi.out K7F.out.lt)
       have KNG := Lib.hid (KNF.out.below HBi.out KNF.out.lt)
       have HBG := Lib.hid (HBF.out.trans (HBi.out.mono HBF.out.size))
       have HT1 := Lib.hid (times_any n nw b4 wG hn (by omega) KNG.out)
       have y2 := K7G.out.cell 2
       simp at y2
       clear HBi
       by_cases h1 : n * nw ≤ 4611686018427387904
       · rw [decide_eq_true h1] at HT1
         have KN2 : Hid (Blk (wG.setCell ⟨b4, 0, none⟩ (.int .u64 ((n * nw % 18446744073709551616 : Nat) : Int))) b4 57 #[.int .u64 ((n * nw : Nat) : Int)]) := Lib.hid (by
          have h2 : n * nw % 18446744073709551616 = n * nw := Nat.mod_eq_of_lt (by omega)
          rw [h2]
          exact KNG.out.set_ 0 _)
         have HT2 := Lib.hid (times_any (n * nw) q b4 _ h1 (by omega) KN2.out)
         have HB2 : Hid (Below w.heap.size w (wG.setCell ⟨b4, 0, none⟩ (.int .u64 ((n * nw % 18446744073709551616 : Nat) : Int)))) := Lib.hid (bw_set HBG.out (p := ⟨b4, 0, none⟩) HG.out _)
         have HON : Hid (orderN ks (j + 1) = timesN (n * nw) q) := Lib.hid (by rw [orderN_succ HOI.out HKS.out, ← HNw.out, timesN_yes h1, HLI.out]; rfl)
         obtain ⟨w2, hw2⟩ : ∃ U, U = wG.setCell ⟨b4, 0, none⟩ (.int .u64 ((n * nw % 18446744073709551616 : Nat) : Int)) := ⟨_, rfl⟩
         rw [← hw2] at KN2 HT2 HB2 HT1
         obtain ⟨n2, hn2⟩ : ∃ x, x = n * nw := ⟨_, rfl⟩
         rw [← hn2] at KN2 HT2 HON h1
         clear hw2 hn2
         go_wp2_with fail
         refine HT1.out.mono ?_
         rintro e w2' ⟨rfl, hw⟩
         subst hw
         by_cases h2 : n2 * q ≤ 4611686018427387904
         · rw [decide_eq_true h2] at HT2
           have HON2 : Hid (orderN ks (j + 1) = some (n2 * q)) := Lib.hid (by rw [HON.out, timesN_yes h2])
           have KN3 : Hid (Blk (w2'.setCell ⟨b4, 0, none⟩ (.int .u64 ((n2 * q % 18446744073709551616 : Nat) : Int))) b4 57 #[.int .u64 ((n2 * q : Nat) : Int)]) := Lib.hid (by
            have h2 : n2 * q % 18446744073709551616 = n2 * q := Nat.mod_eq_of_lt (by omega)
            rw [h2]
            exact KN2.out.set_ 0 _)
           have HB3 : Hid (Below w.heap.size w (w2'.setCell ⟨b4, 0, none⟩ (.int .u64 ((n2 * q % 18446744073709551616 : Nat) : Int)))) := Lib.hid (bw_set HB2.out (p := ⟨b4, 0, none⟩) HG.out _)
           obtain ⟨w3, hw3⟩ : ∃ U, U = w2'.setCell ⟨b4, 0, none⟩ (.int .u64 ((n2 * q % 18446744073709551616 : Nat) : Int)) := ⟨_, rfl⟩
           rw [← hw3] at KN3 HB3 HT2
           obtain ⟨n3, hn3⟩ : ∃ x, x = n2 * q := ⟨_, rfl⟩
           rw [← hn3] at KN3 HON2 h2
           clear hw3 hn3
           go_wp2_with fail
           refine HT2.out.mono ?_
           rintro e w3' ⟨rfl, hw⟩
           subst hw
           go_wp2_with fail
           go_roundw
           case rel => exact ⟨j + 1, n3, by omega, by go_num, h2, HON2, KN3, HB3⟩
           case measure => simp [intOf]; omega
         · rw [decide_eq_false h2] at HT2
           have HFI : Hid (orderN ks K = none) := Lib.hid (orderN_none (i := j + 1) (by omega) (by rw [HON.out, timesN_no h2]))
           have HB3 : Hid (Below w.heap.size w (w2'.setCell ⟨b4, 0, none⟩ (.int .u64 ((n2 * q % 18446744073709551616 : Nat) : Int)))) := Lib.hid (bw_set HB2.out (p := ⟨b4, 0, none⟩) HG.out _)
           obtain ⟨w3, hw3⟩ : ∃ U, U = w2'.setCell ⟨b4, 0, none⟩ (.int .u64 ((n2 * q % 18446744073709551616 : Nat) : Int)) := ⟨_, rfl⟩
           rw [← hw3] at HB3 HT2
           clear hw3 h2
           go_wp2_with fail
           refine HT2.out.mono ?_
           rintro e w3' ⟨rfl, hw⟩
           subst hw
           go_wp2_with fail
           refine bodyPost_ret (v := .tuple #[.int .i64 0, .int .i64 7]) ?_ rfl ⟨by rw [HFI.out]; rfl, HB3.out⟩
           simp [results, Tryz.results46, go_sem]
       · rw [decide_eq_false h1] at HT1
         have HFI : Hid (orderN ks K = none) := Lib.hid (orderN_none (i := j + 1) (by omega) (by rw [orderN_succ HOI.out HKS.out, ← HNw.out, timesN_no h1]; rfl))
         have HB2 : Hid (Below w.heap.size w (wG.setCell ⟨b4, 0, none⟩ (.int .u64 ((n * nw % 18446744073709551616 : Nat) : Int)))) := Lib.hid (bw_set HBG.out (p := ⟨b4, 0, none⟩) HG.out _)
         obtain ⟨w2, hw2⟩ : ∃ U, U = wG.setCell ⟨b4, 0, none⟩ (.int .u64 ((n * nw % 18446744073709551616 : Nat) : Int)) := ⟨_, rfl⟩
         rw [← hw2] at HB2 HT1
         clear hw2 h1
         go_wp2_with fail
         refine HT1.out.mono ?_
         rintro e w2' ⟨rfl, hw⟩
         subst hw
         go_wp2_with fail
         refine bodyPost_ret (v := .tuple #[.int .i64 0, .int .i64 7]) ?_ rfl ⟨by rw [HFI.out]; rfl, HB2.out⟩
         simp [results, Tryz.results46, go_sem]
  · obtain rfl : i = K := by omega
    have c0 := KNr.out.cell 0
    have u1 : IntKind.i64.wrap (n : Int) = (n : Int) := by rw [IntKind.wrap_i64]; omega
    simp at c0
    go_wp2_with fail
    refine bodyPost_ret (v := .tuple #[.int .i64 (n : Int), .int .i64 0]) ?_ rfl ⟨by rw [HOI.out]; rfl, HBr.out⟩
    simp [results, Tryz.results46, go_sem]
end Go.Proofs.YtiajlmajenabiaaGreat
