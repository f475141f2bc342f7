/- The document's Part of layer 8, walked. No condition. -/
import Derived.Test.YtmmjonpkpeanpaaRefPick8
import Derived.Test.YtmmjonpkpeanpaaPart8
namespace Go.Proofs.Ytmmjonpkpeanpaa
open Go.RowKit

theorem int_info8 : (Try.prog.info? 3).map (fun i => (i.zero, i.size, i.bytes)) = some (some (.int .i64 0), 1, 8) := by kernel_rfl
def oldK (T : List Tri) (l : List Int) (v : Nat) : List Int := ((List.range v).map fun i : Nat => (i : Int)).filter fun v => l.any fun i => hasV (tri T i.toNat) v
theorem oldK_all (m : Nat) (T : List Tri) (l : List Int) : oldK T l m = oldL (m : Int) T l := rfl
theorem oldK_yes {T : List Tri} {l : List Int} {v : Nat} (h : (l.any fun i => hasV (tri T i.toNat) (v : Int)) = true) : oldK T l (v + 1) = oldK T l v ++ [(v : Int)] := by
  unfold oldK
  rw [List.range_succ, List.map_append, List.filter_append]
  simp [List.filter, h]
theorem oldK_no {T : List Tri} {l : List Int} {v : Nat} (h : (l.any fun i => hasV (tri T i.toNat) (v : Int)) = false) : oldK T l (v + 1) = oldK T l v := by
  unfold oldK
  rw [List.range_succ, List.map_append, List.filter_append]
  simp [List.filter, h]
theorem twice_yes {l : List Int} {k : Nat} {x : Int} (hk : l[k]? = some x) (h : placeL l x ≠ k) : twiceL l = true := by
  have hn : x ∈ l.take k := by
    by_cases h' : x ∈ l.take k
    · exact h'
    · exact absurd (place_at h' hk) h
  unfold twiceL
  have : ¬ l.Nodup := fun hd => by
    have h2 : (l.take (k + 1)).Nodup := hd.sublist (List.take_sublist _ _)
    rw [take_snoc_Z l k hk, List.nodup_append] at h2
    exact h2.2.2 _ hn _ (by simp) rfl
  simp [this]
theorem twice_no : ∀ {l : List Int}, (∀ (k : Nat) (x : Int), l[k]? = some x → placeL l x = k) → twiceL l = false := fun {l} h => by
  unfold twiceL
  have : l.Nodup := by
    refine List.pairwise_iff_getElem.2 fun i j hi hj hij e => ?_
    have h1 := h i _ (List.getElem?_eq_getElem hi)
    have h2 := h j _ (List.getElem?_eq_getElem hj)
    rw [e] at h1
    omega
  simp [this]

set_option linter.unusedSimpArgs false
set_option linter.unusedVariables false
attribute [local irreducible] Blk LRow IRow World.alloc World.setCell KeepO World.cell? World.frozen?
set_option maxRecDepth 100000 in
set_option maxHeartbeats 8000000 in
theorem refPart_any (N : Int) (A : Option Addr) (n c : Nat) (T : List Tri) (Al : Option Addr) (m cl : Nat) (l : List Int) (w : World) (hn : n ≤ 1000) (hm : m ≤ 1000) (ht : TrisAt w w.heap.size A n T) (hl : Reads w w.heap.size 1 Al m (ZL l)) :
    Calls Try.prog 16 #[.agg #[.int .i64 N, .slice A n c], .slice Al m cl] w (PartPost w (partL N T l)) := by
  obtain rfl : n = T.length := ht.len.symm
  obtain rfl : m = l.length := by have := hl.1; simp [ZL] at this; exact this.symm
  have HT := Lib.hid ht
  have HL := Lib.hid hl
  obtain ⟨i0, hi0, hz0, hz1, hz2⟩ := info_parts ltri_info
  obtain ⟨i1, hii, hy0, hy1, hy2⟩ := info_parts int_info8
  clear ht hl
  go_enter Try.func16, Try.ntmps16
  go_wp2_with fail
  obtain ⟨V, hV⟩ : ∃ V, V = (w.alloc (.cells #[.int .i64 N, .slice A T.length c] 24)).alloc (.cells #[.int .i64 0, .slice none 0 0] 24) := ⟨_, rfl⟩
  have HP : Hid (PS w V w.heap.size (w.heap.size + 1) N A T.length c) := by subst hV; exact Lib.hid ⟨(Blk.new _ _ _).alloc _, blk_new1 _ _ _ _, bw_alloc (bw_alloc (Below.refl _ _) _) _, Nat.le_refl _, Nat.le_succ _, by omega⟩
  rw [← hV]
  clear hV
  obtain ⟨gs, hgs⟩ : ∃ gs, gs = w.heap.size := ⟨_, rfl⟩
  obtain ⟨gr, hgr⟩ : ∃ gr, gr = w.heap.size + 1 := ⟨_, rfl⟩
  rw [← hgr] at HP ⊢
  have HP : Hid (PS w V gs gr N A T.length c) := by rw [hgs]; exact HP
  simp only [← hgs]
  clear hgs hgr
  refine (refFits_any N A T.length c T V (by omega) ((HT.out.below HP.out.b).more HP.out.b.size)).mono ?_
  rintro e w1 ⟨rfl, hb⟩
  have HP1 := Lib.hid (HP.out.on hb)
  clear hb HP
  cases hf : fitL N T with
  | false =>
    have HQ : Hid (partL N T l = ((0, []), [], 1)) := Lib.hid (by unfold partL; rw [if_pos hf])
    obtain ⟨s0, s1, r0, r1, r2, r3⟩ := HP1.out.cells
    go_wp2_with fail
    obtain ⟨f0, f1, _, _, _⟩ := soup_facts (soup_set HP1.out.r (.int .i64 0) (.slice none 0 0))
    refine bodyPost_ret (v := .tuple #[.agg #[.int .i64 0, .slice none 0 0], .slice none 0 0, .int .i64 1]) ?_ rfl (part_post HQ.out (LRow.nil _ _) (IRow.nil _ _) (bw_set (bw_set HP1.out.b HP1.out.hr _) HP1.out.hr _))
    simp [results, Try.results16, go_sem, f0, f1]
  | true =>
    obtain ⟨s0, s1, r0, r1, r2, r3⟩ := HP1.out.cells
    go_wp2_with fail
    go_loopw [7] (fun iv wr => ∃ k : Nat, k ≤ l.length ∧ iv = .int .i64 k ∧ Hid ((l.take k).any (outOf T.length) = false) ∧ Hid (PS w wr gs gr N A T.length c)) (fun iv _ => l.length - (intOf iv).toNat)
    case atStart => exact ⟨0, by omega, rfl, Lib.hid (by simp), HP1⟩
    case round =>
      obtain ⟨k, hk, rfl, HK, HPK⟩ := hrel
      clear s0 s1 r0 r1 r2 r3
      by_cases hlt : k < l.length
      · obtain ⟨ad, u, rfl, had, hu, hc⟩ := ((HL.out.below HPK.out.b).more HPK.out.b.size).at_ hlt
        obtain ⟨x, hx, rfl⟩ := zl_at hu
        have HLX := Lib.hid hx
        clear hu hx
        obtain ⟨s0, s1, r0, r1, r2, r3⟩ := HPK.out.cells
        have hk0 : (0 : Int) ≤ (k : Int) := by omega
        have hk1 : (k : Int) < (l.length : Int) := by omega
        by_cases hbad : outOf T.length x = true
        · have HQ : Hid (partL N T l = ((0, []), [], 2)) := Lib.hid (by
            unfold partL
            rw [if_neg (by rw [hf]; simp), if_pos]
            exact List.any_eq_true.2 ⟨x, List.mem_of_getElem? HLX.out, hbad⟩)
          have hbad2 : x < 0 ∨ (T.length : Int) ≤ x := by simpa [outOf] using hbad
          by_cases hx0 : x < 0
          · go_wp2_with fail
            go_quiet (fail)
            go_wp2_with fail
            obtain ⟨f0, f1, _, _, _⟩ := soup_facts (soup_set (HPK.out.drewN nq).r (.int .i64 0) (.slice none 0 0))
            refine bodyPost_ret (v := .tuple #[.agg #[.int .i64 0, .slice none 0 0], .slice none 0 0, .int .i64 2]) ?_ rfl (part_post HQ.out (LRow.nil _ _) (IRow.nil _ _) (bw_set (bw_set (HPK.out.drewN nq).b HPK.out.hr _) HPK.out.hr _))
            simp [results, Try.results16, go_sem, f0, f1]
          · have hx1 : (T.length : Int) ≤ x := by omega
            go_wp2_with fail
            go_quiet (fail)
            go_wp2_with fail
            obtain ⟨f0, f1, _, _, _⟩ := soup_facts (soup_set (HPK.out.drewN nq).r (.int .i64 0) (.slice none 0 0))
            refine bodyPost_ret (v := .tuple #[.agg #[.int .i64 0, .slice none 0 0], .slice none 0 0, .int .i64 2]) ?_ rfl (part_post HQ.out (LRow.nil _ _) (IRow.nil _ _) (bw_set (bw_set (HPK.out.drewN nq).b HPK.out.hr _) HPK.out.hr _))
            simp [results, Try.results16, go_sem, f0, f1]
        · have hok : outOf T.length x = false := by simpa using hbad
          have hin : 0 ≤ x ∧ x < (T.length : Int) := by simp [outOf] at hok; omega
          obtain ⟨hx0, hx1⟩ := hin
          go_wp2_with fail
          go_quiet (fail)
          go_wp2_with fail
          refine ⟨⟨k + 1, by omega, by go_num, Lib.hid ?_, Lib.hid (HPK.out.drewN nq)⟩, by simp [intOf]; omega⟩
          rw [take_snoc_Z l k HLX.out, List.any_append, HK.out]
          simp [hok]
      · obtain rfl : k = l.length := by omega
        have hall := HK.out
        rw [List.take_length] at hall
        have HALL := Lib.hid hall
        obtain ⟨w3, hw3⟩ : ∃ w3 : World, w3 = wr := ⟨_, rfl⟩
        rw [← hw3] at HPK ⊢
        clear hw3 HK hall HP1
        go_wp2_with fail
        go_loopw [8] (fun iv wr => ∃ k : Nat, k ≤ l.length ∧ iv = .int .i64 k ∧ Hid (∀ (j : Nat) (x : Int), j < k → l[j]? = some x → placeL l x = j) ∧ Hid (PS w wr gs gr N A T.length c)) (fun iv _ => l.length - (intOf iv).toNat)
        case atStart => exact ⟨0, by omega, rfl, Lib.hid (fun j x h => absurd h (by omega)), HPK⟩
        case round =>
          obtain ⟨k, hk, rfl, HK, HPL⟩ := hrel
          by_cases hlt : k < l.length
          · have HRL := Lib.hid ((HL.out.below HPL.out.b).more HPL.out.b.size)
            obtain ⟨ad, u, e3, had, hu, hc⟩ := HRL.out.at_ hlt
            obtain ⟨x, hx, rfl⟩ := zl_at hu
            have HLX := Lib.hid hx
            clear hu hx
            subst e3
            obtain ⟨s0, s1, r0, r1, r2, r3⟩ := HPL.out.cells
            have hk0 : (0 : Int) ≤ (k : Int) := by omega
            have hk1 : (k : Int) < (l.length : Int) := by omega
            have HPC := Lib.hid (refPlace_any l (some ad) l.length cl x wr (by omega) HRL.out)
            go_wp2_with fail
            refine HPC.out.mono ?_
            rintro e w4 ⟨rfl, rfl⟩
            by_cases hpk : placeL l x = k
            · have HPE := Lib.hid hpk
              rw [hpk]
              clear hpk
              go_wp2_with fail
              refine ⟨⟨k + 1, by omega, by go_num, Lib.hid (fun j y hj hy => ?_), HPL⟩, by simp [intOf]; omega⟩
              by_cases hjk : j = k
              · subst hjk
                rw [HLX.out] at hy
                injection hy with hy
                rw [← hy]
                exact HPE.out
              · exact HK.out j y (by omega) hy
            · have HQ : Hid (partL N T l = ((0, []), [], 9)) := Lib.hid (by
                unfold partL
                rw [if_neg (by rw [hf]; simp), if_neg (by rw [HALL.out]; simp), if_pos (twice_yes HLX.out hpk)])
              obtain ⟨f0, f1, _, _, _⟩ := soup_facts (soup_set HPL.out.r (.int .i64 0) (.slice none 0 0))
              have hne : (placeL l x == (k : Int)) = false := by rw [beq_eq_false_iff_ne]; exact hpk
              generalize placeL l x = px at *
              go_wp2_with fail
              refine bodyPost_ret (v := .tuple #[.agg #[.int .i64 0, .slice none 0 0], .slice none 0 0, .int .i64 9]) ?_ rfl (part_post HQ.out (LRow.nil _ _) (IRow.nil _ _) (bw_set (bw_set HPL.out.b HPL.out.hr _) HPL.out.hr _))
              simp [results, Try.results16, go_sem, f0, f1]
          · obtain rfl : k = l.length := by omega
            have HTW : Hid (twiceL l = false) := Lib.hid (twice_no fun j x hj => HK.out j x (List.getElem?_eq_some_iff.1 hj).1 hj)
            clear HK HPK
            obtain ⟨w3, hw3⟩ : ∃ w3 : World, w3 = wr := ⟨_, rfl⟩
            rw [← hw3] at HPL ⊢
            clear hw3
            obtain ⟨m, hm⟩ := Int.eq_ofNat_of_zero_le (fit_N hf).1
            subst hm
            have hm4 : m ≤ 4096 := by have := (fit_N hf).2; omega
            go_wp2_with fail
            go_loopw [9, 10] (fun ov iv wr => ∃ (v : Nat) (A' : Option Addr) (c' : Nat), v ≤ m ∧ iv = .int .i64 v ∧ ov = .slice A' (oldK T l v).length c' ∧ Hid (IRow wr w.heap.size A' c' (oldK T l v)) ∧ Hid (PS w wr gs gr (m : Int) A T.length c)) (fun _ iv _ => m - (intOf iv).toNat)
            case atStart => exact ⟨0, none, 0, by omega, rfl, rfl, Lib.hid (IRow.nil _ _), HPL⟩
            case round =>
              obtain ⟨v, A', c', hv, rfl, rfl, HIV, HPV⟩ := hrel
              obtain ⟨s0, s1, r0, r1, r2, r3⟩ := HPV.out.cells
              have hOl : (oldK T l v).length ≤ 4096 := by
                have h := List.length_filter_le (fun v : Int => l.any fun i => hasV (tri T i.toNat) v) ((List.range v).map fun i : Nat => (i : Int))
                have e : (oldK T l v).length ≤ ((List.range v).map fun i : Nat => (i : Int)).length := h
                simp at e
                omega
              by_cases hvm : v < m
              · have HYES := Lib.hid (oldK_yes (T := T) (l := l) (v := v))
                have HNO := Lib.hid (oldK_no (T := T) (l := l) (v := v))
                generalize oldK T l v = O at *
                have hvi : (v : Int) < (m : Int) := by omega
                go_wp2_with fail
                go_loopw [9, 11] (fun ov iv wr => ∃ (i : Nat) (A2 : Option Addr) (c2 : Nat), i ≤ l.length ∧ iv = .int .i64 i ∧ ov = .slice A' O.length c' ∧ Hid (((l.take i).any fun j => hasV (tri T j.toNat) (v : Int)) = false) ∧ Hid (IRow wr w.heap.size A' c' O) ∧ Hid (PS w wr gs gr (m : Int) A T.length c)) (fun _ iv _ => l.length - (intOf iv).toNat)
                case atStart => exact ⟨0, none, 0, by omega, rfl, rfl, Lib.hid (by simp), HIV, HPV⟩
                case round =>
                  obtain ⟨i, _, _, hi, rfl, rfl, HAI, HII, HPI⟩ := hrel
                  clear HIV HPV s0 s1 r0 r1 r2 r3
                  obtain ⟨w3, hw3⟩ : ∃ w3 : World, w3 = wr := ⟨_, rfl⟩
                  rw [← hw3] at HII HPI ⊢
                  clear hw3
                  by_cases hil : i < l.length
                  · obtain ⟨ad, u, e3, had, hu, hc⟩ := (HL.out.below HPI.out.b).at_ hil
                    obtain ⟨x, hx, rfl⟩ := zl_at hu
                    have HLX := Lib.hid hx
                    have hin := in_all HALL.out (List.mem_of_getElem? hx)
                    clear hu hx
                    obtain ⟨xn, rfl⟩ := Int.eq_ofNat_of_zero_le hin.1
                    have hxn : xn < T.length := by omega
                    obtain ⟨ad2, t, e2, htk, _, hadb, hc3⟩ := (HT.out.below HPI.out.b).at_ hxn
                    subst e3
                    subst e2
                    obtain ⟨s0, s1, r0, r1, r2, r3⟩ := HPI.out.cells
                    obtain ⟨d0, d1, d2, d3, d4, d5⟩ := hc3
                    have hi0 : (0 : Int) ≤ (i : Int) := by omega
                    have hi1 : (i : Int) < (l.length : Int) := by omega
                    have hq0 : (0 : Int) ≤ (xn : Int) := by omega
                    have hq1 : (xn : Int) < (T.length : Int) := by omega
                    have HTX : Hid (((l.take (i + 1)).any fun j => hasV (tri T j.toNat) (v : Int)) = hasV t (v : Int)) := Lib.hid (by rw [take_snoc_Z l i HLX.out, List.any_append, HAI.out]; simp [tri_of htk])
                    have HMX : Hid ((hasV t (v : Int)) = true → (l.any fun j => hasV (tri T j.toNat) (v : Int)) = true) := Lib.hid (fun h => List.any_eq_true.2 ⟨_, List.mem_of_getElem? HLX.out, by rw [show ((xn : Int)).toNat = xn from rfl, tri_of htk]; exact h⟩)
                    have hgs := HPI.out.s.lt
                    have hsz := HPI.out.b.size
                    have HB0 := Lib.hid (Below.refl w3.heap.size w3)
                    have HS : Hid (∀ w', Below w3.heap.size w3 w' → w'.cell? ⟨gs, 1, none⟩ = some (.slice (some ad2) T.length c) ∧ w'.cell? (ad.add i) = some (.int .i64 (xn : Int)) ∧ w'.cell? (ad2.add (xn * 3)) = some (.int .i64 t.a) ∧ w'.cell? ((ad2.add (xn * 3)).add 1) = some (.int .i64 t.b) ∧ w'.cell? ((ad2.add (xn * 3)).add 2) = some (.int .i64 t.c) ∧ w'.cell? ⟨(ad2.add (xn * 3)).block, (ad2.add (xn * 3)).off + 1, none⟩ = some (.int .i64 t.b) ∧ w'.cell? ⟨(ad2.add (xn * 3)).block, (ad2.add (xn * 3)).off + 2, none⟩ = some (.int .i64 t.c) ∧ Below w3.heap.size w3 w') := Lib.hid fun w' h =>
                      ⟨(h.cell (p := ⟨gs, 1, none⟩) hgs).trans s1, (h.cell (by rw [block_of_add]; omega)).trans hc, (h.cell (by rw [block_of_add]; omega)).trans d0, (h.cell (by rw [block_of_add, block_of_add]; omega)).trans d1, (h.cell (by rw [block_of_add, block_of_add]; omega)).trans d2, (h.cell (p := ⟨(ad2.add (xn * 3)).block, _, none⟩) (by simp only [block_of_add]; omega)).trans d4, (h.cell (p := ⟨(ad2.add (xn * 3)).block, _, none⟩) (by simp only [block_of_add]; omega)).trans d5, h⟩
                    have HBO : Hid (∀ w', (w'.cell? ⟨gs, 1, none⟩ = some (.slice (some ad2) T.length c) ∧ w'.cell? (ad.add i) = some (.int .i64 (xn : Int)) ∧ w'.cell? (ad2.add (xn * 3)) = some (.int .i64 t.a) ∧ w'.cell? ((ad2.add (xn * 3)).add 1) = some (.int .i64 t.b) ∧ w'.cell? ((ad2.add (xn * 3)).add 2) = some (.int .i64 t.c) ∧ w'.cell? ⟨(ad2.add (xn * 3)).block, (ad2.add (xn * 3)).off + 1, none⟩ = some (.int .i64 t.b) ∧ w'.cell? ⟨(ad2.add (xn * 3)).block, (ad2.add (xn * 3)).off + 2, none⟩ = some (.int .i64 t.c) ∧ Below w3.heap.size w3 w') → Below w3.heap.size w3 w') := Lib.hid fun w' h => h.2.2.2.2.2.2.2
                    clear htk HLX
                    go_wp2_with fail
                    go_cut [12] (fun pa wx => ∃ gb, pa = .pointer (some ⟨gb, 0, none⟩) ∧ Hid (Blk wx gb 51 #[.int .i64 t.a, .int .i64 t.b, .int .i64 t.c]) ∧ Hid (Below w3.heap.size w3 wx))
                    case first =>
                      go_region_held3 (fun w' => w'.cell? ⟨gs, 1, none⟩ = some (.slice (some ad2) T.length c) ∧ w'.cell? (ad.add i) = some (.int .i64 (xn : Int)) ∧ w'.cell? (ad2.add (xn * 3)) = some (.int .i64 t.a) ∧ w'.cell? ((ad2.add (xn * 3)).add 1) = some (.int .i64 t.b) ∧ w'.cell? ((ad2.add (xn * 3)).add 2) = some (.int .i64 t.c) ∧ w'.cell? ⟨(ad2.add (xn * 3)).block, (ad2.add (xn * 3)).off + 1, none⟩ = some (.int .i64 t.b) ∧ w'.cell? ⟨(ad2.add (xn * 3)).block, (ad2.add (xn * 3)).off + 2, none⟩ = some (.int .i64 t.c) ∧ Below w3.heap.size w3 w')
                        ((refine HS.out _ ?_; repeat (first | exact HB0.out | refine bw_alloc ?_ _ | refine bw_drew ?_ | refine bw_set ?_ (by first | exact Nat.le_refl _ | exact Nat.le_succ _) _ | exact HBO.out _ (by assumption))))
                        (fail)
                      all_goals (go_wp2_with fail; go_meet)
                      all_goals exact ⟨_, rfl, Lib.hid (by first | exact (Blk.new _ _ _).drew | exact (blk_new1 _ _ _ _).drew), Lib.hid (HBO.out _ (by assumption))⟩
                    case rest =>
                      obtain ⟨gb, rfl, HTB, HB4⟩ := hcut
                      obtain ⟨w4, hw4⟩ : ∃ w4 : World, w4 = wc := ⟨_, rfl⟩
                      rw [← hw4] at HTB HB4 ⊢
                      clear hw4 HS HBO HB0 s0 s1 r0 r1 r2 r3 d0 d1 d2 d3 d4 d5 hc
                      have HI4 := Lib.hid (HII.out.below HB4.out)
                      have HP4 := Lib.hid (HPI.out.on HB4.out)
                      clear HII HPI HB4
                      obtain ⟨x0, x1, x2⟩ := tri_cells HTB.out
                      by_cases hh : hasV t (v : Int) = true
                      · have HO1 := HYES.out (HMX.out hh)
                        have HO2 := Lib.hid HO1
                        clear HO1
                        have hcs : t.a = (v : Int) ∨ (¬ t.a = (v : Int) ∧ t.b = (v : Int)) ∨ (¬ t.a = (v : Int) ∧ ¬ t.b = (v : Int) ∧ t.c = (v : Int)) := by
                          unfold hasV at hh
                          simp only [Bool.or_eq_true, beq_iff_eq] at hh
                          omega
                        clear hh
                        obtain ⟨ta, tb, tc⟩ := t
                        simp only at x0 x1 x2 hcs
                        rcases hcs with rfl | ⟨hna, rfl⟩ | ⟨hna, hnb, rfl⟩
                        · go_wp2_with (at_builtin; go_must (refine wpList_append_sl _ rfl (.tmp 93) (.tmp 95) _ rfl w.heap.size 3 i1 _ 1 8 Try.underlying25 hii hy0 hy1 hy2 rfl (by omega) (.slice A' O.length c') O.length (ZL O) rfl (HI4.out.alloc _).owns_ (w4.heap.size + 1) (some ⟨w4.heap.size, 0, none⟩) 1 1 [.int .i64 (v : Int)] rfl (reads_newN _ _ _ 1 1 rfl rfl) (by simp [Value.oneCell']) (by simp only [maxLen]; omega) (by omega) (bw_size (bw_alloc HP4.out.b (.cells #[.int .i64 (v : Int)] 3))) ?_); intro A5 c5 w9 hown5 hg5 hat5)
                          have hP := (HP4.out.alloc (.cells #[.int .i64 (v : Int)] 3)).grownI (HI4.out.alloc _) (Nat.le_refl _) hg5
                          refine ⟨⟨v + 1, A5, c5, by omega, by go_num, by rw [HO2.out]; simp, ?_, Lib.hid hP⟩, by simp [intOf]; omega⟩
                          rw [HO2.out]
                          exact Lib.hid (irow_snoc hown5)
                        · go_wp2_with (at_builtin; go_must (refine wpList_append_sl _ rfl (.tmp 93) (.tmp 95) _ rfl w.heap.size 3 i1 _ 1 8 Try.underlying25 hii hy0 hy1 hy2 rfl (by omega) (.slice A' O.length c') O.length (ZL O) rfl (HI4.out.alloc _).owns_ (w4.heap.size + 1) (some ⟨w4.heap.size, 0, none⟩) 1 1 [.int .i64 (v : Int)] rfl (reads_newN _ _ _ 1 1 rfl rfl) (by simp [Value.oneCell']) (by simp only [maxLen]; omega) (by omega) (bw_size (bw_alloc HP4.out.b (.cells #[.int .i64 (v : Int)] 3))) ?_); intro A5 c5 w9 hown5 hg5 hat5)
                          have hP := (HP4.out.alloc (.cells #[.int .i64 (v : Int)] 3)).grownI (HI4.out.alloc _) (Nat.le_refl _) hg5
                          refine ⟨⟨v + 1, A5, c5, by omega, by go_num, by rw [HO2.out]; simp, ?_, Lib.hid hP⟩, by simp [intOf]; omega⟩
                          rw [HO2.out]
                          exact Lib.hid (irow_snoc hown5)
                        · go_wp2_with (at_builtin; go_must (refine wpList_append_sl _ rfl (.tmp 93) (.tmp 95) _ rfl w.heap.size 3 i1 _ 1 8 Try.underlying25 hii hy0 hy1 hy2 rfl (by omega) (.slice A' O.length c') O.length (ZL O) rfl (HI4.out.alloc _).owns_ (w4.heap.size + 1) (some ⟨w4.heap.size, 0, none⟩) 1 1 [.int .i64 (v : Int)] rfl (reads_newN _ _ _ 1 1 rfl rfl) (by simp [Value.oneCell']) (by simp only [maxLen]; omega) (by omega) (bw_size (bw_alloc HP4.out.b (.cells #[.int .i64 (v : Int)] 3))) ?_); intro A5 c5 w9 hown5 hg5 hat5)
                          have hP := (HP4.out.alloc (.cells #[.int .i64 (v : Int)] 3)).grownI (HI4.out.alloc _) (Nat.le_refl _) hg5
                          refine ⟨⟨v + 1, A5, c5, by omega, by go_num, by rw [HO2.out]; simp, ?_, Lib.hid hP⟩, by simp [intOf]; omega⟩
                          rw [HO2.out]
                          exact Lib.hid (irow_snoc hown5)
                      · have hh : hasV t (v : Int) = false := by simpa using hh
                        have hna : (t.a == (v : Int)) = false := by unfold hasV at hh; simp only [Bool.or_eq_false_iff] at hh; exact hh.1.1
                        have hnb : (t.b == (v : Int)) = false := by unfold hasV at hh; simp only [Bool.or_eq_false_iff] at hh; exact hh.1.2
                        have hnc : (t.c == (v : Int)) = false := by unfold hasV at hh; simp only [Bool.or_eq_false_iff] at hh; exact hh.2
                        have HH := Lib.hid hh
                        clear hh
                        go_wp2_with fail
                        exact ⟨⟨i + 1, none, 0, by omega, by go_num, rfl, Lib.hid (by rw [HTX.out, HH.out]), HI4, HP4⟩, by simp [intOf]; omega⟩
                  · obtain rfl : i = l.length := by omega
                    have hai := HAI.out
                    rw [List.take_length] at hai
                    have HO2 := Lib.hid (HNO.out hai)
                    clear hai
                    go_wp2_with fail
                    exact ⟨⟨v + 1, A', c', by omega, by go_num, by rw [HO2.out], by rw [HO2.out]; exact HII, HPI⟩, by simp [intOf]; omega⟩
              · obtain rfl : v = m := by omega
                rw [oldK_all] at HIV hOl ⊢
                have HQ : Hid (partL (v : Int) T l = ((((oldL (v : Int) T l).length : Int), l.map fun i => partT (oldL (v : Int) T l) (tri T i.toNat)), oldL (v : Int) T l, 0)) := Lib.hid (by
                  unfold partL
                  rw [if_neg (by rw [hf]; simp), if_neg (by rw [HALL.out]; simp), if_neg (by rw [HTW.out]; simp)])
                generalize oldL (v : Int) T l = old at *
                clear HPL
                obtain ⟨w5, hw5⟩ : ∃ w5 : World, w5 = wr := ⟨_, rfl⟩
                rw [← hw5] at HIV HPV s0 s1 r0 r1 r2 r3 ⊢
                clear hw5
                go_wp2_with fail
                obtain ⟨V2, hV2⟩ : ∃ V, V = w5.alloc (.cells #[.int .i64 (old.length : Int), .slice none 0 0] 24) := ⟨_, rfl⟩
                have HO : Hid (OneSoup V2 w.heap.size w5.heap.size (.int .i64 (old.length : Int)) none 0 []) := by subst hV2; exact Lib.hid ⟨Blk.new _ _ _, LRow.nil _ _, HPV.out.b.size⟩
                have HP8 : Hid (PS w V2 gs gr (v : Int) A T.length c) := by subst hV2; exact Lib.hid (HPV.out.alloc _)
                have HI8 : Hid (IRow V2 w.heap.size A' c' old) := by subst hV2; exact Lib.hid (HIV.out.alloc _)
                have HGO : Hid (w5.heap.size ≠ gs ∧ w5.heap.size ≠ gr ∧ w.heap.size ≤ w5.heap.size) := Lib.hid ⟨by have := HPV.out.s.lt; omega, by have := HPV.out.r.lt; omega, HPV.out.b.size⟩
                rw [← hV2]
                generalize w5.heap.size = go at *
                clear hV2 HPV HIV s0 s1 r0 r1 r2 r3
                obtain ⟨Ao, hAo⟩ : ∃ Ao, Ao = A' := ⟨_, rfl⟩
                obtain ⟨co, hco⟩ : ∃ co, co = c' := ⟨_, rfl⟩
                rw [← hAo, ← hco] at HI8 ⊢
                clear hAo hco
                go_loopw [14] (fun iv wr => ∃ (k : Nat) (A' : Option Addr) (c' : Nat), k ≤ l.length ∧ iv = .int .i64 k ∧ Hid (OneSoup wr w.heap.size go (.int .i64 (old.length : Int)) A' c' ((l.take k).map fun i => partT old (tri T i.toNat))) ∧ Hid (PS w wr gs gr (v : Int) A T.length c) ∧ Hid (IRow wr w.heap.size Ao co old)) (fun iv _ => l.length - (intOf iv).toNat)
                case atStart => exact ⟨0, none, 0, by omega, rfl, HO, HP8, HI8⟩
                case round =>
                  obtain ⟨k, A', c', hk, rfl, HOK, HPK, HIK⟩ := hrel
                  clear HO HP8 HI8
                  by_cases hlt : k < l.length
                  · obtain ⟨w3, hw3⟩ : ∃ w3 : World, w3 = wr := ⟨_, rfl⟩
                    rw [← hw3] at HOK HPK HIK ⊢
                    clear hw3
                    obtain ⟨ad, u, e3, had, hu, hc⟩ := (HL.out.below HPK.out.b).at_ hlt
                    obtain ⟨x, hx, rfl⟩ := zl_at hu
                    have HLX := Lib.hid hx
                    have hin := in_all HALL.out (List.mem_of_getElem? hx)
                    clear hu hx
                    obtain ⟨xn, rfl⟩ := Int.eq_ofNat_of_zero_le hin.1
                    have hxn : xn < T.length := by omega
                    obtain ⟨ad2, t, e2, htk, _, hadb, hc3⟩ := (HT.out.below HPK.out.b).at_ hxn
                    subst e3
                    subst e2
                    obtain ⟨s0, s1, r0, r1, r2, r3⟩ := HPK.out.cells
                    obtain ⟨d0, d1, d2, d3, d4, d5⟩ := hc3
                    have hkk0 : (0 : Int) ≤ (k : Int) := by omega
                    have hkk1 : (k : Int) < (l.length : Int) := by omega
                    have hq0 : (0 : Int) ≤ (xn : Int) := by omega
                    have hq1 : (xn : Int) < (T.length : Int) := by omega
                    have hgs := HPK.out.s.lt
                    have hsz := HPK.out.b.size
                    obtain ⟨L, hL⟩ : ∃ L, L = (l.take k).map fun i => partT old (tri T i.toNat) := ⟨_, rfl⟩
                    rw [← hL] at HOK
                    have hLl : L.length ≤ 1000 := by rw [hL]; simp; omega
                    have HLS : Hid (L ++ [partT old t] = (l.take (k + 1)).map fun i => partT old (tri T i.toNat)) := Lib.hid (by rw [hL, take_snoc_Z l k HLX.out, List.map_append, List.map_cons, show ((xn : Int)).toNat = xn from rfl, tri_of htk]; rfl)
                    have HB0 := Lib.hid (Below.refl w3.heap.size w3)
                    have HS : Hid (∀ w', Below w3.heap.size w3 w' → w'.cell? ⟨gs, 1, none⟩ = some (.slice (some ad2) T.length c) ∧ w'.cell? (ad.add k) = some (.int .i64 (xn : Int)) ∧ w'.cell? (ad2.add (xn * 3)) = some (.int .i64 t.a) ∧ w'.cell? ((ad2.add (xn * 3)).add 1) = some (.int .i64 t.b) ∧ w'.cell? ((ad2.add (xn * 3)).add 2) = some (.int .i64 t.c) ∧ w'.cell? ⟨(ad2.add (xn * 3)).block, (ad2.add (xn * 3)).off + 1, none⟩ = some (.int .i64 t.b) ∧ w'.cell? ⟨(ad2.add (xn * 3)).block, (ad2.add (xn * 3)).off + 2, none⟩ = some (.int .i64 t.c) ∧ Below w3.heap.size w3 w') := Lib.hid fun w' h =>
                      ⟨(h.cell (p := ⟨gs, 1, none⟩) hgs).trans s1, (h.cell (by rw [block_of_add]; omega)).trans hc, (h.cell (by rw [block_of_add]; omega)).trans d0, (h.cell (by rw [block_of_add, block_of_add]; omega)).trans d1, (h.cell (by rw [block_of_add, block_of_add]; omega)).trans d2, (h.cell (p := ⟨(ad2.add (xn * 3)).block, _, none⟩) (by simp only [block_of_add]; omega)).trans d4, (h.cell (p := ⟨(ad2.add (xn * 3)).block, _, none⟩) (by simp only [block_of_add]; omega)).trans d5, h⟩
                    have HBO : Hid (∀ w', (w'.cell? ⟨gs, 1, none⟩ = some (.slice (some ad2) T.length c) ∧ w'.cell? (ad.add k) = some (.int .i64 (xn : Int)) ∧ w'.cell? (ad2.add (xn * 3)) = some (.int .i64 t.a) ∧ w'.cell? ((ad2.add (xn * 3)).add 1) = some (.int .i64 t.b) ∧ w'.cell? ((ad2.add (xn * 3)).add 2) = some (.int .i64 t.c) ∧ w'.cell? ⟨(ad2.add (xn * 3)).block, (ad2.add (xn * 3)).off + 1, none⟩ = some (.int .i64 t.b) ∧ w'.cell? ⟨(ad2.add (xn * 3)).block, (ad2.add (xn * 3)).off + 2, none⟩ = some (.int .i64 t.c) ∧ Below w3.heap.size w3 w') → Below w3.heap.size w3 w') := Lib.hid fun w' h => h.2.2.2.2.2.2.2
                    clear htk HLX hL
                    go_wp2_with fail
                    go_cut [15] (fun pa wx => ∃ gb, pa = .pointer (some ⟨gb, 0, none⟩) ∧ Hid (Blk wx gb 51 #[.int .i64 t.a, .int .i64 t.b, .int .i64 t.c]) ∧ Hid (Below w3.heap.size w3 wx) ∧ Hid (w3.heap.size ≤ gb))
                    case first =>
                      go_region_held3 (fun w' => w'.cell? ⟨gs, 1, none⟩ = some (.slice (some ad2) T.length c) ∧ w'.cell? (ad.add k) = some (.int .i64 (xn : Int)) ∧ w'.cell? (ad2.add (xn * 3)) = some (.int .i64 t.a) ∧ w'.cell? ((ad2.add (xn * 3)).add 1) = some (.int .i64 t.b) ∧ w'.cell? ((ad2.add (xn * 3)).add 2) = some (.int .i64 t.c) ∧ w'.cell? ⟨(ad2.add (xn * 3)).block, (ad2.add (xn * 3)).off + 1, none⟩ = some (.int .i64 t.b) ∧ w'.cell? ⟨(ad2.add (xn * 3)).block, (ad2.add (xn * 3)).off + 2, none⟩ = some (.int .i64 t.c) ∧ Below w3.heap.size w3 w')
                        ((refine HS.out _ ?_; repeat (first | exact HB0.out | refine bw_alloc ?_ _ | refine bw_drew ?_ | refine bw_set ?_ (by first | exact Nat.le_refl _ | exact Nat.le_succ _) _ | exact HBO.out _ (by assumption))))
                        (fail)
                      all_goals (go_wp2_with fail; go_meet)
                      all_goals exact ⟨_, rfl, Lib.hid (by first | exact (Blk.new _ _ _).drew | exact (blk_new1 _ _ _ _).drew), Lib.hid (HBO.out _ (by assumption)), Lib.hid (by omega)⟩
                    case rest =>
                      obtain ⟨tb, rfl, HTB, HB4, HTG⟩ := hcut
                      obtain ⟨w8, hw8⟩ : ∃ w8 : World, w8 = wc := ⟨_, rfl⟩
                      rw [← hw8] at HTB HB4 ⊢
                      have HO8 := Lib.hid (HOK.out.on HB4.out)
                      have HP9 := Lib.hid (HPK.out.on HB4.out)
                      have HI9 := Lib.hid (HIK.out.below HB4.out)
                      have HRD : Hid (Reads w8.drew w8.heap.size 1 Ao old.length (ZL old)) := Lib.hid (HI9.out.drew.reads)
                      have hTR : ∀ j, (Value.slice A' L.length c').ownBlock = some j → j < w3.heap.size := fun j hj => (HOK.out.r.owns.lt j hj).2
                      have htb3 := HTG.out
                      clear hw8 HS HBO HB0 s0 s1 r0 r1 r2 r3 d0 d1 d2 d3 d4 d5 hc HOK HPK HIK HB4
                      obtain ⟨o0, o1, o2, o3, ol⟩ := HO8.out.cells
                      obtain ⟨row, hrow⟩ : ∃ row, row = (Value.slice A' L.length c').ownBlock := ⟨_, rfl⟩
                      have HK0 := Lib.hid (KeepO.refl w8.heap.size row w8)
                      have HS : Hid (∀ w', KeepO w8.heap.size row w8 w' → w'.cell? ⟨tb, 0, none⟩ = some (.int .i64 t.a) ∧ w'.cell? ⟨tb, 1, none⟩ = some (.int .i64 t.b) ∧ w'.cell? ⟨tb, 2, none⟩ = some (.int .i64 t.c) ∧ w'.cell? ⟨go, 1, none⟩ = some (.slice A' L.length c') ∧ KeepO w8.heap.size row w8 w') := Lib.hid fun w' h => by
                        have e := fun j => h.get (p := ⟨tb, j, none⟩) HTB.out.lt (Nat.ne_of_lt HTB.out.lt) (fun e => by rw [hrow] at e; have := hTR tb e.symm; omega)
                        exact ⟨(e 0).trans (HTB.out.cell 0), (e 1).trans (HTB.out.cell 1), (e 2).trans (HTB.out.cell 2), (h.get (p := ⟨go, 1, none⟩) ol (Nat.ne_of_lt ol) (fun e => by rw [hrow] at e; exact soup_tri_ne HO8.out.r HO8.out.t go e.symm rfl)).trans o1, h⟩
                      have HKO : Hid (∀ w', (w'.cell? ⟨tb, 0, none⟩ = some (.int .i64 t.a) ∧ w'.cell? ⟨tb, 1, none⟩ = some (.int .i64 t.b) ∧ w'.cell? ⟨tb, 2, none⟩ = some (.int .i64 t.c) ∧ w'.cell? ⟨go, 1, none⟩ = some (.slice A' L.length c') ∧ KeepO w8.heap.size row w8 w') → KeepO w8.heap.size row w8 w') := Lib.hid fun w' h => h.2.2.2.2
                      have HPT : Hid ((partT old t).cells = [.int .i64 (placeL old t.a), .int .i64 (placeL old t.b), .int .i64 (placeL old t.c)]) := Lib.hid rfl
                      have HC0 := Lib.hid (refPlace_any old Ao old.length co t.a w8.drew (by omega) HRD.out)
                      have HC1 := Lib.hid (refPlace_any old Ao old.length co t.b w8.drew (by omega) HRD.out)
                      have HC2 := Lib.hid (refPlace_any old Ao old.length co t.c w8.drew (by omega) HRD.out)
                      generalize placeL old t.a = pa at *
                      generalize placeL old t.b = pb at *
                      generalize placeL old t.c = pc at *
                      subst hrow
                      go_wp2_with fail
                      refine wp_region_till (S := fun w' => w'.cell? ⟨tb, 0, none⟩ = some (.int .i64 t.a) ∧ w'.cell? ⟨tb, 1, none⟩ = some (.int .i64 t.b) ∧ w'.cell? ⟨tb, 2, none⟩ = some (.int .i64 t.c) ∧ w'.cell? ⟨go, 1, none⟩ = some (.slice A' L.length c') ∧ KeepO w8.heap.size (Value.slice A' L.length c').ownBlock w8 w') 18 (by kernel_rfl) ?_ (fun hHeld => ?_)
                      · (refine HS.out _ ?_; repeat (first | exact HK0.out | exact hK5 | assumption | refine KeepO.alloc ?_ _ | refine KeepO.drew ?_ | refine KeepO.set ?_ _ | exact HKO.out _ (by assumption)))
                      refine Till.take (i := 0) (v := ?vt1) rfl (by kernel_rfl) (by kernel_rfl) (by kernel_rfl) (by kernel_rfl) (fun _ _ _ h => h) (Or.inl ⟨by rfl, ?ht1⟩) (by assumption) ?restt1
                      case ht1 => (intro w hSw; (try dsimp only at hSw); go_simp; try with_reducible rfl)
                      (try simp only [Act.put, List.setIfInBounds_toArray, List.set_cons_zero, List.set_cons_succ])
                      refine Till.take (i := 1) (v := ?vt2) rfl (by kernel_rfl) (by kernel_rfl) (by kernel_rfl) (by kernel_rfl) (fun _ _ _ h => h) (Or.inl ⟨by rfl, ?ht2⟩) (by assumption) ?restt2
                      case ht2 => (intro w hSw; (try dsimp only at hSw); go_simp; try with_reducible rfl)
                      (try simp only [Act.put, List.setIfInBounds_toArray, List.set_cons_zero, List.set_cons_succ])
                      refine Till.take (i := 2) (v := ?vt3) rfl (by kernel_rfl) (by kernel_rfl) (by kernel_rfl) (by kernel_rfl) (fun _ _ _ h => h) (Or.inl ⟨by rfl, ?ht3⟩) (by assumption) ?restt3
                      case ht3 => (intro w hSw; (try dsimp only at hSw); go_simp; try with_reducible rfl)
                      (try simp only [Act.put, List.setIfInBounds_toArray, List.set_cons_zero, List.set_cons_succ])
                      refine Till.take (i := 3) (v := ?vt4) rfl (by kernel_rfl) (by kernel_rfl) (by kernel_rfl) (by kernel_rfl) (fun _ _ _ h => h) (Or.inl ⟨by rfl, ?ht4⟩) (by assumption) ?restt4
                      case ht4 => (intro w hSw; (try dsimp only at hSw); go_simp; try with_reducible rfl)
                      (try simp only [Act.put, List.setIfInBounds_toArray, List.set_cons_zero, List.set_cons_succ])
                      refine Till.take (i := 4) (v := ?vt5) rfl (by kernel_rfl) (by kernel_rfl) (by kernel_rfl) (by kernel_rfl) (fun _ _ _ h => h) (Or.inl ⟨by rfl, ?ht5⟩) (by assumption) ?restt5
                      case ht5 => (intro w hSw; (try dsimp only at hSw); go_simp; try with_reducible rfl)
                      (try simp only [Act.put, List.setIfInBounds_toArray, List.set_cons_zero, List.set_cons_succ])
                      refine Till.take (i := 6) (v := ?vt6) rfl (by kernel_rfl) (by kernel_rfl) (by kernel_rfl) (by kernel_rfl) (fun _ _ _ h => h) (Or.inl ⟨by rfl, ?ht6⟩) (by assumption) ?restt6
                      case ht6 => (intro w hSw; (try dsimp only at hSw); go_simp; try with_reducible rfl)
                      (try simp only [Act.put, List.setIfInBounds_toArray, List.set_cons_zero, List.set_cons_succ])
                      refine Till.take (i := 7) (v := ?vt7) rfl (by kernel_rfl) (by kernel_rfl) (by kernel_rfl) (by kernel_rfl) (fun _ _ _ h => h) (Or.inl ⟨by rfl, ?ht7⟩) (by assumption) ?restt7
                      case ht7 => (intro w hSw; (try dsimp only at hSw); go_simp; try with_reducible rfl)
                      (try simp only [Act.put, List.setIfInBounds_toArray, List.set_cons_zero, List.set_cons_succ])
                      refine Till.take (i := 8) (v := ?vt8) rfl (by kernel_rfl) (by kernel_rfl) (by kernel_rfl) (by kernel_rfl) (fun _ _ _ h => h) (Or.inl ⟨by rfl, ?ht8⟩) (by assumption) ?restt8
                      case ht8 => (intro w hSw; (try dsimp only at hSw); go_simp; try with_reducible rfl)
                      (try simp only [Act.put, List.setIfInBounds_toArray, List.set_cons_zero, List.set_cons_succ])
                      refine Till.take (i := 10) (v := ?vt9) rfl (by kernel_rfl) (by kernel_rfl) (by kernel_rfl) (by kernel_rfl) (fun _ _ _ h => h) (Or.inl ⟨by rfl, ?ht9⟩) (by assumption) ?restt9
                      case ht9 => (intro w hSw; (try dsimp only at hSw); go_simp; try with_reducible rfl)
                      (try simp only [Act.put, List.setIfInBounds_toArray, List.set_cons_zero, List.set_cons_succ])
                      refine Till.take (i := 11) (v := ?vt10) rfl (by kernel_rfl) (by kernel_rfl) (by kernel_rfl) (by kernel_rfl) (fun _ _ _ h => h) (Or.inl ⟨by rfl, ?ht10⟩) (by assumption) ?restt10
                      case ht10 => (intro w hSw; (try dsimp only at hSw); go_simp; try with_reducible rfl)
                      (try simp only [Act.put, List.setIfInBounds_toArray, List.set_cons_zero, List.set_cons_succ])
                      refine Till.take (i := 12) (v := ?vt11) rfl (by kernel_rfl) (by kernel_rfl) (by kernel_rfl) (by kernel_rfl) (fun _ _ _ h => h) (Or.inl ⟨by rfl, ?ht11⟩) (by assumption) ?restt11
                      case ht11 => (intro w hSw; (try dsimp only at hSw); go_simp; try with_reducible rfl)
                      (try simp only [Act.put, List.setIfInBounds_toArray, List.set_cons_zero, List.set_cons_succ])
                      refine Till.ready (rs := [5]) (by kernel_rfl) (by simp) ?_
                      refine TillEach.cons rfl (fun K hK => ?_) ?_
                      · go_simp
                        go_wp2_with (go_at_call 36; refine HC0.out.mono ?_; rintro e w9 ⟨rfl, rfl⟩)
                        refine hK.out _ _ ?_ (fun hHeld => ?_)
                        · (refine HS.out _ ?_; repeat (first | exact HK0.out | exact hK5 | assumption | refine KeepO.alloc ?_ _ | refine KeepO.drew ?_ | refine KeepO.set ?_ _ | exact HKO.out _ (by assumption)))
                        clear hK K
                        (try simp only [Act.put, List.setIfInBounds_toArray, List.set_cons_zero, List.set_cons_succ])
                        refine Till.ready (rs := [9]) (by kernel_rfl) (by simp) ?_
                        refine TillEach.cons rfl (fun K hK => ?_) ?_
                        · go_simp
                          go_wp2_with (go_at_call 36; refine HC1.out.mono ?_; rintro e w9 ⟨rfl, rfl⟩)
                          refine hK.out _ _ ?_ (fun hHeld => ?_)
                          · (refine HS.out _ ?_; repeat (first | exact HK0.out | exact hK5 | assumption | refine KeepO.alloc ?_ _ | refine KeepO.drew ?_ | refine KeepO.set ?_ _ | exact HKO.out _ (by assumption)))
                          clear hK K
                          (try simp only [Act.put, List.setIfInBounds_toArray, List.set_cons_zero, List.set_cons_succ])
                          refine Till.ready (rs := [13]) (by kernel_rfl) (by simp) ?_
                          refine TillEach.cons rfl (fun K hK => ?_) ?_
                          · go_simp
                            go_wp2_with (go_at_call 36; refine HC2.out.mono ?_; rintro e w9 ⟨rfl, rfl⟩)
                            refine hK.out _ _ ?_ (fun hHeld => ?_)
                            · (refine HS.out _ ?_; repeat (first | exact HK0.out | exact hK5 | assumption | refine KeepO.alloc ?_ _ | refine KeepO.drew ?_ | refine KeepO.set ?_ _ | exact HKO.out _ (by assumption)))
                            clear hK K
                            (try simp only [Act.put, List.setIfInBounds_toArray, List.set_cons_zero, List.set_cons_succ])
                            refine Till.take (i := 14) (v := ?vt12) rfl (by kernel_rfl) (by kernel_rfl) (by kernel_rfl) (by kernel_rfl) (fun _ _ _ h => h) (Or.inl ⟨by rfl, ?ht12⟩) (by assumption) ?restt12
                            case ht12 => (intro w hSw; (try dsimp only at hSw); go_simp; try with_reducible rfl)
                            (try simp only [Act.put, List.setIfInBounds_toArray, List.set_cons_zero, List.set_cons_succ])
                            refine Till.ready (rs := [15]) (by kernel_rfl) (by simp) ?_
                            refine TillEach.cons rfl (fun K hK => ?_) ?_
                            · go_simp
                              refine hK.out _ _ ?_ (fun hHeld => ?_)
                              · (refine HS.out _ ?_; repeat (first | exact HK0.out | exact hK5 | assumption | refine KeepO.alloc ?_ _ | refine KeepO.drew ?_ | refine KeepO.set ?_ _ | exact HKO.out _ (by assumption)))
                              clear hK K
                              (try simp only [Act.put, List.setIfInBounds_toArray, List.set_cons_zero, List.set_cons_succ])
                              refine Till.ready (rs := [16]) (by kernel_rfl) (by simp) ?_
                              refine TillEach.cons rfl (fun K hK => ?_) ?_
                              · refine step_append_sl _ (by rfl) (.tmp 115) (.tmp 129) _ (by rfl) w.heap.size 51 i0 _ 3 24 Try.underlying22 hi0 hz0 hz1 hz2 rfl (by omega) (.slice A' L.length c') L.length (L.flatMap Tri.cells) (by rfl) ((HO8.out).alloc _).drew.r.owns (w8.heap.size + 1) (some ⟨w8.heap.size, 0, none⟩) 1 1 [.int .i64 pa, .int .i64 pb, .int .i64 pc] (by rfl) (reads_newN _ _ _ 1 3 rfl rfl).drew (by simp [Value.oneCell']) (by simp only [maxLen]; omega) (by omega) (bw_size (bw_drew (bw_alloc HP9.out.b _))) ?_
                                intro A5 c5 w5 hown5 hg5 hat5
                                obtain ⟨z0, z1, z2⟩ := OneSoup.facts ((HO8.out).alloc _).drew hg5
                                have hB5 : Below w.heap.size w w5 := bw_grow (bw_drew (bw_alloc HP9.out.b _)) hg5 (fun x hx => (HO8.out.r.owns.lt x hx).1)
                                have hK5 := KeepO.grow (KeepO.drew (KeepO.alloc HK0.out _)) hg5
                                refine hK.out _ _ ?_ (fun hHeld => ?_)
                                · (refine HS.out _ ?_; repeat (first | exact HK0.out | exact hK5 | assumption | refine KeepO.alloc ?_ _ | refine KeepO.drew ?_ | refine KeepO.set ?_ _ | exact HKO.out _ (by assumption)))
                                clear hK K
                                (try simp only [Act.put, List.setIfInBounds_toArray, List.set_cons_zero, List.set_cons_succ])
                                refine Till.take (i := 17) (v := ?vt13) rfl (by kernel_rfl) (by kernel_rfl) (by kernel_rfl) (by kernel_rfl) (fun _ _ _ h => h) (Or.inl ⟨by rfl, ?ht13⟩) (by assumption) ?restt13
                                case ht13 => (intro w hSw; (try dsimp only at hSw); go_simp; try with_reducible rfl)
                                (try simp only [Act.put, List.setIfInBounds_toArray, List.set_cons_zero, List.set_cons_succ])
                                refine Till.ready (rs := [18]) (by kernel_rfl) (by simp) ?_
                                refine TillEach.last rfl (fun K hK => ?_)
                                · go_simp
                                  refine hK.out _ _ ?_
                                  clear hK K
                                  (try simp only [Act.put, List.setIfInBounds_toArray, List.set_cons_zero, List.set_cons_succ])
                                  refine Till.done (by kernel_rfl) ?_ _
                                  go_wp2_with fail
                                  refine ⟨⟨k + 1, A5, c5, by omega, by go_num, Lib.hid ?_, Lib.hid ?_, Lib.hid ?_⟩, by simp [intOf]; omega⟩
                                  · rw [← HLS.out]
                                    exact OneSoup.push ((HO8.out).alloc _).drew hown5 (by simp) (by rw [List.flatMap_append, ← HPT.out]; simp) hg5
                                  · exact (PS.grown ((HP9.out).alloc _).drew ((HO8.out).alloc _).drew.r (Nat.le_refl _) hg5).far HGO.out.1.symm HGO.out.2.1.symm HGO.out.2.2 _ _
                                  · exact (IRow.grown ((HI9.out).alloc _).drew hg5 (fun j hj => HI9.out.ne_row HO8.out.r j hj)).setCell (((HO8.out).alloc _).drew.t.grown hg5 fun e => soup_tri_ne HO8.out.r HO8.out.t go e.symm rfl) (by decide) _
                              exact TillEach.nil
                            exact TillEach.nil
                          exact TillEach.nil
                        exact TillEach.nil
                      exact TillEach.nil
                  · obtain rfl : k = l.length := by omega
                    have HOE := HOK.out
                    rw [List.take_length] at HOE
                    obtain ⟨L, hL⟩ : ∃ L, L = l.map fun i => partT old (tri T i.toNat) := ⟨_, rfl⟩
                    rw [← hL] at HOE
                    rw [← hL] at HQ
                    clear hL HOK
                    obtain ⟨o0, o1, _, _, _⟩ := HOE.cells
                    obtain ⟨s0, s1, r0, r1, r2, r3⟩ := HPK.out.cells
                    go_wp2_with fail
                    obtain ⟨f0, f1, _, _, _⟩ := soup_facts (soup_set HPK.out.r (.int .i64 (old.length : Int)) (.slice A' L.length c'))
                    refine bodyPost_ret (v := .tuple #[.agg #[.int .i64 (old.length : Int), .slice A' L.length c'], .slice Ao old.length co, .int .i64 0]) ?_ rfl (part_post HQ.out (HOE.r.soup_set HPK.out.r _ _) ((HIK.out.setCell HPK.out.r (by decide) _).setCell (HPK.out.r.set_ 0 _) (by decide) _) (bw_set (bw_set HPK.out.b HPK.out.hr _) HPK.out.hr _))
                    simp [results, Try.results16, go_sem, f0, f1]
end Go.Proofs.Ytmmjonpkpeanpaa
