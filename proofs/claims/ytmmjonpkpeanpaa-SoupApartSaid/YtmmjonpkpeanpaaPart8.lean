/- soup.Part, walked. No condition. -/
import Derived.Test.YtmmjonpkpeanpaaPartA8
namespace Go.Proofs.Ytmmjonpkpeanpaa
open Go.RowKit

/-- A soup and a list of the call's own, and an error's number. -/
def PartPost (w : World) (r : (Int × List Tri) × List Int × Int) (e : Ending) (w' : World) : Prop := ∃ A c A2 c2, e = .returned (.tuple #[.agg #[.int .i64 r.1.1, .slice A r.1.2.length c], .slice A2 r.2.1.length c2, .int .i64 r.2.2]) ∧ LRow w' w.heap.size A c r.1.2 ∧ IRow w' w.heap.size A2 c2 r.2.1 ∧ Below w.heap.size w w'
theorem part_post {w w' : World} {r : (Int × List Tri) × List Int × Int} {A A2 : Option Addr} {c c2 : Nat} {N e : Int} {L : List Tri} {O : List Int} (h : r = ((N, L), O, e)) (hr : LRow w' w.heap.size A c L) (hi : IRow w' w.heap.size A2 c2 O) (hb : Below w.heap.size w w') :
    PartPost w r (.returned (.tuple #[.agg #[.int .i64 N, .slice A L.length c], .slice A2 O.length c2, .int .i64 e])) w' := by
  subst h
  exact ⟨A, c, A2, c2, rfl, hr, hi, hb⟩

set_option linter.unusedSimpArgs false
set_option linter.unusedVariables false
attribute [local irreducible] Blk LRow IRow World.alloc World.setCell KeepO World.cell? World.frozen? MapI
set_option maxRecDepth 100000 in
set_option maxHeartbeats 8000000 in
theorem part_any (N : Int) (A : Option Addr) (n c : Nat) (T : List Tri) (Al : Option Addr) (m cl : Nat) (l : List Int) (w : World) (hn : n ≤ 1000) (hm : m ≤ 1000) (ht : TrisAt w w.heap.size A n T) (hl : Reads w w.heap.size 1 Al m (ZL l)) :
    Calls Try.prog 15 #[.agg #[.int .i64 N, .slice A n c], .slice Al m cl] w (PartPost w (partL N T l)) := by
  obtain rfl : n = T.length := ht.len.symm
  obtain rfl : m = l.length := by have := hl.1; simp [ZL] at this; exact this.symm
  have HT := Lib.hid ht
  have HL := Lib.hid hl
  obtain ⟨i0, hi0, hz0, hz1, hz2⟩ := info_parts ltri_info
  clear ht hl
  go_enter Try.func15, Try.ntmps15
  go_wp2_with fail
  obtain ⟨V, hV⟩ : ∃ V, V = (w.alloc (.cells #[.int .i64 N, .slice A T.length c] 24)).alloc (.cells #[.int .i64 0, .slice none 0 0] 24) := ⟨_, rfl⟩
  have HP : Hid (PS w V w.heap.size (w.heap.size + 1) N A T.length c) := by subst hV; exact Lib.hid ⟨(Blk.new _ _ _).alloc _, blk_new1 _ _ _ _, bw_alloc (bw_alloc (Below.refl _ _) _) _, Nat.le_refl _, Nat.le_succ _, by omega⟩
  rw [← hV]
  clear hV
  obtain ⟨gs, hgs⟩ : ∃ gs, gs = w.heap.size := ⟨_, rfl⟩
  obtain ⟨gr, hgr⟩ : ∃ gr, gr = w.heap.size + 1 := ⟨_, rfl⟩
  rw [← hgr] at HP ⊢
  have HP : Hid (PS w V gs gr N A T.length c) := by rw [hgs]; exact HP
  simp only [← hgs]
  clear hgs hgr
  refine (fits_any N A T.length c T V (by omega) ((HT.out.below HP.out.b).more HP.out.b.size)).mono ?_
  rintro e w1 ⟨rfl, hb⟩
  have HP1 := Lib.hid (HP.out.on hb)
  clear hb HP
  cases hf : fitL N T with
  | false =>
    have HQ : Hid (partL N T l = ((0, []), [], 1)) := Lib.hid (by unfold partL; rw [if_pos hf])
    obtain ⟨s0, s1, r0, r1, r2, r3⟩ := HP1.out.cells
    go_wp2_with fail
    obtain ⟨f0, f1, _, _, _⟩ := soup_facts (soup_set HP1.out.r (.int .i64 0) (.slice none 0 0))
    refine bodyPost_ret (v := .tuple #[.agg #[.int .i64 0, .slice none 0 0], .slice none 0 0, .int .i64 1]) ?_ rfl (part_post HQ.out (LRow.nil _ _) (IRow.nil _ _) (bw_set (bw_set HP1.out.b HP1.out.hr _) HP1.out.hr _))
    simp [results, Try.results15, go_sem, f0, f1]
  | true =>
    obtain ⟨s0, s1, r0, r1, r2, r3⟩ := HP1.out.cells
    go_wp2_with fail
    go_loopw [29] (fun iv wr => ∃ k : Nat, k ≤ l.length ∧ iv = .int .i64 k ∧ Hid ((l.take k).any (outOf T.length) = false) ∧ Hid (PS w wr gs gr N A T.length c)) (fun iv _ => l.length - (intOf iv).toNat)
    case atStart => exact ⟨0, by omega, rfl, Lib.hid (by simp), HP1⟩
    case round =>
      obtain ⟨k, hk, rfl, HK, HPK⟩ := hrel
      clear s0 s1 r0 r1 r2 r3
      by_cases hlt : k < l.length
      · obtain ⟨ad, u, rfl, had, hu, hc⟩ := ((HL.out.below HPK.out.b).more HPK.out.b.size).at_ hlt
        obtain ⟨x, hx, rfl⟩ := zl_at hu
        have HLX := Lib.hid hx
        clear hu hx
        obtain ⟨s0, s1, r0, r1, r2, r3⟩ := HPK.out.cells
        have hk0 : (0 : Int) ≤ (k : Int) := by omega
        have hk1 : (k : Int) < (l.length : Int) := by omega
        by_cases hbad : outOf T.length x = true
        · have HQ : Hid (partL N T l = ((0, []), [], 2)) := Lib.hid (by
            unfold partL
            rw [if_neg (by rw [hf]; simp), if_pos]
            exact List.any_eq_true.2 ⟨x, List.mem_of_getElem? HLX.out, hbad⟩)
          obtain ⟨f0, f1, _, _, _⟩ := soup_facts (soup_set HPK.out.r (.int .i64 0) (.slice none 0 0))
          have hbad2 : x < 0 ∨ (T.length : Int) ≤ x := by simpa [outOf] using hbad
          by_cases hx0 : x < 0
          · go_wp2_with fail
            refine bodyPost_ret (v := .tuple #[.agg #[.int .i64 0, .slice none 0 0], .slice none 0 0, .int .i64 2]) ?_ rfl (part_post HQ.out (LRow.nil _ _) (IRow.nil _ _) (bw_set (bw_set HPK.out.b HPK.out.hr _) HPK.out.hr _))
            simp [results, Try.results15, go_sem, f0, f1]
          · have hx1 : (T.length : Int) ≤ x := by omega
            go_wp2_with fail
            refine bodyPost_ret (v := .tuple #[.agg #[.int .i64 0, .slice none 0 0], .slice none 0 0, .int .i64 2]) ?_ rfl (part_post HQ.out (LRow.nil _ _) (IRow.nil _ _) (bw_set (bw_set HPK.out.b HPK.out.hr _) HPK.out.hr _))
            simp [results, Try.results15, go_sem, f0, f1]
        · have hok : outOf T.length x = false := by simpa using hbad
          have hin : 0 ≤ x ∧ x < (T.length : Int) := by simp [outOf] at hok; omega
          obtain ⟨hx0, hx1⟩ := hin
          go_wp2_with fail
          refine ⟨⟨k + 1, by omega, by go_num, Lib.hid ?_, HPK⟩, by simp [intOf]; omega⟩
          rw [take_snoc_Z l k HLX.out, List.any_append, HK.out]
          simp [hok]
      · obtain rfl : k = l.length := by omega
        have hall := HK.out
        rw [List.take_length] at hall
        have HALL := Lib.hid hall
        obtain ⟨w3, hw3⟩ : ∃ w3 : World, w3 = wr := ⟨_, rfl⟩
        rw [← hw3] at HPK ⊢
        clear hw3 HK hall HP1
        have hmm := @run_makeMap Try.prog
        go_wp2_with fail
        obtain ⟨V, hV⟩ : ∃ V, V = (w3.alloc (.map #[] 0)).alloc (.map #[] 0) := ⟨_, rfl⟩
        have HM1 : Hid (MapI Try.prog 3 V w3.heap.size 0 (inF [])) := by subst hV; exact Lib.hid (((MapI.made_ Try.prog 3 rfl).congr (fun x => by simp [inF])).alloc _)
        have HM2 : Hid (MapI Try.prog 3 V (w3.heap.size + 1) 0 (inF [])) := by subst hV; exact Lib.hid ((MapI.made_ Try.prog 3 (by simp)).congr (fun x => by simp [inF]))
        have HP2 : Hid (PS w V gs gr N A T.length c) := by subst hV; exact Lib.hid ((HPK.out.alloc _).alloc _)
        rw [← hV]
        have HMN : Hid (w3.heap.size ≠ gs ∧ w3.heap.size ≠ gr ∧ w3.heap.size + 1 ≠ gs ∧ w3.heap.size + 1 ≠ gr ∧ w.heap.size ≤ w3.heap.size) := Lib.hid (by
          have h1 := HPK.out.s.lt
          have h2 := HPK.out.r.lt
          have h3 := HPK.out.b.size
          omega)
        have HMD : Hid (w3.heap.size + 1 ≠ w3.heap.size ∧ w.heap.size ≤ w3.heap.size + 1) := Lib.hid ⟨by omega, by have := HPK.out.b.size; omega⟩
        obtain ⟨mu, hmu⟩ : ∃ mu, mu = w3.heap.size + 1 := ⟨_, rfl⟩
        rw [← hmu] at HM2 HMN HMD ⊢
        generalize w3.heap.size = ms at *
        clear hV hmu HPK hmm
        go_loopw [48] (fun iv wr => ∃ k n1 n2 : Nat, k ≤ l.length ∧ iv = .int .i64 k ∧ n1 ≤ k ∧ n2 ≤ 3 * k ∧ Hid ((l.take k).Nodup) ∧ Hid (PS w wr gs gr N A T.length c) ∧ Hid (MapI Try.prog 3 wr ms n1 (inF (l.take k))) ∧ Hid (MapI Try.prog 3 wr mu n2 (inF (usedL T (l.take k))))) (fun iv _ => l.length - (intOf iv).toNat)
        case atStart => exact ⟨0, 0, 0, by omega, rfl, by omega, by omega, Lib.hid (by simp), HP2, by simpa using HM1, by simpa [usedL] using HM2⟩
        case round =>
          obtain ⟨k, n1, n2, hk, rfl, hn1, hn2, HND, HPK, HMS, HMU⟩ := hrel
          by_cases hlt : k < l.length
          · obtain ⟨ad, u, rfl, had, hu, hc⟩ := ((HL.out.below HPK.out.b).more HPK.out.b.size).at_ hlt
            obtain ⟨x, hx, rfl⟩ := zl_at hu
            have HLX := Lib.hid hx
            have hin := in_all HALL.out (List.mem_of_getElem? hx)
            clear hu hx
            obtain ⟨xn, rfl⟩ := Int.eq_ofNat_of_zero_le hin.1
            have hxn : xn < T.length := by omega
            obtain ⟨s0, s1, r0, r1, r2, r3⟩ := HPK.out.cells
            have hk0 : (0 : Int) ≤ (k : Int) := by omega
            have hk1 : (k : Int) < (l.length : Int) := by omega
            have hwf := WalkArith.wf_i64 (n := (xn : Int)) (by omega)
            have hlook := HMS.out.look Try.underlying3 Try.underlying57 (z := .bool false) (by kernel_rfl) hwf false
            have HTS := Lib.hid (take_snoc_Z l k HLX.out)
            by_cases hdup : (xn : Int) ∈ l.take k
            · have HQ : Hid (partL N T l = ((0, []), [], 9)) := Lib.hid (by
                unfold partL
                rw [if_neg (by rw [hf]; simp), if_neg (by rw [HALL.out]; simp), if_pos]
                unfold twiceL
                have : ¬ l.Nodup := fun h => by
                  have h2 : (l.take (k + 1)).Nodup := h.sublist (List.take_sublist _ _)
                  rw [HTS.out, List.nodup_append] at h2
                  exact h2.2.2 _ hdup _ (by simp) rfl
                simp [this])
              have hlk : (if false = true then Value.tuple #[(inF (l.take k) (xn : Int)).getD (.bool false), .bool (inF (l.take k) (xn : Int)).isSome] else (inF (l.take k) (xn : Int)).getD (.bool false)) = .bool true := by unfold inF; rw [if_pos hdup]; rfl
              rw [hlk] at hlook
              clear hlk hdup
              obtain ⟨f0, f1, _, _, _⟩ := soup_facts (soup_set HPK.out.r (.int .i64 0) (.slice none 0 0))
              go_wp2_with fail
              refine bodyPost_ret (v := .tuple #[.agg #[.int .i64 0, .slice none 0 0], .slice none 0 0, .int .i64 9]) ?_ rfl (part_post HQ.out (LRow.nil _ _) (IRow.nil _ _) (bw_set (bw_set HPK.out.b HPK.out.hr _) HPK.out.hr _))
              simp [results, Try.results15, go_sem, f0, f1]
            · have hlk : (if false = true then Value.tuple #[(inF (l.take k) (xn : Int)).getD (.bool false), .bool (inF (l.take k) (xn : Int)).isSome] else (inF (l.take k) (xn : Int)).getD (.bool false)) = .bool false := by unfold inF; rw [if_neg hdup]; rfl
              rw [hlk] at hlook
              have HNDS : Hid ((l.take (k + 1)).Nodup) := Lib.hid (by
                rw [HTS.out, List.nodup_append]
                refine ⟨HND.out, by simp, fun a ha b hb e => ?_⟩
                simp at hb
                rw [e, hb] at ha
                exact hdup ha)
              clear hlk hdup
              obtain ⟨w4, n1', hput, hm4, hset, hn1'⟩ := HMS.out.put Try.underlying3 Try.underlying57 (by unfold maxLen; omega) hwf (.bool true)
              have HMS4 : Hid (MapI Try.prog 3 w4 ms n1' (inF (l.take (k + 1)))) := Lib.hid (by rw [HTS.out, ← inF_snoc]; exact hm4)
              have HMU4 := Lib.hid (hset.map HMU.out HMD.out.1)
              have HP4 := Lib.hid (HPK.out.setM hset HMN.out.1.symm HMN.out.2.1.symm HMN.out.2.2.2.2)
              obtain ⟨ad2, t, e2, htk, _, hadb, hc3⟩ := ((HT.out.below HP4.out.b).more HP4.out.b.size).at_ hxn
              obtain ⟨d0, d1, d2, d3, d4, d5⟩ := hc3
              obtain ⟨q0, q1, _, _, _, _⟩ := HP4.out.cells
              have hq0 : (0 : Int) ≤ (xn : Int) := by omega
              have hq1 : (xn : Int) < (T.length : Int) := by omega
              have HTK := Lib.hid htk
              clear hm4 hset HMS HMU HPK htk HND
              subst e2
              go_wp2_with fail
              have HFT := Lib.hid (fitT_iff.1 (fit_tri hf hxn)).1
              have HFN := Lib.hid (fit_N hf)
              rw [tri_of HTK.out] at HFT
              clear d0 d1 d2 d3 d4 d5 q0 q1 s0 s1 r0 r1 r2 r3 hput hlook
              have e0 : ∀ w, (Instr.index 51 (.agg #[.int .i64 t.a, .int .i64 t.b, .int .i64 t.c]) (.int .i64 0)).run Try.prog w = .ok (.int .i64 t.a) w := fun _ => by kernel_rfl
              have e1 : ∀ w, (Instr.index 51 (.agg #[.int .i64 t.a, .int .i64 t.b, .int .i64 t.c]) (.int .i64 1)).run Try.prog w = .ok (.int .i64 t.b) w := fun _ => by kernel_rfl
              have e2 : ∀ w, (Instr.index 51 (.agg #[.int .i64 t.a, .int .i64 t.b, .int .i64 t.c]) (.int .i64 2)).run Try.prog w = .ok (.int .i64 t.c) w := fun _ => by kernel_rfl
              go_loopw [63] (fun iv wm => ∃ q n3 : Nat, q ≤ 3 ∧ iv = .int .i64 q ∧ n3 ≤ 3 * k + q ∧ Hid (PS w wm gs gr N (some ad2) T.length c) ∧ Hid (MapI Try.prog 3 wm ms n1' (inF (l.take (k + 1)))) ∧ Hid (MapI Try.prog 3 wm mu n3 (inF (usedL T (l.take k) ++ [t.a, t.b, t.c].take q)))) (fun iv _ => 3 - (intOf iv).toNat)
              case atStart => exact ⟨0, n2, by omega, rfl, by omega, HP4, HMS4, by simpa using HMU4⟩
              case round =>
                obtain ⟨q, n3, hq, hkv, hn3, HPM, HMSM, HMUM⟩ := hrel
                obtain ⟨wm, hwm⟩ : ∃ wm : World, wm = wr := ⟨_, rfl⟩
                rw [← hwm] at HPM HMSM HMUM ⊢
                clear hwm HP4 HMS4 HMU4
                rcases (by omega : q = 0 ∨ q = 1 ∨ q = 2 ∨ q = 3) with rfl | rfl | rfl | rfl
                · have hkv' : _ = Value.int .i64 0 := hkv
                  subst hkv'
                  clear hkv
                  obtain ⟨w5, n4, hput, hm5, hset, hn4⟩ := HMUM.out.put Try.underlying3 Try.underlying57 (by unfold maxLen; omega) (WalkArith.wf_i64 (n := t.a) (by have := HFT.out; have := HFN.out; omega)) (.bool true)
                  have HM5 : Hid (MapI Try.prog 3 w5 mu n4 (inF (usedL T (l.take k) ++ [t.a, t.b, t.c].take 1))) := Lib.hid (by
                    rw [show [t.a, t.b, t.c].take 1 = [t.a, t.b, t.c].take 0 ++ [t.a] from rfl, ← List.append_assoc, ← inF_snoc]
                    exact hm5)
                  clear hm5
                  go_wp2_with fail
                  exact ⟨⟨1, n4, by omega, by go_num, by omega, Lib.hid (HPM.out.setM hset HMN.out.2.2.1.symm HMN.out.2.2.2.1.symm HMD.out.2), Lib.hid (hset.map HMSM.out HMD.out.1.symm), HM5⟩, by simp [intOf]⟩
                · have hkv' : _ = Value.int .i64 1 := hkv
                  subst hkv'
                  clear hkv
                  obtain ⟨w5, n4, hput, hm5, hset, hn4⟩ := HMUM.out.put Try.underlying3 Try.underlying57 (by unfold maxLen; omega) (WalkArith.wf_i64 (n := t.b) (by have := HFT.out; have := HFN.out; omega)) (.bool true)
                  have HM5 : Hid (MapI Try.prog 3 w5 mu n4 (inF (usedL T (l.take k) ++ [t.a, t.b, t.c].take 2))) := Lib.hid (by
                    rw [show [t.a, t.b, t.c].take 2 = [t.a, t.b, t.c].take 1 ++ [t.b] from rfl, ← List.append_assoc, ← inF_snoc]
                    exact hm5)
                  clear hm5
                  go_wp2_with fail
                  exact ⟨⟨2, n4, by omega, by go_num, by omega, Lib.hid (HPM.out.setM hset HMN.out.2.2.1.symm HMN.out.2.2.2.1.symm HMD.out.2), Lib.hid (hset.map HMSM.out HMD.out.1.symm), HM5⟩, by simp [intOf]⟩
                · have hkv' : _ = Value.int .i64 2 := hkv
                  subst hkv'
                  clear hkv
                  obtain ⟨w5, n4, hput, hm5, hset, hn4⟩ := HMUM.out.put Try.underlying3 Try.underlying57 (by unfold maxLen; omega) (WalkArith.wf_i64 (n := t.c) (by have := HFT.out; have := HFN.out; omega)) (.bool true)
                  have HM5 : Hid (MapI Try.prog 3 w5 mu n4 (inF (usedL T (l.take k) ++ [t.a, t.b, t.c].take 3))) := Lib.hid (by
                    rw [show [t.a, t.b, t.c].take 3 = [t.a, t.b, t.c].take 2 ++ [t.c] from rfl, ← List.append_assoc, ← inF_snoc]
                    exact hm5)
                  clear hm5
                  go_wp2_with fail
                  exact ⟨⟨3, n4, by omega, by go_num, by omega, Lib.hid (HPM.out.setM hset HMN.out.2.2.1.symm HMN.out.2.2.2.1.symm HMD.out.2), Lib.hid (hset.map HMSM.out HMD.out.1.symm), HM5⟩, by simp [intOf]⟩
                · have hkv' : _ = Value.int .i64 3 := hkv
                  subst hkv'
                  clear hkv
                  go_wp2_with fail
                  refine ⟨⟨k + 1, n1', n3, by omega, by go_num, by omega, by omega, HNDS, HPM, HMSM, ?_⟩, by simp [intOf]; omega⟩
                  rw [HTS.out, usedL_snoc, show ((xn : Int)).toNat = xn from rfl, tri_of HTK.out]
                  exact HMUM
          · obtain rfl : k = l.length := by omega
            rw [List.take_length] at HND HMS HMU
            have HTW : Hid (twiceL l = false) := Lib.hid (by unfold twiceL; rw [decide_eq_true HND.out]; rfl)
            have HQ : Hid (partL N T l = ((((oldL N T l).length : Int), l.map fun i => partT (oldL N T l) (tri T i.toNat)), oldL N T l, 0)) := Lib.hid (by
              unfold partL
              rw [if_neg (by rw [hf]; simp), if_neg (by rw [HALL.out]; simp), if_neg (by rw [HTW.out]; simp)])
            have HOL := Lib.hid (old_sorted N T l)
            have HOM := Lib.hid (fun x => old_used (N := N) (T := T) (l := l) hf HALL.out x)
            have HON : Hid (∀ i, i < T.length → (i : Int) ∈ l → (tri T i).a ∈ oldL N T l ∧ (tri T i).b ∈ oldL N T l ∧ (tri T i).c ∈ oldL N T l) := Lib.hid (fun i hi hl => by
              have h := (fitT_iff.1 (fit_tri hf hi)).1
              refine ⟨(old_mem N T l _).2 ⟨by omega, _, hl, by simp [hasV]⟩, (old_mem N T l _).2 ⟨by omega, _, hl, by simp [hasV]⟩, (old_mem N T l _).2 ⟨by omega, _, hl, by simp [hasV]⟩⟩)
            have HOB : Hid (∀ x ∈ oldL N T l, 0 ≤ x ∧ x < 4096) := Lib.hid (fun x hx => by have h1 := ((old_mem N T l x).1 hx).1; have h2 := fit_N hf; omega)
            have hol : (oldL N T l).length ≤ 4096 := by
              have h := List.length_filter_le (fun v : Int => l.any fun i => hasV (tri T i.toNat) v) ((List.range N.toNat).map fun i : Nat => (i : Int))
              have h2 := fit_N hf
              have e : (oldL N T l).length ≤ ((List.range N.toNat).map fun i : Nat => (i : Int)).length := h
              simp at e
              omega
            generalize oldL N T l = old at *
            obtain ⟨w5, hw5⟩ : ∃ w5 : World, w5 = wr := ⟨_, rfl⟩
            rw [← hw5] at HMU HPK ⊢
            clear hw5 HMS HND HM1 HM2 HP2
            go_wp2_with fail
            refine (keysI_any _ _).mono ?_
            rintro e w6 ⟨rfl, rfl⟩
            go_wp2_with fail
            refine (sortedI_any mu n2 _ old w5 HMU.out (by omega) HOL.out HOM.out).mono ?_
            rintro e w6 ⟨Ao, co, rfl, hrow, hb⟩
            have HA5 : Hid (Below w5.heap.size w5 (w5.alloc (.cells #[.map (some mu)] 57))) := Lib.hid (bw_alloc (Below.refl _ _) _)
            have HMB : Hid (w.heap.size ≤ w5.heap.size) := Lib.hid HPK.out.b.size
            have HI6 : Hid (IRow w6 w5.heap.size Ao co old) := Lib.hid (IRow.base (irow_of hrow) HA5.out.size)
            have HP6 := Lib.hid ((HPK.out.on HA5.out).on hb)
            clear hrow hb HMU HPK HA5
            have HB5 : Hid (w.heap.size ≤ w5.heap.size) := Lib.hid HMB.out
            generalize w5.heap.size = b5 at *
            have hmm := @run_makeMap Try.prog
            go_wp2_with fail
            obtain ⟨V, hV⟩ : ∃ V, V = w6.alloc (.map #[] 0) := ⟨_, rfl⟩
            have HMT : Hid (MapI Try.prog 3 V w6.heap.size 0 (idxF old 0)) := by subst hV; exact Lib.hid ((MapI.made_ Try.prog 3 rfl).congr (fun x => by simp [idxF]))
            have HP7 : Hid (PS w V gs gr N A T.length c) := by subst hV; exact Lib.hid (HP6.out.alloc _)
            have HI7 : Hid (IRow V b5 Ao co old) := by subst hV; exact Lib.hid (HI6.out.alloc _)
            rw [← hV]
            have HTN : Hid (w6.heap.size ≠ gs ∧ w6.heap.size ≠ gr ∧ w.heap.size ≤ w6.heap.size) := Lib.hid (by
              have h1 := HP6.out.s.lt
              have h2 := HP6.out.r.lt
              have h3 := HP6.out.b.size
              omega)
            generalize w6.heap.size = mt at *
            clear hV HP6 HI6 hmm
            have HOD : Hid old.Nodup := Lib.hid (HOL.out.imp fun h e => by omega)
            go_loopw [76] (fun iv wr => ∃ k n3 : Nat, k ≤ old.length ∧ iv = .int .i64 k ∧ n3 ≤ k ∧ Hid (PS w wr gs gr N A T.length c) ∧ Hid (IRow wr b5 Ao co old) ∧ Hid (MapI Try.prog 3 wr mt n3 (idxF old k))) (fun iv _ => old.length - (intOf iv).toNat)
            case atStart => exact ⟨0, 0, by omega, rfl, by omega, HP7, HI7, HMT⟩
            case round =>
              obtain ⟨k, n3, hk, rfl, hn3, HPK, HIK, HMK⟩ := hrel
              by_cases hlt : k < old.length
              · obtain ⟨ao, u, rfl, had, hu, hc⟩ := HIK.out.reads.at_ hlt
                obtain ⟨x, hx, rfl⟩ := zl_at hu
                have HLX := Lib.hid hx
                have hxb := HOB.out x (List.mem_of_getElem? hx)
                have hwf := WalkArith.wf_i64 (n := x) (by omega)
                clear hu hx
                have hk0 : (0 : Int) ≤ (k : Int) := by omega
                have hk1 : (k : Int) < (old.length : Int) := by omega
                obtain ⟨w7, n4, hput, hm7, hset, hn4⟩ := HMK.out.put Try.underlying3 Try.underlying62 (by unfold maxLen; omega) hwf (.int .i64 k)
                have HM7 : Hid (MapI Try.prog 3 w7 mt n4 (idxF old (k + 1))) := Lib.hid (by rw [← idxF_snoc HOD.out HLX.out]; exact hm7)
                clear hm7
                go_wp2_with fail
                exact ⟨⟨k + 1, n4, by omega, by go_num, by omega, Lib.hid (HPK.out.setM hset HTN.out.1.symm HTN.out.2.1.symm HTN.out.2.2), Lib.hid (hset.irow HIK.out (HMK.out.off_irow HIK.out)), HM7⟩, by simp [intOf]; omega⟩
              · obtain rfl : k = old.length := by omega
                obtain ⟨w7, hw7⟩ : ∃ w7 : World, w7 = wr := ⟨_, rfl⟩
                rw [← hw7] at HPK HIK HMK ⊢
                clear hw7 HP7 HI7 HMT
                go_wp2_with fail
                obtain ⟨V2, hV2⟩ : ∃ V, V = w7.alloc (.cells #[.int .i64 (old.length : Int), .slice none 0 0] 24) := ⟨_, rfl⟩
                have HO : Hid (OneSoup V2 w.heap.size w7.heap.size (.int .i64 (old.length : Int)) none 0 []) := by subst hV2; exact Lib.hid ⟨Blk.new _ _ _, LRow.nil _ _, HPK.out.b.size⟩
                have HP8 : Hid (PS w V2 gs gr N A T.length c) := by subst hV2; exact Lib.hid (HPK.out.alloc _)
                have HI8 : Hid (IRow V2 b5 Ao co old) := by subst hV2; exact Lib.hid (HIK.out.alloc _)
                have HM8 : Hid (MapI Try.prog 3 V2 mt n3 (idxF old old.length)) := by subst hV2; exact Lib.hid (HMK.out.alloc _)
                have HGO : Hid (w7.heap.size ≠ gs ∧ w7.heap.size ≠ gr ∧ w7.heap.size ≠ mt ∧ w.heap.size ≤ w7.heap.size ∧ ∀ j, (Value.slice Ao old.length co).ownBlock = some j → j ≠ w7.heap.size) := Lib.hid (by
                  have h1 := HPK.out.s.lt
                  have h2 := HPK.out.r.lt
                  have h3 := HPK.out.b.size
                  have h4 := HMK.out.lt
                  exact ⟨by omega, by omega, by omega, h3, fun j hj => by have := (HIK.out.lt_ j hj).2; omega⟩)
                rw [← hV2]
                generalize w7.heap.size = go at *
                clear hV2 HPK HIK HMK
                go_loopw [90] (fun iv wr => ∃ (k : Nat) (A' : Option Addr) (c' : Nat), k ≤ l.length ∧ iv = .int .i64 k ∧ Hid (OneSoup wr w.heap.size go (.int .i64 (old.length : Int)) A' c' ((l.take k).map fun i => partT old (tri T i.toNat))) ∧ Hid (PS w wr gs gr N A T.length c) ∧ Hid (IRow wr b5 Ao co old) ∧ Hid (MapI Try.prog 3 wr mt n3 (idxF old old.length))) (fun iv _ => l.length - (intOf iv).toNat)
                case atStart => exact ⟨0, none, 0, by omega, rfl, HO, HP8, HI8, HM8⟩
                case round =>
                  obtain ⟨k, A', c', hk, rfl, HOK, HPK, HIK, HMK⟩ := hrel
                  by_cases hlt : k < l.length
                  · obtain ⟨ad, u, rfl, had, hu, hc⟩ := ((HL.out.below HPK.out.b).more HPK.out.b.size).at_ hlt
                    obtain ⟨x, hx, rfl⟩ := zl_at hu
                    have HLX := Lib.hid hx
                    have hxl := List.mem_of_getElem? hx
                    have hin := in_all HALL.out hxl
                    clear hu hx
                    obtain ⟨xn, rfl⟩ := Int.eq_ofNat_of_zero_le hin.1
                    have hxn : xn < T.length := by omega
                    have hxl2 := HON.out xn hxn hxl
                    have hq0 : (0 : Int) ≤ (xn : Int) := by omega
                    have hq1 : (xn : Int) < (T.length : Int) := by omega
                    have hk0 : (0 : Int) ≤ (k : Int) := by omega
                    have hk1 : (k : Int) < (l.length : Int) := by omega
                    obtain ⟨ad2, t, e2, htk, _, hadb, hc3⟩ := ((HT.out.below HPK.out.b).more HPK.out.b.size).at_ hxn
                    obtain ⟨d0, d1, d2, d3, d4, d5⟩ := hc3
                    subst e2
                    rw [tri_of htk] at hxl2
                    obtain ⟨L, hL⟩ : ∃ L, L = (l.take k).map fun i => partT old (tri T i.toNat) := ⟨_, rfl⟩
                    rw [← hL] at HOK
                    have hLl : L.length ≤ 1000 := by rw [hL]; simp; omega
                    have HLS : Hid (L ++ [partT old t] = (l.take (k + 1)).map fun i => partT old (tri T i.toNat)) := Lib.hid (by rw [hL, take_snoc_Z l k HLX.out, List.map_append, List.map_cons, show ((xn : Int)).toNat = xn from rfl, tri_of htk]; rfl)
                    obtain ⟨s0, s1, r0, r1, r2, r3⟩ := HPK.out.cells
                    clear hL HLX htk hxl
                    obtain ⟨w8, hw8⟩ : ∃ w8, w8 = wr.alloc (.cells #[.int .i64 t.a, .int .i64 t.b, .int .i64 t.c] 51) := ⟨_, rfl⟩
                    have HTB : Hid (Blk w8 wr.heap.size 51 #[.int .i64 t.a, .int .i64 t.b, .int .i64 t.c]) := by subst hw8; exact Lib.hid (Blk.new _ _ _)
                    have HO8 : Hid (OneSoup w8 w.heap.size go (.int .i64 (old.length : Int)) A' c' L) := by subst hw8; exact Lib.hid (HOK.out.alloc _)
                    have HP9 : Hid (PS w w8 gs gr N (some ad2) T.length c) := by subst hw8; exact Lib.hid (HPK.out.alloc _)
                    have HI9 : Hid (IRow w8 b5 Ao co old) := by subst hw8; exact Lib.hid (HIK.out.alloc _)
                    have HM9 : Hid (MapI Try.prog 3 w8 mt n3 (idxF old old.length)) := by subst hw8; exact Lib.hid (HMK.out.alloc _)
                    have hlook : ∀ x, x ∈ old → (Instr.lookup 62 (.map (some mt)) (.int .i64 x) false).run Try.prog w8 = .ok (.int .i64 (placeL old x)) w8 := fun x hx => by
                      have hxb := HOB.out x hx
                      have h := HM9.out.look Try.underlying3 Try.underlying62 (z := .int .i64 0) (by kernel_rfl) (WalkArith.wf_i64 (n := x) (by omega)) false
                      rw [h]
                      have e := idxF_place hx
                      simp only [Bool.false_eq_true, if_false, e]
                    have k0 := hlook t.a hxl2.1
                    have k1 := hlook t.b hxl2.2.1
                    have k2 := hlook t.c hxl2.2.2
                    clear hlook
                    have HPT : Hid ((partT old t).cells = [.int .i64 (placeL old t.a), .int .i64 (placeL old t.b), .int .i64 (placeL old t.c)]) := Lib.hid rfl
                    generalize placeL old t.a = pa at *
                    generalize placeL old t.b = pb at *
                    generalize placeL old t.c = pc at *
                    obtain ⟨x0, x1, x2⟩ := tri_cells HTB.out
                    obtain ⟨o0, o1, o2, o3, _⟩ := HO8.out.cells
                    subst hw8
                    have HB9 := Lib.hid (bw_size (bw_alloc HP9.out.b (.cells #[.int .i64 pa, .int .i64 pb, .int .i64 pc] 51)))
                    go_wp2_with (at_builtin; go_must (refine wpList_append_sl _ rfl (.tmp 100) (.tmp 114) _ rfl w.heap.size 51 i0 _ 3 24 Try.underlying22 hi0 hz0 hz1 hz2 rfl (by omega) (.slice A' L.length c') L.length (L.flatMap Tri.cells) rfl (HO8.out.alloc _).r.owns (wr.heap.size + 1 + 1) (some ⟨wr.heap.size + 1, 0, none⟩) 1 1 [.int .i64 pa, .int .i64 pb, .int .i64 pc] rfl (reads_newN _ _ _ 1 3 rfl (by simp)) (by simp [Value.oneCell']) (by simp only [maxLen]; omega) (by omega) HB9.out ?_); intro A5 c5 w9 hown5 hg5 hat5; obtain ⟨z0, z1, z2⟩ := OneSoup.facts (HO8.out.alloc _) hg5)
                    have hP := (HP9.out.alloc _).grown (HO8.out.alloc _).r (Nat.le_refl _) hg5
                    refine ⟨⟨k + 1, A5, c5, by omega, by go_num, Lib.hid ?_, Lib.hid (hP.far HGO.out.1.symm HGO.out.2.1.symm HGO.out.2.2.2.1 _ _), Lib.hid ?_, Lib.hid ?_⟩, by simp [intOf]; omega⟩
                    · rw [← HLS.out]
                      exact OneSoup.push (HO8.out.alloc _) hown5 (by simp) (by rw [List.flatMap_append, ← HPT.out]; simp) hg5
                    · have hI := (HI9.out.alloc (.cells #[.int .i64 pa, .int .i64 pb, .int .i64 pc] 51)).grown hg5 (fun j hj => HI9.out.ne_row HO8.out.r j hj)
                      exact hI.setCell ((HO8.out.alloc (.cells #[.int .i64 pa, .int .i64 pb, .int .i64 pc] 51)).t.grown hg5 fun e => soup_tri_ne HO8.out.r HO8.out.t go e.symm rfl) (by decide) _
                    · exact ((HM9.out.alloc _).grown hg5 (HM9.out.off_row HO8.out.r)).setCell z0 _
                  · obtain rfl : k = l.length := by omega
                    have HOE := HOK.out
                    rw [List.take_length] at HOE
                    obtain ⟨L, hL⟩ : ∃ L, L = l.map fun i => partT old (tri T i.toNat) := ⟨_, rfl⟩
                    rw [← hL] at HOE
                    rw [← hL] at HQ
                    clear hL HOK
                    obtain ⟨o0, o1, _, _, _⟩ := HOE.cells
                    obtain ⟨s0, s1, r0, r1, r2, r3⟩ := HPK.out.cells
                    go_wp2_with fail
                    obtain ⟨f0, f1, _, _, _⟩ := soup_facts (soup_set HPK.out.r (.int .i64 (old.length : Int)) (.slice A' L.length c'))
                    refine bodyPost_ret (v := .tuple #[.agg #[.int .i64 (old.length : Int), .slice A' L.length c'], .slice Ao old.length co, .int .i64 0]) ?_ rfl (part_post HQ.out (HOE.r.soup_set HPK.out.r _ _) (((HIK.out.base HB5.out).setCell HPK.out.r (by decide) _).setCell (HPK.out.r.set_ 0 _) (by decide) _) (bw_set (bw_set HPK.out.b HPK.out.hr _) HPK.out.hr _))
                    simp [results, Try.results15, go_sem, f0, f1]
end Go.Proofs.Ytmmjonpkpeanpaa
