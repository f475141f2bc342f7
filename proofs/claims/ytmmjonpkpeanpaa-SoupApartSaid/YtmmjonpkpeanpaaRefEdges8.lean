/- The document's Edges of layer 8, walked. No condition. -/
import Derived.Test.YtmmjonpkpeanpaaRefE8
import Derived.Deep.CutBlock
namespace Go.Proofs.Ytmmjonpkpeanpaa
open Go.RowKit

theorem ERow.cap {w : World} {B : Nat} {A : Option Addr} {c : Nat} {L : List (Int × Int)} (h : ERow w B A c L) : L.length ≤ c := by
  obtain ⟨A', c', e, hc⟩ := own_form h
  cases e
  exact hc
theorem cellE_take (E : List (Int × Int)) (j : Nat) : (E.flatMap cellE).take (j * 2) = (E.take j).flatMap cellE := by
  induction E generalizing j with
  | nil => simp
  | cons x E ih =>
    cases j with
    | zero => simp
    | succ j =>
      rw [show (j + 1) * 2 = j * 2 + 1 + 1 by omega]
      simp [cellE, ih]
theorem cellE_drop (E : List (Int × Int)) (j : Nat) : (E.flatMap cellE).drop (j * 2) = (E.drop j).flatMap cellE := by
  induction E generalizing j with
  | nil => simp
  | cons x E ih =>
    cases j with
    | zero => simp
    | succ j =>
      rw [show (j + 1) * 2 = j * 2 + 1 + 1 by omega]
      simp [cellE, ih]
theorem reads_pre {w : World} {B : Nat} {A : Option Addr} {c : Nat} {E : List (Int × Int)} (h : Reads w B 2 A E.length (E.flatMap cellE)) {j : Nat} (hj : j ≤ E.length) (_hc : E.length ≤ c) : Reads w B 2 (if c = 0 then A else A.map (·.add 0)) j ((E.take j).flatMap cellE) := by
  have h1 := h.take hj
  rw [cellE_take] at h1
  by_cases h0 : c = 0
  · rw [if_pos h0]
    exact h1
  · rw [if_neg h0]
    refine ⟨h1.1, fun hn => ?_⟩
    obtain ⟨ad, rfl, hb, hcell⟩ := h1.2 hn
    exact ⟨ad, by cases ad; rfl, hb, hcell⟩
theorem reads_suf {w : World} {B : Nat} {A : Option Addr} {c : Nat} {E : List (Int × Int)} (h : Reads w B 2 A E.length (E.flatMap cellE)) {j : Nat} (hj : j ≤ E.length) (hc : E.length ≤ c) : Reads w B 2 (if c = j then A else A.map (·.add (j * 2))) (E.length - j) ((E.drop j).flatMap cellE) := by
  have h1 := h.cut hj hc
  rw [cellE_drop] at h1
  exact h1
theorem ow_alloc {w : World} {B : Nat} {e : TypeId} {size n : Nat} {v : Value} {xs : List Value} (h : w.ownsRow B e size v n xs) (o : Obj) : (w.alloc o).ownsRow B e size v n xs := own_same h fun k hk => Below.heap_alloc _ _ _ (h.lt k hk).2
theorem ins_len_eq {L E : List (Int × Int)} {j : Nat} {e : Int × Int} (h : L = E.take j ++ e :: E.drop j) (hj : j ≤ E.length) : j + 1 + (E.length - j) = L.length := by
  rw [h]
  simp
  omega
theorem erow_ins {w : World} {B b : Nat} {A : Option Addr} {c : Nat} {L E : List (Int × Int)} {j : Nat} {lo hi : Int} (h : L = E.take j ++ (lo, hi) :: E.drop j) (hj : j ≤ E.length)
    (ho : w.ownsRow b 54 2 (.slice A (j + 1 + (E.length - j)) c) (j + 1 + (E.length - j)) ((E.take j).flatMap cellE ++ [.int .i64 lo, .int .i64 hi] ++ (E.drop j).flatMap cellE)) (hb : B ≤ b) : ERow w B A c L := by
  have h1 := own_mono ho hb
  rw [ins_len_eq h hj] at h1
  have h2 : (E.take j).flatMap cellE ++ [.int .i64 lo, .int .i64 hi] ++ (E.drop j).flatMap cellE = L.flatMap cellE := by
    rw [h]
    simp [cellE]
  rw [h2] at h1
  exact h1
theorem cellE_one (E : List (Int × Int)) : ∀ u ∈ E.flatMap cellE, u.oneCell' = true := by
  intro u hu
  obtain ⟨x, _, hx⟩ := List.mem_flatMap.1 hu
  simp [cellE] at hx
  rcases hx with rfl | rfl <;> rfl

set_option linter.unusedSimpArgs false
set_option linter.unusedVariables false
attribute [local irreducible] Blk LRow World.alloc World.setCell World.cell? World.frozen? ERow
set_option maxRecDepth 100000 in
set_option maxHeartbeats 8000000 in
theorem refEdges_any (N : Int) (A : Option Addr) (n c : Nat) (T : List Tri) (w : World) (hn : n ≤ 1000) (ht : TrisAt w w.heap.size A n T) :
    Calls Try.prog 21 #[.agg #[.int .i64 N, .slice A n c]] w (EPost w (edgesL N T)) := by
  obtain rfl : n = T.length := ht.len.symm
  have HT := Lib.hid ht
  clear ht
  obtain ⟨i0, hi0, hz0, hz1, hz2⟩ := info_parts edge_info
  go_enter Try.func21, Try.ntmps21
  go_wp2_with fail
  obtain ⟨V, hV⟩ : ∃ V, V = w.alloc (.cells #[.int .i64 N, .slice A T.length c] 24) := ⟨_, rfl⟩
  have HX : Hid (Blk V w.heap.size 24 #[.int .i64 N, .slice A T.length c]) := by subst hV; exact Lib.hid (Blk.new _ _ _)
  have HB : Hid (Below w.heap.size w V) := by subst hV; exact Lib.hid (bw_alloc (Below.refl _ _) _)
  rw [← hV]
  clear hV
  obtain ⟨gs, hgs⟩ : ∃ gs, gs = w.heap.size := ⟨_, rfl⟩
  rw [← hgs] at HX
  simp only [← hgs]
  clear hgs
  refine (refFits_any N A T.length c T V (by omega) ((HT.out.below HB.out).more HB.out.size)).mono ?_
  rintro e w1 ⟨rfl, hb⟩
  have HX1 := Lib.hid (blk_call HX.out hb)
  have HB1 := Lib.hid (bw_call HB.out hb)
  clear hb HX HB
  cases hf : fitL N T with
  | false =>
    have HQ : Hid (edgesL N T = []) := Lib.hid (by unfold edgesL; rw [if_pos hf])
    go_wp2_with fail
    go_ret
    rw [HQ.out]
    exact ⟨none, 0, rfl, ERow.nil _ _, HB1.out⟩
  | true =>
    have HQ : Hid (edgesL N T = (T.flatMap edgesT).foldl insE []) := Lib.hid (by unfold edgesL; rw [if_neg (by rw [hf]; simp)])
    go_wp2_with fail
    go_loopw [3, 4] (fun ov iv wr => ∃ (k : Nat) (A' : Option Addr) (c' : Nat), k ≤ T.length ∧ iv = .int .i64 k ∧ ov = .slice A' (((T.take k).flatMap edgesT).foldl insE []).length c' ∧ Hid (ERow wr w.heap.size A' c' (((T.take k).flatMap edgesT).foldl insE [])) ∧ Hid (Blk wr gs 24 #[.int .i64 N, .slice A T.length c]) ∧ Hid (Below w.heap.size w wr)) (fun _ iv _ => T.length - (intOf iv).toNat)
    case atStart => exact ⟨0, none, 0, by omega, rfl, rfl, Lib.hid (ERow.nil _ _), HX1, HB1⟩
    case round =>
      obtain ⟨k, A1, c1, hk, rfl, rfl, HEK, HXK, HBK⟩ := hrel
      obtain ⟨s0, s1, _, _, _⟩ := soup_facts HXK.out
      by_cases hlt : k < T.length
      · obtain ⟨ad, t, e2, htk, _, hadb, hc3⟩ := (HT.out.below HBK.out).at_ hlt
        subst e2
        have hk0 : (0 : Int) ≤ (k : Int) := by omega
        have hk1 : (k : Int) < (T.length : Int) := by omega
        have HTS : Hid (((T.take (k + 1)).flatMap edgesT).foldl insE [] = (edgesT t).foldl insE (((T.take k).flatMap edgesT).foldl insE [])) := Lib.hid (by rw [take_snoc_T T k htk, List.flatMap_append, List.foldl_append]; simp)
        have hEl : (((T.take k).flatMap edgesT).foldl insE []).length ≤ 3000 := by
          have h1 := foldl_ins_len ((T.take k).flatMap edgesT) []
          rw [edges_len] at h1
          simp at h1
          omega
        have HSO := Lib.hid (foldl_ins_sorted ((T.take k).flatMap edgesT) [] (by simp))
        generalize ((T.take k).flatMap edgesT).foldl insE [] = E0 at *
        have HTK := Lib.hid htk
        clear htk hc3 HX1 HB1
        go_wp2_with fail
        go_loopw [3, 5] (fun ov qv wm => ∃ (q : Nat) (A' : Option Addr) (c' : Nat), q ≤ 3 ∧ qv = .int .i64 q ∧ ov = .slice A' (((edgesT t).take q).foldl insE E0).length c' ∧ Hid (ERow wm w.heap.size A' c' (((edgesT t).take q).foldl insE E0)) ∧ Hid (Blk wm gs 24 #[.int .i64 N, .slice (some ad) T.length c]) ∧ Hid (Below w.heap.size w wm)) (fun _ qv _ => 3 - (intOf qv).toNat)
        case atStart => exact ⟨0, A1, c1, by omega, rfl, rfl, HEK, HXK, HBK⟩
        case round =>
          obtain ⟨q, A2, c2, hq, hqv, rfl, HEM, HXM, HBM⟩ := hrel
          obtain ⟨wm, hwm⟩ : ∃ wm : World, wm = wr := ⟨_, rfl⟩
          rw [← hwm] at HEM HXM HBM ⊢
          clear hwm HEK HXK HBK s0 s1
          obtain ⟨s0, s1, _, _, _⟩ := soup_facts HXM.out
          have HD : Hid (Cells3 wm (ad.add (k * 3)) (.int .i64 t.a) (.int .i64 t.b) (.int .i64 t.c)) := by
            exact (HT.out.below HBM.out).cells rfl HTK.out
          by_cases hq3 : q < 3
          · obtain ⟨d0, d1, d2, d3, d4, d5⟩ := HD.out
            have HTE : Hid (((edgesT t).take (q + 1)).foldl insE E0 = insE (((edgesT t).take q).foldl insE E0) (edgeE (cornerT t q) (cornerT t ((q + 1) % 3)))) := Lib.hid (by
              rcases (by omega : q = 0 ∨ q = 1 ∨ q = 2) with rfl | rfl | rfl <;> rfl)
            have hMl : (((edgesT t).take q).foldl insE E0).length ≤ 4000 := by
              have h1 := foldl_ins_len ((edgesT t).take q) E0
              have h2 : ((edgesT t).take q).length ≤ 3 := by rw [List.length_take]; exact Nat.le_trans (Nat.min_le_right _ _) (by simp [edgesT])
              omega
            have HMS := Lib.hid (foldl_ins_sorted ((edgesT t).take q) E0 HSO.out)
            generalize ((edgesT t).take q).foldl insE E0 = E at *
            have hq3i : (q : Int) < 3 := by omega
            have hq0 : (0 : Int) ≤ (q : Int) := by omega
            subst hqv
            go_wp2_with fail
            go_cut [6, 7] (fun av bv wx => av = .int .i64 (cornerT t q) ∧ bv = .int .i64 (cornerT t ((q + 1) % 3)) ∧ Hid (Blk wx gs 24 #[.int .i64 N, .slice (some ad) T.length c]) ∧ Hid (ERow wx w.heap.size A2 c2 E) ∧ Hid (Below w.heap.size w wx))
            case first =>
              have hcs : q = 0 ∨ q = 1 ∨ q = 2 := by omega
              obtain ⟨qi, hqi⟩ : ∃ qi : Int, qi = (q : Int) := ⟨_, rfl⟩
              rw [← hqi] at hq3i hq0 ⊢
              rcases hcs with rfl | rfl | rfl
              · replace hqi : qi = 0 := hqi
                subst hqi
                have v1 : IntKind.i64.wrap (0 + 1) = 1 := by decide
                have v2 : IntKind.i64.wrap 1 = 1 := by decide
                have r5 : Int.tmod 1 3 = 1 := by decide
                have v3 : IntKind.i64.wrap 1 = 1 := by decide
                go_wp2_with fail
                go_quiet (fail)
                go_wp2_with fail
                go_meet
                exact ⟨rfl, rfl, Lib.hid (HXM.out.drewN _), Lib.hid (HEM.out.below (below_drewN (Below.refl _ _) _)), Lib.hid (below_drewN HBM.out _)⟩
              · replace hqi : qi = 1 := hqi
                subst hqi
                have v1 : IntKind.i64.wrap (1 + 1) = 2 := by decide
                have v2 : IntKind.i64.wrap 2 = 2 := by decide
                have r5 : Int.tmod 2 3 = 2 := by decide
                have v3 : IntKind.i64.wrap 2 = 2 := by decide
                go_wp2_with fail
                go_quiet (fail)
                go_wp2_with fail
                go_meet
                exact ⟨rfl, rfl, Lib.hid (HXM.out.drewN _), Lib.hid (HEM.out.below (below_drewN (Below.refl _ _) _)), Lib.hid (below_drewN HBM.out _)⟩
              · replace hqi : qi = 2 := hqi
                subst hqi
                have v1 : IntKind.i64.wrap (2 + 1) = 3 := by decide
                have v2 : IntKind.i64.wrap 3 = 3 := by decide
                have r5 : Int.tmod 3 3 = 0 := by decide
                have v3 : IntKind.i64.wrap 0 = 0 := by decide
                go_wp2_with fail
                go_quiet (fail)
                go_wp2_with fail
                go_meet
                exact ⟨rfl, rfl, Lib.hid (HXM.out.drewN _), Lib.hid (HEM.out.below (below_drewN (Below.refl _ _) _)), Lib.hid (below_drewN HBM.out _)⟩
            case rest =>
              obtain ⟨rfl, rfl, HX4, HE4, HB4⟩ := hcut
              obtain ⟨w4, hw4⟩ : ∃ w4 : World, w4 = wc := ⟨_, rfl⟩
              rw [← hw4] at HX4 HE4 HB4 ⊢
              clear hw4 s0 s1 d0 d1 d2 d3 d4 d5 HXM HEM HBM HD
              generalize cornerT t q = va at *
              generalize cornerT t ((q + 1) % 3) = vb at *
              go_upto_if 41 with (fail)
              go_cut [6, 7] (fun av bv wx => av = .int .i64 (edgeE va vb).1 ∧ bv = .int .i64 (edgeE va vb).2 ∧ wx = w4)
              case first =>
                by_cases hab : vb < va
                · have e : edgeE va vb = (vb, va) := if_pos hab
                  go_wp2_with fail
                  go_meet
                  exact ⟨by rw [e], by rw [e], rfl⟩
                · have e : edgeE va vb = (va, vb) := if_neg hab
                  go_wp2_with fail
                  go_meet
                  exact ⟨by rw [e], by rw [e], rfl⟩
              case rest =>
                obtain ⟨rfl, rfl, hwc⟩ := hcut
                rw [hwc]
                clear hwc
                generalize edgeE va vb = ed at *
                obtain ⟨lo, hi⟩ := ed
                simp only
                go_upto_block 4 with (fail)
                go_cut [8] (fun jv wx => ∃ j : Nat, j ≤ E.length ∧ jv = .int .i64 j ∧ wx = w4 ∧ Hid ((∀ i x, i < j → E[i]? = some x → ltE x (lo, hi)) ∧ (∀ x, E[j]? = some x → ¬ ltE x (lo, hi))))
                case first =>
                  go_wp2_with fail
                  go_loopw [8] (fun jv wx => ∃ j : Nat, j ≤ E.length ∧ jv = .int .i64 j ∧ wx = w4 ∧ Hid (∀ i x, i < j → E[i]? = some x → ltE x (lo, hi))) (fun jv _ => E.length - (intOf jv).toNat)
                  case atStart => exact ⟨0, by omega, rfl, rfl, Lib.hid (fun i x h => absurd h (by omega))⟩
                  case round =>
                    obtain ⟨j, hj, rfl, hwr, HJ⟩ := hrel
                    rw [hwr]
                    clear hwr
                    by_cases hlj : j < E.length
                    · obtain ⟨ad2, x, eA, hx, hadb2, hc⟩ := edges_at HE4.out.reads hlj
                      obtain ⟨e0, e1, e2, e3⟩ := hc
                      subst eA
                      obtain ⟨xa, xb⟩ := x
                      have hj0 : (0 : Int) ≤ (j : Int) := by omega
                      have hj1 : (j : Int) < (E.length : Int) := by omega
                      have HNX : Hid (ltE (xa, xb) (lo, hi) → ∀ i x, i < j + 1 → E[i]? = some x → ltE x (lo, hi)) := Lib.hid fun hl i x hi he => by
                        by_cases hij : i < j
                        · exact HJ.out i x hij he
                        · obtain rfl : i = j := by omega
                          rw [hx] at he
                          cases he
                          exact hl
                      have HST : Hid (¬ ltE (xa, xb) (lo, hi) → ∀ x, E[j]? = some x → ¬ ltE x (lo, hi)) := Lib.hid fun hl x he => by
                        rw [hx] at he
                        cases he
                        exact hl
                      simp only at e0 e1 e2 e3
                      clear hx hadb2
                      by_cases h1 : xa < lo
                      · go_wp2_with fail
                        exact ⟨⟨j + 1, by omega, by go_num, by trivial, Lib.hid (HNX.out (by unfold ltE; simp only; omega))⟩, by simp [intOf]; omega⟩
                      · by_cases h2 : xa = lo
                        · by_cases h3 : xb < hi
                          · go_wp2_with fail
                            exact ⟨⟨j + 1, by omega, by go_num, by trivial, Lib.hid (HNX.out (by unfold ltE; simp only; omega))⟩, by simp [intOf]; omega⟩
                          · go_wp2_with fail
                            go_meet
                            exact ⟨j, by omega, by trivial, by trivial, Lib.hid ⟨HJ.out, HST.out (by unfold ltE; simp only; omega)⟩⟩
                        · go_wp2_with fail
                          go_meet
                          exact ⟨j, by omega, by trivial, by trivial, Lib.hid ⟨HJ.out, HST.out (by unfold ltE; simp only; omega)⟩⟩
                    · obtain rfl : j = E.length := by omega
                      go_wp2_with fail
                      go_meet
                      exact ⟨E.length, by omega, by trivial, by trivial, Lib.hid ⟨HJ.out, fun x hx => by simp at hx⟩⟩
                case rest =>
                  obtain ⟨j, hj, rfl, hwc, HJ⟩ := hcut
                  rw [hwc]
                  clear hwc
                  have HIN := Lib.hid (ins_at (lo, hi) E j HJ.out.1 hj HJ.out.2)
                  have hj0 : (0 : Int) ≤ (j : Int) := by omega
                  go_upto_region 16 with (fail)
                  go_cut [90] (fun bv wx => bv = .bool (decide (E[j]? = some (lo, hi))) ∧ wx = w4)
                  case first =>
                    by_cases hlj : j < E.length
                    · obtain ⟨ad2, x, eA, hx, hadb2, hc⟩ := edges_at HE4.out.reads hlj
                      obtain ⟨e0, e1, e2, e3⟩ := hc
                      subst eA
                      obtain ⟨xa, xb⟩ := x
                      have hj1 : (j : Int) < (E.length : Int) := by omega
                      have heq := run_eq_edge xa xb lo hi
                      have HX9 : Hid (decide (E[j]? = some (lo, hi)) = (xa == lo && xb == hi)) := Lib.hid (by
                        rw [hx]
                        by_cases h1 : xa = lo <;> by_cases h2 : xb = hi <;> simp [h1, h2])
                      simp only at e0 e1 e2 e3
                      clear hx hadb2
                      go_wp2_with fail
                      go_meet
                      exact ⟨by rw [HX9.out], by trivial⟩
                    · obtain rfl : j = E.length := by omega
                      go_wp2_with fail
                      go_meet
                      exact ⟨by simp, by trivial⟩
                  case rest =>
                    obtain ⟨rfl, hwc⟩ := hcut
                    rw [hwc]
                    clear hwc
                    by_cases hee : E[j]? = some (lo, hi)
                    · have HIN2 : Hid (insE E (lo, hi) = E) := Lib.hid (by rw [HIN.out, if_pos hee])
                      have hde : decide (E[j]? = some (lo, hi)) = true := by simp [hee]
                      rw [hde]
                      clear hde hee
                      go_wp2_with fail
                      exact ⟨⟨q + 1, A2, c2, by omega, by go_num, by rw [HTE.out, HIN2.out], by rw [HTE.out, HIN2.out]; exact HE4, HX4, HB4⟩, by simp [intOf]; omega⟩
                    · have HIN2 : Hid (insE E (lo, hi) = E.take j ++ (lo, hi) :: E.drop j) := Lib.hid (by rw [HIN.out, if_neg hee])
                      have hde : decide (E[j]? = some (lo, hi)) = false := by simp [hee]
                      rw [hde]
                      clear hde hee
                      go_upto_region 17 with (fail)
                      obtain ⟨hEc, hEo⟩ : E.length ≤ c2 ∧ j ≤ E.length := ⟨HE4.out.cap, hj⟩
                      have hRE := HE4.out.reads
                      obtain ⟨Ap, hAp⟩ : ∃ Ap, Ap = (if c2 = 0 then A2 else A2.map (·.add 0)) := ⟨_, rfl⟩
                      obtain ⟨As, hAs⟩ : ∃ As, As = (if c2 = j then A2 else A2.map (·.add (j * 2))) := ⟨_, rfl⟩
                      have hRP : Hid (Reads w4 w4.heap.size 2 Ap j ((E.take j).flatMap cellE)) := Lib.hid (by rw [hAp]; exact reads_pre hRE hj hEc)
                      have hRS : Hid (Reads w4 w4.heap.size 2 As (E.length - j) ((E.drop j).flatMap cellE)) := Lib.hid (by rw [hAs]; exact reads_suf hRE hj hEc)
                      have hst : ∀ wx, (Instr.slice 41 (.slice A2 E.length c2) none (some (.int .i64 (j : Int))) none).run Try.prog wx = .ok (.slice Ap j c2) wx := fun wx => by
                        have := run_slice_to (P := Try.prog) Try.underlying41 hi0 A2 E.length c2 j (by omega) wx
                        rw [hAp]; exact this
                      have hsf : ∀ wx, (Instr.slice 41 (.slice A2 E.length c2) (some (.int .i64 (j : Int))) none none).run Try.prog wx = .ok (.slice As (E.length - j) (c2 - j)) wx := fun wx => by
                        have := run_slice_from (P := Try.prog) Try.underlying41 hi0 A2 E.length c2 j hj wx
                        rw [hz1] at this
                        rw [hAs]; exact this
                      have HB0 := Lib.hid (Below.refl w4.heap.size w4)
                      clear hAp hAs hRE hEo HJ HIN
                      refine wp_region_till (S := fun _ => True) 14 (by kernel_rfl) trivial (fun hHeld => ?_)
                      refine Till.take (i := 1) (v := ?vt1) rfl (by kernel_rfl) (by kernel_rfl) (by kernel_rfl) (by kernel_rfl) (fun _ _ _ h => h) (Or.inl ⟨by rfl, ?ht1⟩) trivial ?restt1
                      case ht1 => (intro w hSw; (try dsimp only at hSw); go_simp; try with_reducible rfl)
                      (try simp only [Act.put, List.setIfInBounds_toArray, List.set_cons_zero, List.set_cons_succ])
                      refine Till.take (i := 2) (v := ?vt2) rfl (by kernel_rfl) (by kernel_rfl) (by kernel_rfl) (by kernel_rfl) (fun _ _ _ h => h) (Or.inl ⟨by rfl, ?ht2⟩) trivial ?restt2
                      case ht2 => (intro w hSw; (try dsimp only at hSw); go_simp; try with_reducible rfl)
                      (try simp only [Act.put, List.setIfInBounds_toArray, List.set_cons_zero, List.set_cons_succ])
                      refine Till.take (i := 3) (v := ?vt3) rfl (by kernel_rfl) (by kernel_rfl) (by kernel_rfl) (by kernel_rfl) (fun _ _ _ h => h) (Or.inl ⟨by rfl, ?ht3⟩) trivial ?restt3
                      case ht3 => (intro w hSw; (try dsimp only at hSw); go_simp; try with_reducible rfl)
                      (try simp only [Act.put, List.setIfInBounds_toArray, List.set_cons_zero, List.set_cons_succ])
                      refine Till.take (i := 5) (v := ?vt4) rfl (by kernel_rfl) (by kernel_rfl) (by kernel_rfl) (by kernel_rfl) (fun _ _ _ h => h) (Or.inl ⟨by rfl, ?ht4⟩) trivial ?restt4
                      case ht4 => (intro w hSw; (try dsimp only at hSw); go_simp; try with_reducible rfl)
                      (try simp only [Act.put, List.setIfInBounds_toArray, List.set_cons_zero, List.set_cons_succ])
                      refine Till.take (i := 6) (v := ?vt5) rfl (by kernel_rfl) (by kernel_rfl) (by kernel_rfl) (by kernel_rfl) (fun _ _ _ h => h) (Or.inl ⟨by rfl, ?ht5⟩) trivial ?restt5
                      case ht5 => (intro w hSw; (try dsimp only at hSw); go_simp; try with_reducible rfl)
                      (try simp only [Act.put, List.setIfInBounds_toArray, List.set_cons_zero, List.set_cons_succ])
                      refine Till.take (i := 7) (v := ?vt6) rfl (by kernel_rfl) (by kernel_rfl) (by kernel_rfl) (by kernel_rfl) (fun _ _ _ h => h) (Or.inl ⟨by rfl, ?ht6⟩) trivial ?restt6
                      case ht6 => (intro w hSw; (try dsimp only at hSw); go_simp; try with_reducible rfl)
                      (try simp only [Act.put, List.setIfInBounds_toArray, List.set_cons_zero, List.set_cons_succ])
                      refine Till.take (i := 10) (v := ?vt7) rfl (by kernel_rfl) (by kernel_rfl) (by kernel_rfl) (by kernel_rfl) (fun _ _ _ h => h) (Or.inl ⟨by rfl, ?ht7⟩) trivial ?restt7
                      case ht7 => (intro w hSw; (try dsimp only at hSw); go_simp; try with_reducible rfl)
                      (try simp only [Act.put, List.setIfInBounds_toArray, List.set_cons_zero, List.set_cons_succ])
                      refine Till.take (i := 11) (v := ?vt8) rfl (by kernel_rfl) (by kernel_rfl) (by kernel_rfl) (by kernel_rfl) (fun _ _ _ h => h) (Or.inl ⟨by rfl, ?ht8⟩) trivial ?restt8
                      case ht8 => (intro w hSw; (try dsimp only at hSw); go_simp; try with_reducible rfl)
                      (try simp only [Act.put, List.setIfInBounds_toArray, List.set_cons_zero, List.set_cons_succ])
                      refine Till.take (i := 12) (v := ?vt9) rfl (by kernel_rfl) (by kernel_rfl) (by kernel_rfl) (by kernel_rfl) (fun _ _ _ h => h) (Or.inl ⟨by rfl, ?ht9⟩) trivial ?restt9
                      case ht9 => (intro w hSw; (try dsimp only at hSw); go_simp; try with_reducible rfl)
                      (try simp only [Act.put, List.setIfInBounds_toArray, List.set_cons_zero, List.set_cons_succ])
                      refine Till.ready (rs := [0, 8]) (by kernel_rfl) (by simp) ?_
                      refine TillEach.cons rfl (fun K hK => ?_) ?_
                      · go_simp
                        refine hK.out _ _ trivial (fun hHeld => ?_)
                        clear hK K
                        (try simp only [Act.put, List.setIfInBounds_toArray, List.set_cons_zero, List.set_cons_succ])
                        refine Till.ready (rs := [4, 8]) (by kernel_rfl) (by simp) ?_
                        refine TillEach.cons rfl (fun K hK => ?_) ?_
                        · refine step_append_sl _ (by rfl) (.tmp 91) (.tmp 94) _ (by rfl) w4.heap.size 54 i0 _ 2 16 Try.underlying41 hi0 hz0 hz1 hz2 rfl (by omega) ((.slice (some ⟨w4.heap.size, 0, none⟩) 0 0)) (0) ([]) (by rfl) (own_at (size := 2) ((Blk.new w4 54 #[]).drew) (Nat.le_refl _)) w4.heap.size Ap j _ ((E.take j).flatMap cellE) (by rfl) (hRP.out.below (bw_drew (bw_alloc HB0.out _))) (by first | exact cellE_one _ | simp [Value.oneCell']) (by simp only [maxLen]; omega) (by omega) (bw_size (bw_drew (bw_alloc HB0.out _))) ?_
                          intro A5 c5 w5 hown5 hg5 hat5
                          simp only [Nat.zero_add, List.nil_append] at hown5 ⊢
                          have hB5 : Below w4.heap.size w4 w5 := bw_grow (bw_drew (bw_alloc HB0.out _)) hg5 (fun x hx => ((own_at (size := 2) ((Blk.new w4 54 #[]).drew) (Nat.le_refl _)).lt x hx).1)
                          refine hK.out _ _ trivial (fun hHeld => ?_)
                          clear hK K
                          (try simp only [Act.put, List.setIfInBounds_toArray, List.set_cons_zero, List.set_cons_succ])
                          refine Till.ready (rs := [8]) (by kernel_rfl) (by simp) ?_
                          refine TillEach.cons rfl (fun K hK => ?_) ?_
                          · go_simp
                            refine hK.out _ _ trivial (fun hHeld => ?_)
                            clear hK K
                            (try simp only [Act.put, List.setIfInBounds_toArray, List.set_cons_zero, List.set_cons_succ])
                            refine Till.ready (rs := [9]) (by kernel_rfl) (by simp) ?_
                            refine TillEach.cons rfl (fun K hK => ?_) ?_
                            · refine step_append_sl _ (by rfl) (.tmp 95) (.tmp 99) _ (by rfl) w4.heap.size 54 i0 _ 2 16 Try.underlying41 hi0 hz0 hz1 hz2 rfl (by omega) (.slice A5 j c5) (j) (((E.take j).flatMap cellE)) (by rfl) (ow_alloc hown5 _) (w5.heap.size + 1) (some ⟨w5.heap.size, 0, none⟩) 1 _ ([.int .i64 lo, .int .i64 hi]) (by rfl) (reads_newN _ _ _ 1 2 rfl rfl) (by first | exact cellE_one _ | simp [Value.oneCell']) (by simp only [maxLen]; omega) (by omega) (bw_size (bw_alloc hB5 _)) ?_
                              intro A6 c6 w6 hown6 hg6 hat6
                              have hB6 : Below w4.heap.size w4 w6 := bw_grow (bw_alloc hB5 _) hg6 (fun x hx => (hown5.lt x hx).1)
                              refine hK.out _ _ trivial (fun hHeld => ?_)
                              clear hK K
                              (try simp only [Act.put, List.setIfInBounds_toArray, List.set_cons_zero, List.set_cons_succ])
                              refine Till.ready (rs := [13]) (by kernel_rfl) (by simp) ?_
                              refine TillEach.cons rfl (fun K hK => ?_) ?_
                              · refine step_append_sl _ (by rfl) (.tmp 100) (.tmp 103) _ (by rfl) w4.heap.size 54 i0 _ 2 16 Try.underlying41 hi0 hz0 hz1 hz2 rfl (by omega) (.slice A6 (j + 1) c6) (j + 1) (((E.take j).flatMap cellE) ++ [.int .i64 lo, .int .i64 hi]) (by rfl) hown6 w4.heap.size As (E.length - j) _ ((E.drop j).flatMap cellE) (by rfl) (hRS.out.below hB6) (by first | exact cellE_one _ | simp [Value.oneCell']) (by simp only [maxLen]; omega) (by omega) (bw_size hB6) ?_
                                intro A7 c7 w7 hown7 hg7 hat7
                                have hB7 : Below w4.heap.size w4 w7 := bw_grow hB6 hg7 (fun x hx => (hown6.lt x hx).1)
                                refine hK.out _ _ trivial (fun hHeld => ?_)
                                clear hK K
                                (try simp only [Act.put, List.setIfInBounds_toArray, List.set_cons_zero, List.set_cons_succ])
                                refine Till.ready (rs := [14]) (by kernel_rfl) (by simp) ?_
                                refine TillEach.last rfl (fun K hK => ?_)
                                · go_simp
                                  refine hK.out _ _ ?_
                                  clear hK K
                                  (try simp only [Act.put, List.setIfInBounds_toArray, List.set_cons_zero, List.set_cons_succ])
                                  refine Till.done (by kernel_rfl) ?_ _
                                  go_wp2_with fail
                                  exact ⟨⟨q + 1, A7, c7, by omega, by go_num, by rw [HTE.out, ins_len_eq HIN2.out hj], Lib.hid (by rw [HTE.out]; exact erow_ins HIN2.out hj hown7 (bw_size HB4.out)), Lib.hid (HX4.out.below hB7 HX4.out.lt), Lib.hid (bw_call HB4.out hB7)⟩, by simp [intOf]; omega⟩
                              exact TillEach.nil
                            exact TillEach.nil
                          exact TillEach.nil
                        refine TillEach.cons rfl (fun K hK => ?_) ?_
                        · go_simp
                          refine hK.out _ _ trivial (fun hHeld => ?_)
                          clear hK K
                          (try simp only [Act.put, List.setIfInBounds_toArray, List.set_cons_zero, List.set_cons_succ])
                          refine Till.ready (rs := [4]) (by kernel_rfl) (by simp) ?_
                          refine TillEach.cons rfl (fun K hK => ?_) ?_
                          · refine step_append_sl _ (by rfl) (.tmp 91) (.tmp 94) _ (by rfl) w4.heap.size 54 i0 _ 2 16 Try.underlying41 hi0 hz0 hz1 hz2 rfl (by omega) ((.slice (some ⟨w4.heap.size, 0, none⟩) 0 0)) (0) ([]) (by rfl) (own_at (size := 2) (((Blk.new w4 54 #[]).alloc (.cells #[.int .i64 lo, .int .i64 hi] 54)).drew) (Nat.le_refl _)) w4.heap.size Ap j _ ((E.take j).flatMap cellE) (by rfl) (hRP.out.below (bw_drew (bw_alloc (bw_alloc HB0.out _) _))) (by first | exact cellE_one _ | simp [Value.oneCell']) (by simp only [maxLen]; omega) (by omega) (bw_size (bw_drew (bw_alloc (bw_alloc HB0.out _) _))) ?_
                            intro A5 c5 w5 hown5 hg5 hat5
                            simp only [Nat.zero_add, List.nil_append] at hown5 ⊢
                            have hB5 : Below w4.heap.size w4 w5 := bw_grow (bw_drew (bw_alloc (bw_alloc HB0.out _) _)) hg5 (fun x hx => ((own_at (size := 2) (((Blk.new w4 54 #[]).alloc (.cells #[.int .i64 lo, .int .i64 hi] 54)).drew) (Nat.le_refl _)).lt x hx).1)
                            have hone : Blk w5 (w4.heap.size + 1) 54 #[.int .i64 lo, .int .i64 hi] := ((Blk.new_ (w := w4.alloc (.cells #[] 54)) (g := w4.heap.size + 1) (by simp) 54 #[.int .i64 lo, .int .i64 hi]).drew).grown hg5 (by simp [Value.ownBlock])
                            refine hK.out _ _ trivial (fun hHeld => ?_)
                            clear hK K
                            (try simp only [Act.put, List.setIfInBounds_toArray, List.set_cons_zero, List.set_cons_succ])
                            refine Till.ready (rs := [9]) (by kernel_rfl) (by simp) ?_
                            refine TillEach.cons rfl (fun K hK => ?_) ?_
                            · refine step_append_sl _ (by rfl) (.tmp 95) (.tmp 99) _ (by rfl) w4.heap.size 54 i0 _ 2 16 Try.underlying41 hi0 hz0 hz1 hz2 rfl (by omega) (.slice A5 j c5) (j) (((E.take j).flatMap cellE)) (by rfl) hown5 (w4.heap.size + 1 + 1) (some ⟨w4.heap.size + 1, 0, none⟩) 1 _ ([.int .i64 lo, .int .i64 hi]) (by rfl) (reads_blk (size := 2) (n := 1) hone rfl) (by first | exact cellE_one _ | simp [Value.oneCell']) (by simp only [maxLen]; omega) (by omega) (bw_size hB5) ?_
                              intro A6 c6 w6 hown6 hg6 hat6
                              have hB6 : Below w4.heap.size w4 w6 := bw_grow hB5 hg6 (fun x hx => (hown5.lt x hx).1)
                              refine hK.out _ _ trivial (fun hHeld => ?_)
                              clear hK K
                              (try simp only [Act.put, List.setIfInBounds_toArray, List.set_cons_zero, List.set_cons_succ])
                              refine Till.ready (rs := [13]) (by kernel_rfl) (by simp) ?_
                              refine TillEach.cons rfl (fun K hK => ?_) ?_
                              · refine step_append_sl _ (by rfl) (.tmp 100) (.tmp 103) _ (by rfl) w4.heap.size 54 i0 _ 2 16 Try.underlying41 hi0 hz0 hz1 hz2 rfl (by omega) (.slice A6 (j + 1) c6) (j + 1) (((E.take j).flatMap cellE) ++ [.int .i64 lo, .int .i64 hi]) (by rfl) hown6 w4.heap.size As (E.length - j) _ ((E.drop j).flatMap cellE) (by rfl) (hRS.out.below hB6) (by first | exact cellE_one _ | simp [Value.oneCell']) (by simp only [maxLen]; omega) (by omega) (bw_size hB6) ?_
                                intro A7 c7 w7 hown7 hg7 hat7
                                have hB7 : Below w4.heap.size w4 w7 := bw_grow hB6 hg7 (fun x hx => (hown6.lt x hx).1)
                                refine hK.out _ _ trivial (fun hHeld => ?_)
                                clear hK K
                                (try simp only [Act.put, List.setIfInBounds_toArray, List.set_cons_zero, List.set_cons_succ])
                                refine Till.ready (rs := [14]) (by kernel_rfl) (by simp) ?_
                                refine TillEach.last rfl (fun K hK => ?_)
                                · go_simp
                                  refine hK.out _ _ ?_
                                  clear hK K
                                  (try simp only [Act.put, List.setIfInBounds_toArray, List.set_cons_zero, List.set_cons_succ])
                                  refine Till.done (by kernel_rfl) ?_ _
                                  go_wp2_with fail
                                  exact ⟨⟨q + 1, A7, c7, by omega, by go_num, by rw [HTE.out, ins_len_eq HIN2.out hj], Lib.hid (by rw [HTE.out]; exact erow_ins HIN2.out hj hown7 (bw_size HB4.out)), Lib.hid (HX4.out.below hB7 HX4.out.lt), Lib.hid (bw_call HB4.out hB7)⟩, by simp [intOf]; omega⟩
                              exact TillEach.nil
                            exact TillEach.nil
                          exact TillEach.nil
                        exact TillEach.nil
                      refine TillEach.cons rfl (fun K hK => ?_) ?_
                      · go_simp
                        refine hK.out _ _ trivial (fun hHeld => ?_)
                        clear hK K
                        (try simp only [Act.put, List.setIfInBounds_toArray, List.set_cons_zero, List.set_cons_succ])
                        refine Till.ready (rs := [0]) (by kernel_rfl) (by simp) ?_
                        refine TillEach.cons rfl (fun K hK => ?_) ?_
                        · go_simp
                          refine hK.out _ _ trivial (fun hHeld => ?_)
                          clear hK K
                          (try simp only [Act.put, List.setIfInBounds_toArray, List.set_cons_zero, List.set_cons_succ])
                          refine Till.ready (rs := [4]) (by kernel_rfl) (by simp) ?_
                          refine TillEach.cons rfl (fun K hK => ?_) ?_
                          · refine step_append_sl _ (by rfl) (.tmp 91) (.tmp 94) _ (by rfl) w4.heap.size 54 i0 _ 2 16 Try.underlying41 hi0 hz0 hz1 hz2 rfl (by omega) ((.slice (some ⟨w4.heap.size + 1, 0, none⟩) 0 0)) (0) ([]) (by rfl) (own_at (size := 2) ((Blk.new_ (w := w4.alloc (.cells #[.int .i64 lo, .int .i64 hi] 54)) (g := w4.heap.size + 1) (by simp) 54 #[]).drew) (Nat.le_succ _)) w4.heap.size Ap j _ ((E.take j).flatMap cellE) (by rfl) (hRP.out.below (bw_drew (bw_alloc (bw_alloc HB0.out _) _))) (by first | exact cellE_one _ | simp [Value.oneCell']) (by simp only [maxLen]; omega) (by omega) (bw_size (bw_drew (bw_alloc (bw_alloc HB0.out _) _))) ?_
                            intro A5 c5 w5 hown5 hg5 hat5
                            simp only [Nat.zero_add, List.nil_append] at hown5 ⊢
                            have hB5 : Below w4.heap.size w4 w5 := bw_grow (bw_drew (bw_alloc (bw_alloc HB0.out _) _)) hg5 (fun x hx => ((own_at (size := 2) ((Blk.new_ (w := w4.alloc (.cells #[.int .i64 lo, .int .i64 hi] 54)) (g := w4.heap.size + 1) (by simp) 54 #[]).drew) (Nat.le_succ _)).lt x hx).1)
                            have hone : Blk w5 w4.heap.size 54 #[.int .i64 lo, .int .i64 hi] := (((Blk.new w4 54 #[.int .i64 lo, .int .i64 hi]).alloc _).drew).grown hg5 (by simp [Value.ownBlock])
                            refine hK.out _ _ trivial (fun hHeld => ?_)
                            clear hK K
                            (try simp only [Act.put, List.setIfInBounds_toArray, List.set_cons_zero, List.set_cons_succ])
                            refine Till.ready (rs := [9]) (by kernel_rfl) (by simp) ?_
                            refine TillEach.cons rfl (fun K hK => ?_) ?_
                            · refine step_append_sl _ (by rfl) (.tmp 95) (.tmp 99) _ (by rfl) w4.heap.size 54 i0 _ 2 16 Try.underlying41 hi0 hz0 hz1 hz2 rfl (by omega) (.slice A5 j c5) (j) (((E.take j).flatMap cellE)) (by rfl) hown5 (w4.heap.size + 1) (some ⟨w4.heap.size, 0, none⟩) 1 _ ([.int .i64 lo, .int .i64 hi]) (by rfl) (reads_blk (size := 2) (n := 1) hone rfl) (by first | exact cellE_one _ | simp [Value.oneCell']) (by simp only [maxLen]; omega) (by omega) (bw_size hB5) ?_
                              intro A6 c6 w6 hown6 hg6 hat6
                              have hB6 : Below w4.heap.size w4 w6 := bw_grow hB5 hg6 (fun x hx => (hown5.lt x hx).1)
                              refine hK.out _ _ trivial (fun hHeld => ?_)
                              clear hK K
                              (try simp only [Act.put, List.setIfInBounds_toArray, List.set_cons_zero, List.set_cons_succ])
                              refine Till.ready (rs := [13]) (by kernel_rfl) (by simp) ?_
                              refine TillEach.cons rfl (fun K hK => ?_) ?_
                              · refine step_append_sl _ (by rfl) (.tmp 100) (.tmp 103) _ (by rfl) w4.heap.size 54 i0 _ 2 16 Try.underlying41 hi0 hz0 hz1 hz2 rfl (by omega) (.slice A6 (j + 1) c6) (j + 1) (((E.take j).flatMap cellE) ++ [.int .i64 lo, .int .i64 hi]) (by rfl) hown6 w4.heap.size As (E.length - j) _ ((E.drop j).flatMap cellE) (by rfl) (hRS.out.below hB6) (by first | exact cellE_one _ | simp [Value.oneCell']) (by simp only [maxLen]; omega) (by omega) (bw_size hB6) ?_
                                intro A7 c7 w7 hown7 hg7 hat7
                                have hB7 : Below w4.heap.size w4 w7 := bw_grow hB6 hg7 (fun x hx => (hown6.lt x hx).1)
                                refine hK.out _ _ trivial (fun hHeld => ?_)
                                clear hK K
                                (try simp only [Act.put, List.setIfInBounds_toArray, List.set_cons_zero, List.set_cons_succ])
                                refine Till.ready (rs := [14]) (by kernel_rfl) (by simp) ?_
                                refine TillEach.last rfl (fun K hK => ?_)
                                · go_simp
                                  refine hK.out _ _ ?_
                                  clear hK K
                                  (try simp only [Act.put, List.setIfInBounds_toArray, List.set_cons_zero, List.set_cons_succ])
                                  refine Till.done (by kernel_rfl) ?_ _
                                  go_wp2_with fail
                                  exact ⟨⟨q + 1, A7, c7, by omega, by go_num, by rw [HTE.out, ins_len_eq HIN2.out hj], Lib.hid (by rw [HTE.out]; exact erow_ins HIN2.out hj hown7 (bw_size HB4.out)), Lib.hid (HX4.out.below hB7 HX4.out.lt), Lib.hid (bw_call HB4.out hB7)⟩, by simp [intOf]; omega⟩
                              exact TillEach.nil
                            exact TillEach.nil
                          exact TillEach.nil
                        exact TillEach.nil
                      exact TillEach.nil
          · obtain rfl : q = 3 := by omega
            have hqv' : _ = Value.int .i64 3 := hqv
            subst hqv'
            clear hqv
            go_wp2_with fail
            exact ⟨⟨k + 1, A2, c2, by omega, by go_num, by rw [HTS.out]; rfl, by rw [HTS.out]; exact HEM, HXM, HBM⟩, by simp [intOf]; omega⟩
      · obtain rfl : k = T.length := by omega
        rw [List.take_length] at HEK ⊢
        rw [← HQ.out] at HEK ⊢
        go_wp2_with fail
        go_ret
        exact ⟨A1, c1, rfl, HEK.out, HBK.out⟩
end Go.Proofs.Ytmmjonpkpeanpaa
