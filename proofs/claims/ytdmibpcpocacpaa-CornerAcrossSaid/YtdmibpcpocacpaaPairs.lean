/- certify.pairs, walked, whatever tells the keys. No condition. -/
import Derived.Test.YtdmibpcpocacpaaPairs2
namespace Go.Proofs.Ytdmibpcpocacpaa
open Go.RowKit

theorem int_info : (Try.prog.info? 3).map (fun i => (i.zero, i.size, i.bytes)) = some (some (.int .i64 0), 1, 8) := by kernel_rfl

def PairsRel (w0 wr : World) (kind : Int) (bh bs m : Nat) (s : PS) (v : Value) : Prop := ∃ A c, v = .slice A s.out.length c ∧ Hid (PairsAt w0 wr kind bh bs m A c s.had s.out s.out)

set_option maxRecDepth 100000 in
set_option maxHeartbeats 8000000 in
theorem pairs_any (kind : Int) (kf : Nat) (eg : ∀ args w, (callFunc kf args).run Try.prog w = .ok (.enter kf args) w) (keys : Tri → List K3) (hkl : ∀ t, (keys t).length ≤ 3)
    (N : Int) (A : Option Addr) (n c : Nat) (T : List Tri) (w : World) (hn : n ≤ 1000) (ht : TrisAt w w.heap.size A n T)
    (hkey : ∀ t ∈ T, ∀ w, Calls Try.prog kf #[.agg #[.int .i64 t.a, .int .i64 t.b, .int .i64 t.c]] w (KeysPost w (keys t)))
    (hwf : ∀ t ∈ T, ∀ k ∈ keys t, (Lit.int .i64 k.1).wf = true ∧ (Lit.int .i64 k.2.1).wf = true ∧ (Lit.int .i64 k.2.2).wf = true) :
    Calls Try.prog 59 #[.agg #[.int .i64 N, .slice A n c], .int .i64 kind, .func (.func kf) #[] #[]] w (WitPost w (outW kind (PS.to keys T n).out)) := by
  obtain ⟨i0, hi0, hz0, hz1, hz2⟩ := info_parts wit_info
  obtain ⟨i1, hi1, hy0, hy1, hy2⟩ := info_parts int_info
  have HT := Lib.hid ht
  have HK := Lib.hid hkey
  have HWF := Lib.hid hwf
  have HKL := Lib.hid hkl
  have HEG := Lib.hid eg
  clear ht hkey hwf hkl
  have hmm := @run_makeMap Try.prog
  go_enter Try.func59, Try.ntmps59
  go_wp2_with fail
  obtain ⟨W, hW⟩ : ∃ W, W = ((w.alloc (.cells #[.int .i64 N, .slice A n c] 24)).alloc (.map #[] 0)).alloc (.map #[] 0) := ⟨_, rfl⟩
  have HP0 : Hid (PairsAt w W kind (w.heap.size + 1) (w.heap.size + 1 + 1) 0 none 0 (fun _ => []) [] []) := by
    subst hW
    have m1 := ((MapV.made_ Try.prog 49 (w := w.alloc (.cells #[.int .i64 N, .slice A n c] 24)) (b := w.heap.size + 1) (by simp)).alloc (.map #[] 0))
    have m2 := MapV.made_ Try.prog 30 (w := (w.alloc (.cells #[.int .i64 N, .slice A n c] 24)).alloc (.map #[] 0)) (b := w.heap.size + 1 + 1) (by simp)
    exact Lib.hid ⟨by omega, by omega, by omega, World.ownsRow_nil _ _ _ _, ⟨_, 0, Nat.le_refl _, m1, HadAt.start _ _ _⟩, ⟨_, m2, fun p => ⟨(fun h => by cases h), fun _ => rfl⟩⟩, (((Below.refl _ _).alloc (Nat.le_refl _) _).alloc (by simp) _).alloc (by simp; omega) _⟩
  clear hmm
  rw [← hW]
  clear hW
  obtain ⟨bh, hbh⟩ : ∃ b, b = w.heap.size + 1 := ⟨_, rfl⟩
  obtain ⟨bs, hbs⟩ : ∃ b, b = w.heap.size + 1 + 1 := ⟨_, rfl⟩
  rw [← hbs, ← hbh] at HP0 ⊢
  have hw1 : w.heap.size < bh := by omega
  have hw2 : w.heap.size < bs := by omega
  clear hbh hbs
  go_loopw [7, 22] (fun lv iv wr => ∃ k : Nat, k ≤ n ∧ iv = .int .i64 k ∧ PairsRel w wr kind bh bs (3 * k) (PS.to keys T k) lv) (fun _ iv _ => n - (intOf iv).toNat)
  case atStart => exact ⟨0, by omega, rfl, none, 0, rfl, HP0⟩
  case round =>
    obtain ⟨k, hk, rfl, A', c', rfl, HPA⟩ := hrel
    clear HP0
    by_cases hlt : k < n
    · obtain ⟨ad, t, rfl, htk, htm, hadb, hc3⟩ := (HT.out.below HPA.out.below).at_ hlt
      obtain ⟨d0, d1, d2, d3, d4, d5⟩ := hc3
      have HTO := Lib.hid (to_succ keys htk)
      have HOK := Lib.hid (to_ok keys HKL.out T (n := n) k hk)
      have HKT := Lib.hid (HK.out t htm)
      have HWT := Lib.hid (HWF.out t htm)
      have hkl3 := HKL.out t
      generalize keys t = ks at *
      have hsz := HPA.out.below.size
      obtain ⟨ta, tb, tc⟩ := t
      clear htk htm
      go_wp2_with fail
      have hpa1 := HPA.out.keep ((Below.refl _ wr).alloc (Nat.le_refl _) (.cells #[.int .i64 ta, .int .i64 tb, .int .i64 tc] 50))
      refine (HKT.out _).mono ?_
      rintro e w1 ⟨g, rfl, hgl, hgb, hbe⟩
      have hpa2 := hpa1.keep hbe
      have HP1 := Lib.hid hpa2
      have HG1 := Lib.hid hgb
      generalize hS : PS.to keys T k = S at *
      have HSO := Lib.hid HOK.out
      clear hS hpa1 hpa2 hgl hgb hbe HPA HKT HOK d0 d1 d2 d3 d4 d5
      go_wp2_with fail
      obtain ⟨wB, rfl⟩ : ∃ wB : World, wB = wr := ⟨_, rfl⟩
      go_loopw [7, 31] (fun lv jv wq => ∃ j : Nat, j ≤ ks.length ∧ jv = .int .i64 j ∧ PairsRel w wq kind bh bs (3 * k + j) ((ks.take j).foldl (PS.key k) S) lv ∧ Hid (Blk wq g 49 (ks.flatMap w3).toArray)) (fun _ jv _ => ks.length - (intOf jv).toNat)
      case atStart => exact ⟨0, by omega, rfl, ⟨A', c', rfl, HP1⟩, HG1⟩
      case round =>
        obtain ⟨j, hj, rfl, ⟨A2, c2, rfl, HPB⟩, HGB⟩ := hrel
        clear HP1 HG1
        have HSJ : Hid (((ks.take j).foldl (PS.key k) S).Ok n (3 * k + j)) := by
          have h1 := keys_ok hlt (ks.take j) S (3 * k) HSO.out
          rw [List.length_take, Nat.min_eq_left hj] at h1
          exact Lib.hid h1
        by_cases hjt : j < ks.length
        · obtain ⟨x, hx⟩ : ∃ x, ks[j]? = some x := ⟨_, List.getElem?_eq_getElem hjt⟩
          have HSS : Hid ((ks.take (j + 1)).foldl (PS.key k) S = PS.key k ((ks.take j).foldl (PS.key k) S) x) := Lib.hid (foldl_snoc_take _ _ _ _ hx)
          obtain ⟨wf1, wf2, wf3⟩ := HWT.out x (List.mem_of_getElem? hx)
          generalize (ks.take j).foldl (PS.key k) S = Sj at *
          have x0 := (HGB.out.cell (j * 3)).trans ((Array.getElem?_toList ..).symm.trans (flatMap_at 3 w3 (fun _ => rfl) ks j 0 x hx (by omega)))
          have x1 := (HGB.out.cell (j * 3 + 1)).trans ((Array.getElem?_toList ..).symm.trans (flatMap_at 3 w3 (fun _ => rfl) ks j 1 x hx (by omega)))
          have x2 := (HGB.out.cell (j * 3 + 2)).trans ((Array.getElem?_toList ..).symm.trans (flatMap_at 3 w3 (fun _ => rfl) ks j 2 x hx (by omega)))
          obtain ⟨xa, xb, xc⟩ := x
          simp [w3] at x0 x1 x2 wf1 wf2 wf3
          have hpb := HPB.out.keep ((Below.refl _ wr).alloc (Nat.le_refl _) (.cells #[.int .i64 xa, .int .i64 xb, .int .i64 xc] 49))
          obtain ⟨Ak, ck, hlk, hrow⟩ := hpb.rowQ (xa, xb, xc) wf1 wf2 wf3
          have HROW := Lib.hid hrow
          have HPC := Lib.hid hpb
          have HWX := Lib.hid (And.intro wf1 (And.intro wf2 wf3))
          have hlen := HSJ.out.len (xa, xb, xc)
          have hgb := HGB.out.lt
          clear hx hrow hpb wf1 wf2 wf3
          simp only at hlk
          go_wp2_with fail
          obtain ⟨V, hV⟩ : ∃ V, V = wr.alloc (.cells #[.int .i64 xa, .int .i64 xb, .int .i64 xc] 49) := ⟨_, rfl⟩
          obtain ⟨gk, hgk⟩ : ∃ gk, gk = wr.heap.size := ⟨_, rfl⟩
          have HKB : Hid (Blk V gk 49 #[.int .i64 xa, .int .i64 xb, .int .i64 xc]) := by subst hV hgk; exact Lib.hid (Blk.new _ _ _)
          have HGV : Hid (Blk V g 49 (ks.flatMap w3).toArray) := by subst hV; exact Lib.hid (HGB.out.alloc _)
          rw [← hV] at HPC HROW ⊢
          rw [← hgk]
          clear hV hgk HGB HPB hlk x0 x1 x2 hgb
          generalize hH : Sj.had (xa, xb, xc) = Hx at *
          go_loopw [7, 39] (fun lv av wz => ∃ a : Nat, a ≤ Hx.length ∧ av = .int .i64 a ∧ ∃ A c, lv = .slice A ((Hx.take a).foldl (addP k) Sj.out).length c ∧ Hid (PairsAt w wz kind bh bs (3 * k + j) A c Sj.had ((Hx.take a).foldl (addP k) Sj.out) ((Hx.take a).foldl (addP k) Sj.out)) ∧ Hid (NatRow wz w.heap.size Ak ck Hx) ∧ Hid (Blk wz gk 49 #[.int .i64 xa, .int .i64 xb, .int .i64 xc]) ∧ Hid (Blk wz g 49 (ks.flatMap w3).toArray)) (fun _ av _ => Hx.length - (intOf av).toNat)
          case atStart => exact ⟨0, by omega, rfl, A2, c2, rfl, HPC, HROW, HKB, HGV⟩
          case round =>
            obtain ⟨a, ha, rfl, A3, c3, rfl, HPD, HRD, HKD, HGD⟩ := hrel
            clear HPC HROW HKB HGV
            have hHl : ∀ b ∈ Hx, b < n := by rw [← hH]; exact HSJ.out.lt _
            have HOK2 : Hid (OutOk ((Hx.take a).foldl (addP k) Sj.out) n) := Lib.hid (foldP_ok hlt _ _ HSJ.out.out fun b hb => hHl b (List.mem_of_mem_take hb))
            have hll := outOk_len HOK2.out
            have hnn : n * n ≤ 1000 * 1000 := Nat.mul_le_mul hn hn
            have hsz2 := HPD.out.below.size
            by_cases hat : a < Hx.length
            · obtain ⟨b, hb⟩ : ∃ b, Hx[a]? = some b := ⟨_, List.getElem?_eq_getElem hat⟩
              have HLL : Hid ((Hx.take (a + 1)).foldl (addP k) Sj.out = addP k ((Hx.take a).foldl (addP k) Sj.out) b) := Lib.hid (foldl_snoc_take _ _ _ _ hb)
              have hbn := hHl b (List.mem_of_getElem? hb)
              obtain ⟨adr, ur, er, hadr, hur, hcr⟩ := (Reads.of_own HRD.out).at_ hat
              obtain rfl : ur = .int .i64 (b : Int) := by
                unfold nats at hur
                rw [List.getElem?_map, hb] at hur
                exact (Option.some.inj hur).symm
              generalize (Hx.take a).foldl (addP k) Sj.out = La at *
              clear hHl hur hb
              subst er
              have hp1 := HPD.out.keep ((Below.refl _ wr).alloc (Nat.le_refl _) (.cells #[.int .i64 b, .int .i64 k] 30))
              have hsq := hp1.seenQ (b, k) (by simp only; omega) (by simp only; omega)
              simp only at hsq
              have HP2 := Lib.hid hp1
              have HR2 := Lib.hid (own_same (w' := wr.alloc (.cells #[.int .i64 b, .int .i64 k] 30)) HRD.out fun i hi => Below.heap_alloc _ _ _ (HRD.out.lt i hi).2)
              have HK2 := Lib.hid (HKD.out.alloc (.cells #[.int .i64 b, .int .i64 k] 30))
              have HG2 := Lib.hid (HGD.out.alloc (.cells #[.int .i64 b, .int .i64 k] 30))
              clear hp1 HPD HRD HKD HGD
              by_cases hin : (b, k) ∈ La
              · have HA : Hid (addP k La b = La) := Lib.hid (by unfold addP; rw [if_pos hin])
                rw [decide_eq_true hin] at hsq
                clear hin
                go_wp2_with fail
                refine ⟨⟨a + 1, by omega, by go_num, A3, c3, ?_, ?_, HR2, HK2, HG2⟩, by simp [intOf]; omega⟩
                · rw [HLL.out, HA.out]
                · rw [HLL.out, HA.out]; exact HP2
              · have HA : Hid (addP k La b = La ++ [(b, k)]) := Lib.hid (by unfold addP; rw [if_neg hin])
                have hmx : (maxLen : Nat) = 9223372036854775807 := rfl
                obtain ⟨es, clock, hst, hp3⟩ := HP2.out.see (p := (b, k)) (by simp only; omega) (by simp only; omega) hin (by omega)
                rw [decide_eq_false hin] at hsq
                simp only at hst
                have HW3 : Hid ((ChangeMaps.setBlock (wr.alloc (.cells #[.int .i64 b, .int .i64 k] 30)) bs (.map es clock)).ownsRow w.heap.size 41 3 (.slice A3 La.length c3) La.length ((outW kind La).flatMap w3)) := by
                  have := hp3.row
                  unfold WitRow at this
                  rw [outW_len] at this
                  exact Lib.hid this
                have hszS : (ChangeMaps.setBlock (wr.alloc (.cells #[.int .i64 b, .int .i64 k] 30)) bs (.map es clock)).heap.size = wr.heap.size + 1 := by simp [ChangeMaps.setBlock]
                have HSZ := Lib.hid hszS
                have HP3 := Lib.hid hp3
                have HOS : Hid (Only (fun i => i = bs) (wr.alloc (.cells #[.int .i64 b, .int .i64 k] 30)) (ChangeMaps.setBlock (wr.alloc (.cells #[.int .i64 b, .int .i64 k] 30)) bs (.map es clock))) := Lib.hid ((Only.refl (fun i => i = bs) _).setBlock (.inl rfl) _)
                clear hin hp3 hmx hszS
                go_wp2_with (at_builtin; go_must (refine wpList_append_sl _ rfl (.tmp 52) (.tmp 57) _ rfl w.heap.size 41 i0 _ 3 24 Try.underlying67 hi0 hz0 hz1 hz2 rfl (by omega) (.slice A3 La.length c3) _ _ rfl (HW3.out.alloc _) ((ChangeMaps.setBlock (wr.alloc (.cells #[.int .i64 b, .int .i64 k] 30)) bs (.map es clock)).heap.size + 1) (some ⟨(ChangeMaps.setBlock (wr.alloc (.cells #[.int .i64 b, .int .i64 k] 30)) bs (.map es clock)).heap.size, 0, none⟩) 1 1 (w3 (kind, (b : Int), (k : Int))) rfl (reads_newN _ _ _ 1 3 rfl rfl) (by simp [w3, Value.oneCell']) (by simp only [maxLen]; omega) (by omega) (by simp [ChangeMaps.setBlock]; omega) ?_); intro A1 c1 w1 hown1 hg1 hat1)
                have hp4 := HP3.out.tell (p := (b, k)) ((Below.refl _ _).alloc (Nat.le_refl _) _) hown1 hg1
                have hnb : ∀ {i t cs}, Blk (wr.alloc (.cells #[.int .i64 b, .int .i64 k] 30)) i t cs → t ≠ 41 → w1.heap[i]? = (wr.alloc (.cells #[.int .i64 b, .int .i64 k] 30)).heap[i]? := by
                  intro i t cs hb ht
                  obtain ⟨fs, hs, _⟩ := HP2.out.seen
                  have h1 := HOS.out.block i hb.lt (fun e => hs.ne_blk hb e.symm)
                  have hb2 : Blk (ChangeMaps.setBlock (wr.alloc (.cells #[.int .i64 b, .int .i64 k] 30)) bs (.map es clock)) i t cs := h1.trans hb
                  have hb3 := hb2.alloc (.cells #[.int .i64 kind, .int .i64 b, .int .i64 k] 41)
                  refine ((hg1.block i hb3.lt fun e => ?_).trans hb3).trans hb.symm
                  obtain ⟨cs', hb'⟩ := own_blk (HW3.out.alloc (.cells #[.int .i64 kind, .int .i64 b, .int .i64 k] 41)) e.symm
                  exact hb3.ne_ hb' ht rfl
                refine ⟨⟨a + 1, by omega, by go_num, A1, c1, ?_, ?_, ?_, ?_, ?_⟩, by simp [intOf]; omega⟩
                · rw [HLL.out, HA.out, List.length_append]; rfl
                · rw [HLL.out, HA.out]; exact Lib.hid hp4
                · refine Lib.hid (own_same HR2.out fun i hi => ?_)
                  obtain ⟨cs, hb⟩ := own_blk HR2.out hi
                  exact hnb hb (by decide)
                · exact Lib.hid ((hnb HK2.out (by decide)).trans HK2.out)
                · exact Lib.hid ((hnb HG2.out (by decide)).trans HG2.out)
            · obtain rfl : a = Hx.length := by omega
              rw [List.take_length] at HPD HOK2 hll ⊢
              clear hat hHl ha
              generalize hLa : Hx.foldl (addP k) Sj.out = La at *
              have HLA := Lib.hid hLa
              have HHX := Lib.hid hH
              clear hLa hH
              have x0 := HKD.out.cell 0
              have x1 := HKD.out.cell 1
              have x2 := HKD.out.cell 2
              simp at x0 x1 x2
              have hgkl := HKD.out.lt
              have hp1 := HPD.out.keep ((Below.refl _ wr).alloc (Nat.le_refl _) (.cells #[.int .i64 k] 3))
              have hmx : (maxLen : Nat) = 9223372036854775807 := rfl
              obtain ⟨wf1, wf2, wf3⟩ := HWX.out
              obtain ⟨Am, cm, st, es, clock, hme, hrm, hent⟩ := hp1.have_ (xa, xb, xc) wf1 wf2 wf3 (by omega) k
              rw [HHX.out] at hme hrm hent
              have HRM := Lib.hid hrm
              have HENT := Lib.hid hent
              have HP1 := Lib.hid hp1
              have HG2 := Lib.hid (HGD.out.alloc (.cells #[.int .i64 k] 3))
              simp only at hme
              clear hrm hent hp1 wf1 wf2 wf3 hmx
              have HRB := Lib.hid (reads_blk (((Blk.new wr 3 #[.int .i64 (k : Int)])).setBlock (b := bh) (fun e => by have := HP1.out.hadm; obtain ⟨fh, nh, _, hm, _⟩ := HPD.out.hadm; have := hm.lt; omega) (.map es clock)) (n := 1) (size := 1) rfl)
              go_wp2_with (at_builtin; go_must (refine wpList_append_sl _ rfl (.tmp 62) (.tmp 64) _ rfl w.heap.size 3 i1 _ 1 8 Try.underlying52 hi1 hy0 hy1 hy2 rfl (by omega) (.slice Am Hx.length cm) _ _ rfl HRM.out (wr.heap.size + 1) (some ⟨wr.heap.size, 0, none⟩) 1 1 [.int .i64 (k : Int)] rfl HRB.out (by simp [Value.oneCell']) (by simp only [maxLen]; omega) (by omega) (by simp [ChangeMaps.setBlock]; omega) ?_); intro A1 c1 w1 hown1 hg1 hat1; obtain ⟨es', clock', hst, hp5⟩ := HENT.out w1 _ _ hown1 hg1 hat1; have HP5 := Lib.hid hp5; have HG5 := Lib.hid (And.intro hown1 (And.intro hg1 hat1)); clear hp5 hown1 hg1 hat1)
              obtain ⟨hown1, hg1, hat1⟩ := HG5.out
              refine ⟨⟨j + 1, by omega, by go_num, ⟨A3, c3, ?_, ?_⟩, ?_⟩, by simp [intOf]; omega⟩
              · rw [HSS.out]; show _ = Value.slice A3 ((Sj.had (xa, xb, xc)).foldl (addP k) Sj.out).length c3; rw [HHX.out, HLA.out]
              · rw [HSS.out]
                refine Lib.hid (HP5.out.eqs ?_ ?_ ?_)
                · show (fun x => if x = (xa, xb, xc) then Sj.had (xa, xb, xc) ++ [k] else Sj.had x) = _; rw [HHX.out]
                · show (Sj.had (xa, xb, xc)).foldl (addP k) Sj.out = _; rw [HHX.out, HLA.out]
                · show (Sj.had (xa, xb, xc)).foldl (addP k) Sj.out = _; rw [HHX.out, HLA.out]
              · refine Lib.hid ?_
                have hm := HP1.out.hadm
                obtain ⟨fh, nh, _, hm, _⟩ := hm
                have b1 := HG2.out.setBlock (b := bh) (fun e => hm.ne_blk HG2.out e.symm) (.map es clock)
                have b2 := b1.grown hg1 (fun e => by
                  obtain ⟨cs, hb⟩ := own_blk HRM.out e.symm
                  exact b1.ne_ hb (by decide) rfl)
                exact b2.setBlock (fun e => hm.ne_blk HG2.out e.symm) _
        · obtain rfl : j = ks.length := by omega
          go_wp2_with fail
          go_roundw
          case rel =>
            refine ⟨k + 1, by omega, by go_num, A2, c2, ?_, ?_⟩
            · rw [HTO.out, List.take_length]
            · rw [HTO.out]
              have := HPB.out
              rw [List.take_length] at this
              exact Lib.hid (this.more (by omega))
          case measure => simp [intOf]; omega
    · obtain rfl : k = n := by omega
      go_wp2_with fail
      go_ret
      refine ⟨A', c', ?_, HPA.out.row, HPA.out.below⟩
      rw [outW_len]
      rfl
end Go.Proofs.Ytdmibpcpocacpaa
