/- certify.together, walked: are the triangles of a vertex connected there. No condition. -/
import Derived.Test.YtdmibpcpocacpaaTog2
import Derived.Deep.LoopGhost
namespace Go.Proofs.Ytdmibpcpocacpaa
open Go.RowKit

theorem verts_at (t : Tri) {j : Nat} (hj : j < 3) : ∃ x, (verts t)[j]? = some x ∧ ∀ w, (Instr.index 50 (.agg #[.int .i64 t.a, .int .i64 t.b, .int .i64 t.c]) (.int .i64 (j : Int))).run Try.prog w = .ok (.int .i64 x) w := by
  rcases (by omega : j = 0 ∨ j = 1 ∨ j = 2) with rfl | rfl | rfl
  · exact ⟨t.a, rfl, fun _ => by kernel_rfl⟩
  · exact ⟨t.b, rfl, fun _ => by kernel_rfl⟩
  · exact ⟨t.c, rfl, fun _ => by kernel_rfl⟩
theorem verts_wf {m : Nat} {t : Tri} (h : TriOk m t) (hm : m ≤ 4096) : ∀ x ∈ verts t, (Lit.int .i64 x).wf = true := by
  obtain ⟨w1, w2, w3⟩ := triOk_wf h hm
  intro x hx
  simp [verts] at hx
  rcases hx with rfl | rfl | rfl <;> assumption

set_option maxRecDepth 100000 in
set_option maxHeartbeats 8000000 in
theorem together_any (m : Nat) (v : Int) (A At : Option Addr) (n c ct : Nat) (T : List Tri) (S : List Nat) (w : World) (hm : m ≤ 4096) (hn : n ≤ 1000) (ht : TrisAt w w.heap.size A n T) (hok : ∀ t ∈ T, TriOk m t)
    (hS : Reads w w.heap.size 1 At S.length (nats S)) (hSn : S.Nodup) (hSl : ∀ i ∈ S, i < n) (hS0 : S ≠ []) :
    Calls Try.prog 63 #[.agg #[.int .i64 m, .slice A n c], .int .i64 v, .slice At S.length ct] w fun e w' => e = .returned (.bool (connB T v S)) ∧ Below w.heap.size w w' := by
  obtain ⟨i1, hi1, hy0, hy1, hy2⟩ := info_parts int_info
  have hSlen : S.length ≤ n := by
    have := nodup_le S (List.range n) hSn fun x hx => by simp; exact hSl x hx
    simpa using this
  have hSpos : 0 < S.length := List.length_pos_iff.2 hS0
  have HT := Lib.hid ht
  have HOK := Lib.hid hok
  have HS := Lib.hid hS
  have HSN := Lib.hid hSn
  have HSL := Lib.hid hSl
  have HS0 := Lib.hid hS0
  clear ht hok hS hSn hSl hS0
  have hmm := @run_makeMap Try.prog
  go_enter Try.func63, Try.ntmps63
  go_wp2_with fail
  obtain ⟨W, hW⟩ : ∃ W, W = w.alloc (.cells #[.int .i64 m, .slice A n c] 24) := ⟨_, rfl⟩
  have HX : Hid (Blk W w.heap.size 24 #[.int .i64 m, .slice A n c]) := by subst hW; exact Lib.hid (Blk.new _ _ _)
  have HW : Hid (Below w.heap.size w W) := by subst hW; exact Lib.hid ((Below.refl _ _).alloc (Nat.le_refl _) _)
  have hws : w.heap.size < W.heap.size := HX.out.lt
  have hWs : W.heap.size = w.heap.size + 1 := by subst hW; simp
  rw [← hWs, ← hW]
  clear hW hWs
  have HE0 : Hid (EndsAt (W.alloc (.map #[] 0)) W.heap.size W.heap.size 0 fun _ => []) := Lib.hid ⟨_, 0, Nat.le_refl _, MapV.made _ _ _, HadAt.start _ _ _⟩
  have HB0 : Hid (Below W.heap.size W (W.alloc (.map #[] 0))) := Lib.hid ((Below.refl _ _).alloc (Nat.le_refl _) _)
  have HMM := Lib.hid hmm
  clear hmm
  go_loopw [22] (fun iv wr => ∃ k : Nat, k ≤ S.length ∧ iv = .int .i64 k ∧ Hid (EndsAt wr W.heap.size W.heap.size (3 * k) ((S.take k).foldl (triE T v) fun _ => [])) ∧ Hid (Below W.heap.size W wr)) (fun iv _ => S.length - (intOf iv).toNat)
  case atStart => exact ⟨0, by omega, rfl, HE0, HB0⟩
  case round =>
    obtain ⟨k, hk, rfl, HE, HB⟩ := hrel
    clear HE0 HB0
    have hwz := HB.out.size
    have b1 := (HX.out.below HB.out hws).cell 1
    simp at b1
    by_cases hlt : k < S.length
    · obtain ⟨ads, us, rfl, hads, hus, hcs⟩ := ((HS.out.below HW.out).below (HB.out.mono (Nat.le_of_lt hws))).at_ hlt
      obtain ⟨i, hi⟩ : ∃ i, S[k]? = some i := ⟨_, List.getElem?_eq_getElem hlt⟩
      obtain rfl : us = .int .i64 (i : Int) := by
        unfold nats at hus
        rw [List.getElem?_map, hi] at hus
        exact (Option.some.inj hus).symm
      have hin := HSL.out i (List.mem_of_getElem? hi)
      obtain ⟨ad, t, rfl, htk, htm, hadb, hc3⟩ := ((HT.out.below HW.out).below (HB.out.mono (Nat.le_of_lt hws))).at_ hin
      obtain ⟨d0, d1, d2, d3, d4, d5⟩ := hc3
      have HEK : Hid ((S.take (k + 1)).foldl (triE T v) (fun _ => []) = (verts t).foldl (addE v i) ((S.take k).foldl (triE T v) fun _ => [])) := by
        refine Lib.hid ?_
        rw [foldl_snoc_take _ _ _ _ hi]
        unfold triE
        rw [tri_of htk]
      have HSE : Hid (ShortE ((S.take k).foldl (triE T v) fun _ => []) (3 * k) n) := by
        have h1 := foldT_short T v (n := n) (S.take k) (fun _ => []) 0 (fun i hi => HSL.out i (List.mem_of_mem_take hi)) (fun y => ⟨Nat.le_refl _, fun k hk => by cases hk⟩)
        refine Lib.hid fun y => ⟨Nat.le_trans (h1 y).1 ?_, (h1 y).2⟩
        rw [List.length_take]
        omega
      have HVW := Lib.hid (verts_wf (HOK.out t htm) hm)
      generalize (S.take k).foldl (triE T v) (fun _ => []) = Ek at *
      obtain ⟨ta, tb, tc⟩ := t
      have HVA := Lib.hid (fun j hj => verts_at ⟨ta, tb, tc⟩ (j := j) hj)
      generalize hvs : verts ⟨ta, tb, tc⟩ = vs at *
      have hvl : vs.length = 3 := by rw [← hvs]; rfl
      simp only at d0 d1 d2 d3 d4 d5
      have HVL := Lib.hid hvl
      clear hus hi htk htm hvs hvl
      go_wp2_with fail
      obtain ⟨wB, rfl⟩ : ∃ wB : World, wB = wr := ⟨_, rfl⟩
      go_loopw [31] (fun jv wq => ∃ j : Nat, j ≤ 3 ∧ jv = .int .i64 j ∧ Hid (EndsAt wq W.heap.size W.heap.size (3 * k + j) ((vs.take j).foldl (addE v i) Ek)) ∧ Hid (Below W.heap.size W wq)) (fun jv _ => 3 - (intOf jv).toNat)
      case atStart => exact ⟨0, by omega, rfl, HE, HB⟩
      case round =>
        obtain ⟨j, hj, rfl, HE2, HB2⟩ := hrel
        clear HE HB
        by_cases hjt : j < 3
        · obtain ⟨x, hx, hix⟩ := HVA.out j hjt
          have HES : Hid ((vs.take (j + 1)).foldl (addE v i) Ek = addE v i ((vs.take j).foldl (addE v i) Ek) x) := Lib.hid (foldl_snoc_take _ _ _ _ hx)
          have hxw := HVW.out x (List.mem_of_getElem? hx)
          have HSJ : Hid (ShortE ((vs.take j).foldl (addE v i) Ek) (3 * k + 3) n) := by
            have h1 := foldE_short (v := v) hin (vs.take j) Ek (3 * k) HSE.out
            refine Lib.hid fun y => ⟨Nat.le_trans (h1 y).1 ?_, (h1 y).2⟩
            rw [List.length_take]
            omega
          generalize (vs.take j).foldl (addE v i) Ek = Ej at *
          clear hx
          by_cases hxv : x = v
          · have HA : Hid (addE v i Ej x = Ej) := Lib.hid (by unfold addE; rw [if_pos hxv])
            have hne : (x != v) = false := by rw [bne_eq_false_iff_eq]; exact hxv
            have HXV := Lib.hid hxv
            clear hxv
            go_wp2_with fail
            refine ⟨⟨j + 1, by omega, by go_num, ?_, HB2⟩, by simp [intOf]; omega⟩
            rw [HES.out, HA.out]
            exact Lib.hid (HE2.out.more (by omega))
          · have HA : Hid (addE v i Ej x = fun y => if y = x then Ej x ++ [i] else Ej y) := Lib.hid (by unfold addE; rw [if_neg hxv])
            have hne : (x != v) = true := by rw [bne_iff_ne]; exact hxv
            have hmx : (maxLen : Nat) = 9223372036854775807 := rfl
            obtain ⟨Ak, ck, hlk, happ⟩ := HE2.out.app hxw (by omega) i (Nat.le_refl _) HB2.out.size
            obtain ⟨hrow, happ2⟩ := happ (wr.alloc (.cells #[.int .i64 i] 3)) ((Below.refl _ _).alloc (Nat.le_refl _) _)
            have HROW := Lib.hid hrow
            have HAPP := Lib.hid happ2
            have hbz := HB2.out.size
            have hej : (Ej x).length ≤ 1000000 := Nat.le_trans (HSJ.out x).1 (by omega)
            clear hrow happ happ2 hxv hmx hxw
            go_wp2_with (at_builtin; go_must (refine wpList_append_sl _ rfl (.tmp 41) (.tmp 43) _ rfl W.heap.size 3 i1 _ 1 8 Try.underlying52 hi1 hy0 hy1 hy2 rfl (by omega) (.slice Ak (Ej x).length ck) _ _ rfl HROW.out (wr.heap.size + 1) (some ⟨wr.heap.size, 0, none⟩) 1 1 [.int .i64 (i : Int)] rfl (reads_newN _ _ _ 1 1 rfl rfl) (by simp [Value.oneCell']) (by simp only [maxLen]; omega) (by omega) (by simp; omega) ?_); intro A1 c1 w1 hown1 hg1 hat1; obtain ⟨es, clock, hst, he5, hb5⟩ := HAPP.out w1 _ _ hown1 hg1 hat1; have HE5 := Lib.hid he5; have HB5 := Lib.hid hb5; clear he5 hb5 hown1 hg1 hat1)
            refine ⟨⟨j + 1, by omega, by go_num, ?_, ?_⟩, by simp [intOf]; omega⟩
            · rw [HES.out, HA.out]
              exact HE5
            · exact Lib.hid ((HB2.out.alloc HB2.out.size _).trans HB5.out)
        · obtain rfl : j = 3 := by omega
          go_wp2_with fail
          refine ⟨⟨k + 1, by omega, by go_num, ?_, HB2⟩, by simp [intOf]; omega⟩
          have := HE2.out
          rw [List.take_of_length_le (by rw [HVL.out]; exact Nat.le_refl _)] at this
          rw [HEK.out]
          exact Lib.hid this
    · obtain rfl : k = S.length := by omega
      rw [List.take_length] at HE
      have hmm := HMM.out
      obtain ⟨ads, us, rfl, hads, hus, hcs⟩ := ((HS.out.below HW.out).below (HB.out.mono (Nat.le_of_lt hws))).at_ hSpos
      obtain ⟨s0, hs0⟩ : ∃ s0, S[0]? = some s0 := ⟨_, List.getElem?_eq_getElem hSpos⟩
      have HS00 : Hid (S.headD 0 = s0) := by
        refine Lib.hid ?_
        cases S with
        | nil => cases hs0
        | cons a l => simpa using hs0
      obtain rfl : us = .int .i64 (s0 : Int) := by
        unfold nats at hus
        rw [List.getElem?_map, hs0] at hus
        exact (Option.some.inj hus).symm
      have hs0n := HSL.out s0 (List.mem_of_getElem? hs0)
      rw [add_zero_] at hcs
      have hcs2 : wr.cell? (ads.add 0) = some (.int .i64 (s0 : Int)) := by rw [add_zero_]; exact hcs
      have hra : ReachAt (wr.alloc (.map #[] 0)) wr.heap.size [] := ⟨_, MapV.made _ _ _, fun k => ⟨(fun h => by cases h), fun _ => rfl⟩⟩
      obtain ⟨es, clock, hst, hra2⟩ := hra.store (k := s0) (by omega) (by simp) (by simp [maxLen])
      have hadsl : ads.block < wr.heap.size := by omega
      have hcs3 : (ChangeMaps.setBlock (wr.alloc (.map #[] 0)) wr.heap.size (.map es clock)).cell? ads = some (.int .i64 (s0 : Int)) := by
        rw [World.cell?_of_block (w := wr) (heap_setBlock_ne _ _ _ (by omega) |>.trans (Below.heap_alloc _ _ _ hadsl))]
        exact hcs
      have HRA := Lib.hid hra2
      clear hus hs0 hra hra2 hlt hk
      go_wp2_with fail
      obtain ⟨fe, ne, hne, hmE, hhE⟩ := HE.out
      obtain ⟨X, hX⟩ : ∃ X, X = ChangeMaps.setBlock (wr.alloc (.map #[] 0)) wr.heap.size (.map es clock) := ⟨_, rfl⟩
      have hwW : W.heap.size < wr.heap.size := hmE.lt
      have hXs : X.heap.size = wr.heap.size + 1 := by subst hX; simp [ChangeMaps.setBlock]
      have hXb : ∀ i, i < wr.heap.size → X.heap[i]? = wr.heap[i]? := by
        intro i hi
        subst hX
        exact (heap_setBlock_ne _ _ _ (by omega)).trans (Below.heap_alloc _ _ _ hi)
      have HBX : Hid (Below W.heap.size W X) := by
        subst hX
        exact Lib.hid ((HB.out.alloc HB.out.size _).trans (((Only.refl (fun i => i = wr.heap.size) _).setBlock (.inl rfl) _).below (by simp; omega) fun k hk e => by omega))
      have HTG : Hid (TogAt W (X.alloc (.cells #[.int .i64 s0] 3)) W.heap.size wr.heap.size X.heap.size (some ⟨X.heap.size, 0, none⟩) 1 (S.foldl (triE T v) fun _ => []) [s0] [s0] fe ne) := by
        refine Lib.hid ⟨Nat.le_refl _, by omega, by omega, (hmE.same (hXb _ hwW)).alloc _, (hhE.keep fun i cs hb => (Below.heap_alloc _ _ _ (by have := hb.lt; omega)).trans (hXb i hb.lt)), ?_, QRow.new X (by omega) s0, fun x u hu e => ?_, HBX.out.alloc HBX.out.size _⟩
        · have h1 := HRA.out
          rw [← hX] at h1
          exact h1.keep (Below.heap_alloc _ _ _ h1.lt)
        · have hne2 : (S.foldl (triE T v) fun _ => []) x ≠ [] := fun e0 => by rw [hhE.none_ x e0] at hu; cases hu
          obtain ⟨Ak, ck, e1, hr⟩ := hhE.some_ x hne2
          rw [hu] at e1
          injection e1 with e1
          subst e1
          have := (hr.lt _ e).2
          omega
      have HSI : Hid (SInv T v S ([s0], [s0])) := by
        have := sinv_start T v HS0.out
        rw [HS00.out] at this
        exact Lib.hid this
      have HVO : Hid (VOk n ([s0], [s0])) := Lib.hid ⟨by simp, fun x hx => by rw [List.mem_singleton.1 hx]; exact hs0n, Nat.le_refl _⟩
      have hEf : (S.foldl (triE T v) fun _ => []) = endsF T v S := rfl
      rw [hEf] at HTG
      have HSE : Hid (ShortE (endsF T v S) (3 * S.length) n) := by
        have h1 := foldT_short T v (n := n) S (fun _ => []) 0 (fun i hi => HSL.out i hi) (fun y => ⟨Nat.le_refl _, fun k hk => by cases hk⟩)
        rw [Nat.zero_add] at h1
        exact Lib.hid h1
      rw [← hX]
      clear hEf hmE hhE hX hXs hXb HBX HRA hst HE hcs hcs2 hcs3 HB HMM hmm hne hwz
      generalize wr.heap.size = br at *
      generalize W.heap.size = be at *
      generalize hE : endsF T v S = E at *
      have HEE := Lib.hid hE
      clear hE
      go_loopg [13] (2 * (S.length - 1) + 1) (fun gk qv wz => ∃ R Q g A c, gk = 2 * (S.length - R.length) + Q.length ∧ qv = .slice A Q.length c ∧ Hid (SInv T v S (R, Q)) ∧ Hid (VOk n (R, Q)) ∧ Hid (TogAt W wz be br g A c E R Q fe ne))
      case atStart => exact ⟨[s0], [s0], _, _, 1, rfl, rfl, HSI, HVO, HTG⟩
      case round =>
        obtain ⟨R, Q, g, Aq, cq, rfl, rfl, HSI, HVO, HTG⟩ := hrel
        have hwsW : w.heap.size < W.heap.size := HX.out.lt
        cases Q with
        | nil =>
          obtain ⟨hend, _⟩ := sinv_end HSN.out HSI.out
          have hlen := fun ty => HTG.out.reach.len ty
          have HEND : Hid (Below w.heap.size w wr) := Lib.hid (HW.out.trans (HTG.out.below.mono (Nat.le_of_lt hwsW)))
          by_cases he : R.length = S.length
          · have hb : ((R.length : Int) == (S.length : Int)) = true := by rw [he]; exact beq_self_eq_true _
            have HC : Hid (connB T v S = true) := Lib.hid ((connB_iff T v S).2 (hend.1 he))
            clear hend he
            go_wp2_with fail
            go_ret
            refine ⟨?_, HEND.out⟩
            rw [HC.out]
            first | rfl | (rw [← hb]; rfl)
          · have hb : ((R.length : Int) == (S.length : Int)) = false := by rw [beq_eq_false_iff_ne]; omega
            have HC : Hid (connB T v S = false) := by
              refine Lib.hid ?_
              cases hcc : connB T v S with
              | false => rfl
              | true => exact absurd (hend.2 ((connB_iff T v S).1 hcc)) he
            clear hend he
            go_wp2_with fail
            go_ret
            refine ⟨?_, HEND.out⟩
            rw [HC.out]
            first | rfl | (rw [← hb]; rfl)
        | cons i Q =>
          obtain ⟨off, rfl, hhd⟩ := HTG.out.q.head
          have htl := run_tail (g := g) off cq (i :: Q).length (by simp)
          have hin : i < n := HSL.out i (HSI.out.inS i (HSI.out.sub i (by simp)))
          have hbl := HTG.out.below
          obtain ⟨ad, t, rfl, htk, htm, hadb, hc3⟩ := ((HT.out.below HW.out).below (hbl.mono (Nat.le_of_lt hwsW))).at_ hin
          obtain ⟨d0, d1, d2, d3, d4, d5⟩ := hc3
          have b1 := (HX.out.below hbl hwsW).cell 1
          simp at b1
          have hstep := sinv_step HSI.out
          rw [HEE.out, tri_of htk] at hstep
          have HSTEP := Lib.hid hstep
          have HVW := Lib.hid (verts_wf (HOK.out t htm) hm)
          have hql := HVO.out.len
          have hrb := HVO.out.bound
          have HVO2 : Hid (VOk n (R, Q)) := Lib.hid ⟨HVO.out.nodup, HVO.out.lt, by have := HVO.out.len; simp at this ⊢; omega⟩
          have HTG2 := Lib.hid HTG.out.pop
          have HSW := Lib.hid hwsW
          obtain ⟨ta, tb, tc⟩ := t
          have HVA := Lib.hid (fun j hj => verts_at ⟨ta, tb, tc⟩ (j := j) hj)
          generalize hvs : verts ⟨ta, tb, tc⟩ = vs at *
          have hvl : vs.length = 3 := by rw [← hvs]; rfl
          have HVL := Lib.hid hvl
          simp only [List.length_cons] at htl hql
          rw [show Q.length + 1 - 1 = Q.length by omega] at htl
          simp only at d0 d1 d2 d3 d4 d5 hrb
          generalize hA' : (if cq = 1 then some (⟨g, off, none⟩ : Addr) else some ⟨g, off + 1, none⟩) = Ac at *
          clear hstep htk htm hvs hvl hbl hwsW HSI HVO HTG hA'
          go_wp2_with fail
          obtain ⟨wB, rfl⟩ : ∃ wB : World, wB = wr := ⟨_, rfl⟩
          go_loopw [13, 69] (fun qv jv wq => ∃ j : Nat, j ≤ 3 ∧ jv = .int .i64 j ∧ ∃ g A c, qv = .slice A ((vs.take j).foldl (fromV E v) (R, Q)).2.length c ∧ Hid (VOk n ((vs.take j).foldl (fromV E v) (R, Q))) ∧ Hid (TogAt W wq be br g A c E ((vs.take j).foldl (fromV E v) (R, Q)).1 ((vs.take j).foldl (fromV E v) (R, Q)).2 fe ne)) (fun _ jv _ => 3 - (intOf jv).toNat)
          case atStart => exact ⟨0, by omega, rfl, g, Ac, _, rfl, HVO2, HTG2⟩
          case round =>
            obtain ⟨j, hj, rfl, g2, A2, c2, rfl, HVJ, HTJ⟩ := hrel
            clear HVO2 HTG2
            by_cases hjt : j < 3
            · obtain ⟨x, hx, hix⟩ := HVA.out j hjt
              have HSS : Hid ((vs.take (j + 1)).foldl (fromV E v) (R, Q) = fromV E v ((vs.take j).foldl (fromV E v) (R, Q)) x) := Lib.hid (foldl_snoc_take _ _ _ _ hx)
              have hxw := HVW.out x (List.mem_of_getElem? hx)
              generalize (vs.take j).foldl (fromV E v) (R, Q) = sj at *
              clear hx
              by_cases hxv : x = v
              · have HA : Hid (fromV E v sj x = sj) := Lib.hid (by unfold fromV; rw [if_pos hxv])
                have he : (x == v) = true := by rw [beq_iff_eq]; exact hxv
                have HXV := Lib.hid hxv
                clear hxv
                go_wp2_with fail
                refine ⟨⟨j + 1, by omega, by go_num, g2, A2, c2, ?_, ?_, ?_⟩, by simp [intOf]; omega⟩
                · rw [HSS.out, HA.out]
                · rw [HSS.out, HA.out]; exact HVJ
                · rw [HSS.out, HA.out]; exact HTJ
              · have HA : Hid (fromV E v sj x = (E x).foldl visit sj) := Lib.hid (by unfold fromV; rw [if_neg hxv])
                have he : (x == v) = false := by rw [beq_eq_false_iff_ne]; exact hxv
                obtain ⟨Ak, ck, hfe, hlk⟩ := HTJ.out.rowQ hxw
                have HFE := Lib.hid hfe
                have hjd : decide ((j : Int) < 3) = true := decide_eq_true (by omega)
                have hEl := (HSE.out x).1
                have HEL := Lib.hid (HSE.out x).2
                clear hxv hfe
                go_wp2_with fail
                clear hlk
                obtain ⟨wC, rfl⟩ : ∃ wC : World, wC = wr := ⟨_, rfl⟩
                go_loopw [13, 79] (fun qv av wq => ∃ a : Nat, a ≤ (E x).length ∧ av = .int .i64 a ∧ ∃ g A c, qv = .slice A (((E x).take a).foldl visit sj).2.length c ∧ Hid (VOk n (((E x).take a).foldl visit sj)) ∧ Hid (TogAt W wq be br g A c E (((E x).take a).foldl visit sj).1 (((E x).take a).foldl visit sj).2 fe ne)) (fun _ av _ => (E x).length - (intOf av).toNat)
                case atStart => exact ⟨0, by omega, rfl, g2, A2, c2, rfl, HVJ, HTJ⟩
                case round =>
                  obtain ⟨a, ha, rfl, g3, A3, c3, rfl, HVK, HTK⟩ := hrel
                  clear HVJ HTJ
                  by_cases hat : a < (E x).length
                  · obtain ⟨k, hk⟩ : ∃ k, (E x)[a]? = some k := ⟨_, List.getElem?_eq_getElem hat⟩
                    have HVS : Hid (((E x).take (a + 1)).foldl visit sj = visit (((E x).take a).foldl visit sj) k) := Lib.hid (foldl_snoc_take _ _ _ _ hk)
                    have hkn : k < n := HEL.out k (List.mem_of_getElem? hk)
                    obtain ⟨adr, ur, er, hadr, hur, hcr⟩ := (Reads.of_own (HTK.out.had.row_of HFE.out)).at_ hat
                    obtain rfl : ur = .int .i64 (k : Int) := by
                      unfold nats at hur
                      rw [List.getElem?_map, hk] at hur
                      exact (Option.some.inj hur).symm
                    generalize ((E x).take a).foldl visit sj = sa at *
                    have hql2 := HVK.out.len
                    have hrb2 := HVK.out.bound
                    have hlq := HTK.out.reach.look (k := k) (by omega)
                    subst er
                    clear hk hur
                    by_cases hin2 : k ∈ sa.1
                    · have HB : Hid (visit sa k = sa) := Lib.hid (by unfold visit; rw [if_pos hin2])
                      rw [decide_eq_true hin2] at hlq
                      clear hin2
                      go_wp2_with fail
                      refine ⟨⟨a + 1, by omega, by go_num, g3, A3, c3, ?_, ?_, ?_⟩, by simp [intOf]; omega⟩
                      · rw [HVS.out, HB.out]
                      · rw [HVS.out, HB.out]; exact HVK
                      · rw [HVS.out, HB.out]; exact HTK
                    · have HB : Hid (visit sa k = (sa.1 ++ [k], sa.2 ++ [k])) := Lib.hid (by unfold visit; rw [if_neg hin2])
                      have HVK2 := Lib.hid (HVK.out.visit hkn)
                      have hmx : (maxLen : Nat) = 9223372036854775807 := rfl
                      obtain ⟨es2, clock2, hst2, htg2⟩ := HTK.out.visit_ (k := k) (by omega) hin2 (by omega)
                      rw [decide_eq_false hin2] at hlq
                      have HTV := Lib.hid htg2
                      have HTA := Lib.hid (htg2.keep ((Below.refl _ (ChangeMaps.setBlock wr br (.map es2 clock2))).alloc (Nat.le_refl _) (.cells #[.int .i64 k] 3)))
                      have hnc : ((ChangeMaps.setBlock wr br (.map es2 clock2)).alloc (.cells #[.int .i64 k] 3)).cell? ⟨(ChangeMaps.setBlock wr br (.map es2 clock2)).heap.size, 0, none⟩ = some (.int .i64 (k : Int)) := (Blk.new _ _ _).cell 0
                      have HNC := Lib.hid hnc
                      have HBW := Lib.hid HTA.out.below.size
                      clear hin2 htg2 hmx hnc HVK HTK
                      go_wp2_with (at_builtin; go_must (refine wpList_append_q rfl (.tmp 89) (.tmp 91) rfl HTA.out.q rfl ⟨(ChangeMaps.setBlock wr br (.map es2 clock2)).heap.size, 0, none⟩ k rfl HNC.out (by omega) HBW.out ?_); intro g' A' c' w1 hq1 hg1 hat1)
                      have q1 : Value.slice A' (sa.2.length + 1) c' = Value.slice A' (((E x).take (a + 1)).foldl visit sj).2.length c' := by rw [HVS.out, HB.out]; simp
                      have q2 : Hid (VOk n (((E x).take (a + 1)).foldl visit sj)) := by rw [HVS.out]; exact HVK2
                      have q3 : Hid (TogAt W w1 be br g' A' c' E (((E x).take (a + 1)).foldl visit sj).1 (((E x).take (a + 1)).foldl visit sj).2 fe ne) := by rw [HVS.out, HB.out]; exact Lib.hid (HTA.out.push hq1 hg1 hat1)
                      exact ⟨⟨a + 1, by omega, by go_num, g', A', c', q1, q2, q3⟩, by simp [intOf]; omega⟩
                  · obtain rfl : a = (E x).length := by omega
                    go_wp2_with fail
                    refine ⟨⟨j + 1, by omega, by go_num, g3, A3, c3, ?_, ?_, ?_⟩, by simp [intOf]; omega⟩
                    · rw [HSS.out, HA.out, List.take_length]
                    · rw [HSS.out, HA.out]
                      have := HVK.out
                      rw [List.take_length] at this
                      exact Lib.hid this
                    · rw [HSS.out, HA.out]
                      have := HTK.out
                      rw [List.take_length] at this
                      exact Lib.hid this
            · obtain rfl : j = 3 := by omega
              have e3 : vs.take 3 = vs := List.take_of_length_le (by rw [HVL.out]; exact Nat.le_refl _)
              have HE3 := Lib.hid e3
              clear e3
              go_wp2_with fail
              go_roundg (2 * (S.length - ((vs.take 3).foldl (fromV E v) (R, Q)).1.length) + ((vs.take 3).foldl (fromV E v) (R, Q)).2.length)
              case measure =>
                have := HSTEP.out.2
                rw [HE3.out]
                exact this
              case rel =>
                refine ⟨_, _, g2, A2, c2, rfl, rfl, ?_, HVJ, HTJ⟩
                have := HSTEP.out.1
                rw [← HE3.out] at this
                exact Lib.hid this
end Go.Proofs.Ytdmibpcpocacpaa
