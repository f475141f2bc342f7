/- SeamBits, walked. -/
import Derived.Test.YtcahbcminonfbaaSmB
namespace Go.Proofs.Ytcahbcminonfbaa
open Go.RowKit

set_option linter.unusedSimpArgs false
set_option linter.unusedVariables false
theorem bitsL_at {T : List Tri} {K : List Int} {E : List (Int × Int)} {k : Nat} {e : Int × Int} (h : E[k]? = some e) (hi : innE T e = true) : (bitsL T K E)[(bitsL T K (E.take k)).length]? = some (bitE T K e) := by
  have hE : E = E.take k ++ e :: E.drop (k + 1) := by
    have hk : k < E.length := (List.getElem?_eq_some_iff.1 h).1
    have he : E[k] = e := (List.getElem?_eq_some_iff.1 h).2
    rw [← he, ← List.drop_eq_getElem_cons hk, List.take_append_drop]
  have h2 : bitsL T K E = bitsL T K (E.take k) ++ bitE T K e :: bitsL T K (E.drop (k + 1)) := by
    conv => lhs; rw [hE]
    unfold bitsL
    rw [List.filter_append, List.map_append, List.filter_cons, if_pos hi, List.map_cons]
  rw [h2, List.getElem?_append_right (Nat.le_refl _), Nat.sub_self]
  rfl
theorem ERow.ownk {w : World} {B c k : Nat} {A : Option Addr} {L : List (Int × Int)} (h : ERow w B A c L) (hk : L.length = k) : w.ownsRow B 38 2 (.slice A k c) k (L.flatMap cellE) := by subst hk; exact h
theorem erow_ofk {w : World} {B c k : Nat} {A : Option Addr} {L : List (Int × Int)} {xs : List Value} (h : w.ownsRow B 38 2 (.slice A k c) k xs) (hk : L.length = k) (hx : xs = L.flatMap cellE) : ERow w B A c L := by subst hk hx; exact h
attribute [local irreducible] Blk LRow World.alloc World.setCell World.cell? World.frozen? MapV ERow BR
set_option maxRecDepth 100000 in
set_option maxHeartbeats 8000000 in
theorem bitsLaw_any (N : Int) (A : Option Addr) (n c : Nat) (T : List Tri) (Ak : Option Addr) (nk ck : Nat) (K : List Int) (w : World) (hnk : K.length = nk) (hnk2 : nk ≤ 9223372036854775807) (ht : TrisAt w w.heap.size A n T) (hk : Reads w w.heap.size 1 Ak nk (ZL K)) :
    Calls Try.prog 8 #[.agg #[.int .i64 N, .slice A n c], .slice Ak nk ck] w (BoolPost w true) := by
  obtain rfl : n = T.length := ht.len.symm
  subst hnk
  have HT := Lib.hid ht
  have HK0 : Hid (KR w Ak K) := Lib.hid ⟨hk⟩
  clear ht hk
  obtain ⟨i0, hi0, hz0, hz1, hz2⟩ := info_parts edge_infoS
  obtain ⟨V, hV⟩ : ∃ V, V = w.alloc (.cells #[.int .i64 N, .slice A T.length c] 24) := ⟨_, rfl⟩
  have GA0 : Hid (Blk V w.heap.size 24 #[.int .i64 N, .slice A T.length c]) := by subst hV; exact Lib.hid (Blk.new _ _ _)
  have HB0 : Hid (Below w.heap.size w V) := by subst hV; exact Lib.hid (bw_alloc (Below.refl _ _) _)
  go_enter Try.func8, Try.ntmps8
  go_upto_region 1 with (fail)
  rw [← hV]
  clear hV
  obtain ⟨ga, hga⟩ : ∃ g, g = w.heap.size := ⟨_, rfl⟩
  rw [← hga] at GA0
  simp only [← hga]
  clear hga
  go_wp2_with fail
  refine (awake_any _).mono ?_
  rintro e w1 ⟨rfl, hb⟩
  have GA1 := Lib.hid (blk_call GA0.out hb)
  have HB1 := Lib.hid (bw_call HB0.out hb)
  clear hb HB0 GA0
  obtain ⟨s0, s1, _, _, _⟩ := soup_facts GA1.out
  go_wp2_with fail
  refine (table31_any N A c T w1 ((HT.out.below HB1.out).more HB1.out.size)).mono ?_
  rintro e w2 (⟨rfl, hb, _⟩ | ⟨g, m, rfl, hm60, hT40, hck, rfl, htab, hb⟩)
  · have HB2 := Lib.hid (bw_call HB1.out hb)
    clear hb
    go_wp2_with fail
    go_ret
    exact ⟨rfl, HB2.out⟩
  have GA2 := Lib.hid (blk_call GA1.out hb)
  have HT2 := Lib.hid htab
  have HB2 := Lib.hid (bw_call HB1.out hb)
  clear hb htab hck GA1 HB1 s0 s1
  by_cases hk200 : 200 < K.length
  · have hki : (200 : Int) < (K.length : Int) := by omega
    go_wp2_with fail
    go_ret
    exact ⟨rfl, HB2.out⟩
  have hki : ¬ (200 : Int) < (K.length : Int) := by omega
  have HK2 := Lib.hid (HK0.out.below HB2.out)
  by_cases hok : okK T.length K
  rotate_left
  · go_wp2_with fail
    refine (edges_bad g m T Ak ck K w2 (by omega) HT2.out HK2.out hok).mono ?_
    rintro e w3 ⟨rfl, hw3⟩
    replace hw3 := hw3.symm
    subst hw3
    go_wp2_with fail
    refine (bits_bad g m T Ak ck K w2 (by omega) HT2.out HK2.out hok).mono ?_
    rintro e w3 ⟨rfl, hw3⟩
    replace hw3 := hw3.symm
    subst hw3
    clear hok
    go_wp2_with fail
    go_ret
    exact ⟨rfl, HB2.out⟩
  have HOK := Lib.hid hok
  clear hok
  go_wp2_with fail
  refine (edges31_any g m T Ak ck K w2 (by omega) HT2.out HK2.out HOK.out).mono ?_
  rintro e w3 ⟨A3, c3, rfl, he, hb⟩
  have E3 := Lib.hid he.ec
  have HT3 := Lib.hid (HT2.out.below hb)
  have HK3 := Lib.hid (HK2.out.below hb)
  have GA3 := Lib.hid (blk_call GA2.out hb)
  have HB3 := Lib.hid (bw_call HB2.out hb)
  clear he hb HT2 HK2 GA2 HB2
  go_upto_region 7 with (fail)
  go_wp2_with fail
  refine (bits31_any g m T Ak ck K w3 (by omega) HT3.out HK3.out HOK.out).mono ?_
  rintro e w4 ⟨A4, c4, rfl, hbr, hb⟩
  have E4 := Lib.hid (E3.out.below hb)
  have B4 := Lib.hid hbr
  have HT4 := Lib.hid (HT3.out.below hb)
  have GA4 := Lib.hid (blk_call GA3.out hb)
  have HB4 := Lib.hid (bw_call HB3.out hb)
  clear hbr hb E3 HT3 HK3 GA3 HB3
  have HSE := Lib.hid HT4.out.s
  have HEB := Lib.hid fun e h => edges_bound HSE.out (e := e) h
  have hEL := (edgesL_surf HSE.out).2.1
  have HSS := Lib.hid (bits_seams (K := K) HSE.out)
  have hbl := bitsL_len T K (edgesL (m : Int) T)
  obtain ⟨S, HS⟩ : ∃ S, Hid (sortE (seamsN T K (3 * T.length)) = S) := ⟨_, Lib.hid rfl⟩
  rw [HS.out] at E4 HSS ⊢
  have hsl : S.length ≤ 1000 := by rw [← HS.out, sortE_len]; have := seamsN_len T K (3 * T.length); omega
  obtain ⟨s0, s1, _, _, _⟩ := soup_facts GA4.out
  obtain ⟨nbt, HNBT⟩ : ∃ nbt, Hid ((bitsL T K (edgesL (m : Int) T)).length = nbt) := ⟨_, Lib.hid rfl⟩
  rw [HNBT.out] at hbl ⊢
  go_upto_region 11 with (fail)
  go_wp2_with fail
  refine (edges_any m A T.length c T w4 (by omega) ((HT.out.below HB4.out).more HB4.out.size)).mono ?_
  rintro e w5 ⟨A5, c5, rfl, he, hb⟩
  have E5 := Lib.hid he.ec
  have S5 := Lib.hid (E4.out.below hb)
  have B5 := Lib.hid (B4.out.below hb)
  have HT5 := Lib.hid (HT4.out.below hb)
  have HB5 := Lib.hid (bw_call HB4.out hb)
  clear he hb E4 B4 HT4 HB4 GA4 s0 s1
  obtain ⟨E, HE⟩ : ∃ E, Hid (edgesL (m : Int) T = E) := ⟨_, Lib.hid rfl⟩
  rw [HE.out] at E5 B5 HEB HSS HNBT hEL hbl ⊢
  have HG0 : Hid (ERow w5 w5.heap.size none 0 ((E.take 0).filter (bitE T K))) := Lib.hid (ERow.nil _ _)
  go_wp2_with fail
  go_loopw [10, 12, 13] (fun gv av iv wr => ∃ (k nb ng : Nat) (A' : Option Addr) (c' : Nat), k ≤ E.length ∧ nb ≤ k ∧ ng ≤ k ∧ gv = .slice A' ng c' ∧ av = .int .i64 nb ∧ iv = .int .i64 k ∧ Hid ((bitsL T K (E.take k)).length = nb) ∧ Hid (((E.take k).filter (bitE T K)).length = ng) ∧ Hid (ERow wr w5.heap.size A' c' ((E.take k).filter (bitE T K))) ∧ Hid (Below w5.heap.size w5 wr)) (fun _ _ iv _ => E.length - (intOf iv).toNat)
  case atStart => exact ⟨0, 0, 0, none, 0, by omega, by omega, by omega, rfl, rfl, rfl, Lib.hid rfl, Lib.hid rfl, HG0, Lib.hid (Below.refl _ _)⟩
  case round =>
    obtain ⟨k, nb, ng, A', c', hk, hnb, hng, rfl, rfl, rfl, HNB, HNG, HGk, HCk⟩ := hrel
    obtain ⟨wB, hwB⟩ : ∃ wB : World, wB = wr := ⟨_, rfl⟩
    rw [← hwB] at HGk HCk ⊢
    clear hwB HG0
    by_cases hlt : k < E.length
    rotate_left
    · obtain rfl : k = E.length := by omega
      rw [List.take_length] at HNB HNG HGk
      have hnbt : nb = nbt := by rw [← HNB.out, ← HNBT.out]
      subst hnbt
      rw [HSS.out] at HNG HGk
      have hng2 : S.length = ng := HNG.out
      subst hng2
      have hbe : ((nb : Int) == (nb : Int)) = true := by simp
      go_wp2_with fail
      refine (alike31_any A' A3 c' c3 S wB (by omega) HGk.out.ec (S5.out.below HCk.out)).mono ?_
      rintro e w6 ⟨rfl, hb⟩
      have HB6 : Hid (Below w.heap.size w w6) := Lib.hid (bw_call (bw_call HB5.out HCk.out) hb)
      go_wp2_with fail
      go_ret
      exact ⟨rfl, HB6.out⟩
    have hki2 : (k : Int) < (E.length : Int) := by omega
    have hje := List.getElem?_eq_getElem hlt
    have HST := Lib.hid (bitsL_step (T := T) (K := K) hje)
    have HAT := Lib.hid (fun hi => bitsL_at (T := T) (K := K) hje hi)
    have HGS : Hid ((E.take (k + 1)).filter (bitE T K) = (E.take k).filter (bitE T K) ++ (if bitE T K E[k] then [E[k]] else [])) := Lib.hid (by
      rw [List.take_add_one, hje, List.filter_append]
      cases hbit : bitE T K E[k] <;> simp [hbit])
    have HBI := Lib.hid (fun (h : bitE T K E[k] = true) => bit_inn h)
    obtain ⟨ge, hge, hek⟩ := (E5.out.below HCk.out).at_ (by omega)
    subst hge
    have hk2 := hek.2 k _ hje
    have hbd := HEB.out _ (List.getElem_mem hlt)
    have HEX0 := Lib.hid hje
    clear hje hek
    generalize E[k] = ex at hk2 hbd HST HAT HGS HBI HEX0
    obtain ⟨x, y⟩ := ex
    simp only at hk2 hbd
    obtain ⟨e0, e1⟩ := hk2
    have HTk : Hid (TabN wB g m T) := Lib.hid (HT5.out.below HCk.out)
    have hf0 := HTk.out.facingE (x := x) (y := y) ⟨by omega, by omega⟩ ⟨by omega, by omega⟩
    have HF := Lib.hid hf0
    clear hf0
    go_wp2_with fail
    refine HF.out.mono ?_
    rintro e w6 ⟨rfl, hb⟩
    have HG6 := Lib.hid (HGk.out.below hb)
    have HC6 := Lib.hid (bw_call HCk.out hb)
    have HT6 := Lib.hid (HTk.out.below hb)
    clear hb HGk HCk HTk HF e0 e1
    have hin0 : facingF T (x, y) = none → innE T (x, y) = false := fun h => by unfold innE; rw [h]
    have hin1 : ∀ cc, facingF T (x, y) = some cc → innE T (x, y) = (oppF T cc).isSome := fun cc h => by unfold innE; rw [h]
    cases hf : facingF T (x, y) with
    | none =>
      have hi := hin0 hf
      have hbit : bitE T K (x, y) = false := by
        cases hx : bitE T K (x, y) with
        | false => rfl
        | true => rw [HBI.out hx] at hi; cases hi
      have HSN : Hid (bitsL T K (E.take (k + 1)) = bitsL T K (E.take k)) := Lib.hid (by rw [HST.out, hi]; simp)
      have HGN : Hid ((E.take (k + 1)).filter (bitE T K) = (E.take k).filter (bitE T K)) := Lib.hid (by rw [HGS.out, hbit]; simp)
      clear HST HAT HGS HBI hin0 hin1 hf hi hbit
      rw [← HSN.out] at HNB
      rw [← HGN.out] at HNG HG6
      rw [show optI none = -1 from rfl]
      go_wp2_with fail
      exact ⟨⟨k + 1, nb, ng, A', c', by omega, by omega, by omega, rfl, rfl, by go_num, HNB, HNG, HG6, HC6⟩, by simp [intOf]; omega⟩
    | some cc =>
      have hi0 := hin1 cc hf
      rw [show optI (some cc) = (cc : Int) from rfl]
      have hcl := (facing_some hf).1
      have hcc0 : ¬ (cc : Int) < 0 := by omega
      have HO := Lib.hid (HT6.out.opp hcl)
      clear hf hin0 hin1
      go_wp2_with fail
      refine HO.out.mono ?_
      rintro e w7 ⟨rfl, hb⟩
      have HG7 := Lib.hid (HG6.out.below hb)
      have HC7 := Lib.hid (bw_call HC6.out hb)
      clear hb HG6 HC6 HT6 HO
      cases ho : oppF T cc with
      | none =>
        have hi : innE T (x, y) = false := by rw [hi0, ho]; rfl
        have hbit : bitE T K (x, y) = false := by
          cases hx : bitE T K (x, y) with
          | false => rfl
          | true => rw [HBI.out hx] at hi; cases hi
        have HSN : Hid (bitsL T K (E.take (k + 1)) = bitsL T K (E.take k)) := Lib.hid (by rw [HST.out, hi]; simp)
        have HGN : Hid ((E.take (k + 1)).filter (bitE T K) = (E.take k).filter (bitE T K)) := Lib.hid (by rw [HGS.out, hbit]; simp)
        clear HST HAT HGS HBI hi0 ho hi hbit
        rw [← HSN.out] at HNB
        rw [← HGN.out] at HNG HG7
        rw [show optI none = -1 from rfl]
        go_wp2_with fail
        exact ⟨⟨k + 1, nb, ng, A', c', by omega, by omega, by omega, rfl, rfl, by go_num, HNB, HNG, HG7, HC7⟩, by simp [intOf]; omega⟩
      | some o =>
        have hi : innE T (x, y) = true := by rw [hi0, ho]; rfl
        rw [show optI (some o) = (o : Int) from rfl]
        have ho0 : ¬ (o : Int) < 0 := by omega
        have hat := HAT.out hi
        rw [HNB.out] at hat
        have HNB1 : Hid ((bitsL T K (E.take (k + 1))).length = nb + 1) := Lib.hid (by rw [HST.out, if_pos hi, List.length_append, HNB.out]; rfl)
        have hnl : nb < nbt := by have h1 := (List.getElem?_eq_some_iff.1 hat).1; rw [HNBT.out] at h1; exact h1
        obtain ⟨gb, hgb, _, hcb⟩ := (B5.out.below HC7.out).cell hat
        subst hgb
        have hni : ¬ (nbt : Int) ≤ (nb : Int) := by omega
        have hni2 : (nb : Int) < (nbt : Int) := by omega
        obtain ⟨ge2, hge2, hek2⟩ := (E5.out.below HC7.out).at_ (by omega)
        injection hge2 with hge2
        injection hge2 with hge2 _ _
        subst hge2
        obtain ⟨bb, HBB⟩ : ∃ bb, Hid (bitE T K (x, y) = bb) := ⟨_, Lib.hid rfl⟩
        rw [HBB.out] at hcb HGS
        clear HST HAT HBI hi0 ho hi hat
        have hk3 := hek2.2 k
        clear hek2
        cases bb with
        | false =>
          have HGN : Hid ((E.take (k + 1)).filter (bitE T K) = (E.take k).filter (bitE T K)) := Lib.hid (by rw [HGS.out]; simp)
          clear HGS hk3
          rw [← HGN.out] at HNG HG7
          go_wp2_with fail
          exact ⟨⟨k + 1, nb + 1, ng, A', c', by omega, by omega, by omega, rfl, by go_num, by go_num, HNB1, HNG, HG7, HC7⟩, by simp [intOf]; omega⟩
        | true =>
          have HGN : Hid ((E.take (k + 1)).filter (bitE T K) = (E.take k).filter (bitE T K) ++ [(x, y)]) := Lib.hid (by rw [HGS.out]; simp)
          have HNG1 : Hid (((E.take (k + 1)).filter (bitE T K)).length = ng + 1) := Lib.hid (by rw [HGN.out, List.length_append, HNG.out]; rfl)
          obtain ⟨e0, e1⟩ := hk3 (x, y) HEX0.out
          simp only at e0 e1
          clear HGS hk3
          have HBE : Hid (Below w5.heap.size w5 (w7.alloc (.cells #[.int .i64 x, .int .i64 y] 38))) := Lib.hid (bw_alloc HC7.out _)
          have HGE : Hid (ERow (w7.alloc (.cells #[.int .i64 x, .int .i64 y] 38)) w5.heap.size A' c' ((E.take k).filter (bitE T K))) := Lib.hid (HG7.out.alloc _)
          go_upto_region 22 with (at_builtin; go_must (refine wpList_append_sl _ rfl (.tmp 88) (.tmp 93) _ rfl w5.heap.size 38 i0 _ 2 16 Try.underlying31 hi0 hz0 hz1 hz2 rfl (by omega) (.slice A' ng c') ng (((E.take k).filter (bitE T K)).flatMap cellE) rfl (HGE.out.ownk HNG.out) (w7.heap.size + 1) (some ⟨w7.heap.size, 0, none⟩) 1 1 [.int .i64 x, .int .i64 y] rfl (reads_new w7 #[.int .i64 x, .int .i64 y] 38 1 2 rfl) (by intro u hu; simp at hu; rcases hu with rfl | rfl <;> rfl) (by simp only [maxLen]; omega) (by omega) (bw_size HBE.out) ?_); intro A8 c8 w8 hown5 hg5 hat5)
          have hrow : ∀ q, (Value.slice A' ng c').ownBlock = some q → w5.heap.size ≤ q := fun q hq => ((HGE.out.ownk HNG.out).lt q hq).1
          have HCn : Hid (Below w5.heap.size w5 w8) := Lib.hid (bw_grow HBE.out hg5 hrow)
          have HGn : Hid (ERow w8 w5.heap.size A8 c8 ((E.take (k + 1)).filter (bitE T K))) := Lib.hid (erow_ofk hown5 HNG1.out (by rw [HGN.out]; simp [cellE]))
          clear hown5 hg5 hat5 HBE HGE HG7 HC7 hrow e0 e1
          go_wp2_with fail
          exact ⟨⟨k + 1, nb + 1, ng + 1, A8, c8, by omega, by omega, by omega, rfl, by go_num, by go_num, HNB1, HNG1, HGn, HCn⟩, by simp [intOf]; omega⟩
end Go.Proofs.Ytcahbcminonfbaa
