/- seam.Bits, walked; its plain law. No condition but sizes. -/
import Derived.Test.YtcahbcminonfbaaGreatSmR
import Derived.Test.YtcahbcminonfbaaGreatSmQ
import Derived.Test.YtcahbcminonfbaaGreatWake31
import Derived.Test.YtcahbcminonfbaaGreatEdges8
import Derived.Test.YtcahbcminonfbaaGreatCorSoup
namespace Go.Proofs.YtcahbcminonfbaaGreat
open Go.RowKit

set_option linter.unusedSimpArgs false
set_option linter.unusedVariables false
theorem fit_surfB {m : Nat} {T : List Tri} (h : SurfE m T) : fitL (m : Int) T = true := by
  unfold fitL
  have h1 := h.m1
  simp only [Bool.and_eq_true, decide_eq_true_eq, List.all_eq_true]
  refine ⟨⟨by omega, by omega⟩, fun t ht => ?_⟩
  have h := h.ok t ht
  exact fitT_iff.2 ⟨⟨h.a0, h.a1, h.b0, h.b1, h.c0, h.c1⟩, h.ab, h.bc, h.ca⟩
def innE (T : List Tri) (e : Int × Int) : Bool := match facingF T e with
  | none => false
  | some c => (oppF T c).isSome
def bitE (T : List Tri) (K : List Int) (e : Int × Int) : Bool := match facingF T e with
  | none => false
  | some c => partsB T K c
def bitsL (T : List Tri) (K : List Int) (E : List (Int × Int)) : List Bool := (E.filter (innE T)).map (bitE T K)
theorem bitsL_step {T : List Tri} {K : List Int} {E : List (Int × Int)} {k : Nat} {e : Int × Int} (h : E[k]? = some e) : bitsL T K (E.take (k + 1)) = bitsL T K (E.take k) ++ (if innE T e then [bitE T K e] else []) := by
  unfold bitsL
  rw [List.take_add_one, h, List.filter_append, List.map_append]
  cases hi : innE T e <;> simp [hi]
theorem bitsL_len (T : List Tri) (K : List Int) (E : List (Int × Int)) : (bitsL T K E).length ≤ E.length := by
  unfold bitsL
  rw [List.length_map]
  exact List.length_filter_le _ _
section
variable {m : Nat} {T : List Tri} {K : List Int}
theorem edgesL_surf (hs : SurfE m T) : (edgesL (m : Int) T).Pairwise ltE ∧ (edgesL (m : Int) T).length ≤ 3 * T.length ∧ ∀ e, e ∈ edgesL (m : Int) T ↔ ∃ t ∈ T, e ∈ edgesT t := by
  unfold edgesL
  rw [if_neg (by rw [fit_surfB hs]; simp)]
  refine ⟨foldl_ins_sorted _ _ List.Pairwise.nil, ?_, fun e => ?_⟩
  · have h1 := foldl_ins_len (T.flatMap edgesT) []
    have h2 := edges_len T
    simp only [List.length_nil] at h1
    omega
  · rw [foldl_ins_mem, List.mem_flatMap]
    simp
theorem edges_bound (hs : SurfE m T) {e : Int × Int} (h : e ∈ edgesL (m : Int) T) : 0 ≤ e.1 ∧ e.1 < e.2 ∧ e.2 < m := by
  obtain ⟨t, ht, he⟩ := ((edgesL_surf hs).2.2 e).1 h
  obtain ⟨a0, a1, b0, b1, c0, c1, ab, bc, ca⟩ := hs.ok t ht
  unfold edgesT at he
  simp only [List.mem_cons, List.not_mem_nil, or_false] at he
  unfold edgeE at he
  rcases he with rfl | rfl | rfl <;> split <;> refine ⟨?_, ?_, ?_⟩ <;> simp only <;> omega
theorem edges_ce (hs : SurfE m T) {c : Nat} (hc : c < 3 * T.length) (hlt : (ce T c).1 < (ce T c).2) : ce T c ∈ edgesL (m : Int) T := by
  rw [(edgesL_surf hs).2.2]
  have hq : c / 3 < T.length := by omega
  refine ⟨tri T (c / 3), tri_mem hq, ?_⟩
  have hr := Nat.mod_lt c (show 0 < 3 by omega)
  rw [ce_ct] at hlt ⊢
  generalize c % 3 = r at *
  generalize tri T (c / 3) = t at *
  unfold edgesT edgeE
  rcases (by omega : r = 0 ∨ r = 1 ∨ r = 2) with rfl | rfl | rfl
  · have h1 : t.b < t.c := hlt
    rw [if_neg (show ¬ t.c < t.b by omega)]
    simp [ct, cornerT]
  · have h1 : t.c < t.a := hlt
    rw [if_neg (show ¬ t.a < t.c by omega)]
    simp [ct, cornerT]
  · have h1 : t.a < t.b := hlt
    rw [if_neg (show ¬ t.b < t.a by omega)]
    simp [ct, cornerT]
theorem bit_inn {e : Int × Int} (h : bitE T K e = true) : innE T e = true := by
  unfold bitE at h
  unfold innE
  cases hf : facingF T e with
  | none => simp only [hf] at h; cases h
  | some c =>
    simp only [hf] at h ⊢
    unfold partsB at h
    cases ho : oppF T c with
    | none => simp only [ho] at h; cases h
    | some o => rfl
/-- What the bits tell are the seams. -/
theorem bits_seams (hs : SurfE m T) : (edgesL (m : Int) T).filter (bitE T K) = sortE (seamsN T K (3 * T.length)) := by
  symm
  refine sortE_is (seams_nodup hs) ((edgesL_surf hs).1.filter _) fun e => ?_
  rw [seamsN_mem, List.mem_filter]
  constructor
  · rintro ⟨c, hc, hb, rfl⟩
    unfold seamB at hb
    rw [Bool.and_eq_true, decide_eq_true_eq] at hb
    refine ⟨edges_ce hs hc hb.1, ?_⟩
    unfold bitE
    rw [facing_ce hs hc]
    exact hb.2
  · rintro ⟨h1, h2⟩
    unfold bitE at h2
    cases hf : facingF T e with
    | none => simp only [hf] at h2; cases h2
    | some c =>
      simp only [hf] at h2
      obtain ⟨hc, he⟩ := facing_some hf
      refine ⟨c, hc, ?_, he⟩
      unfold seamB
      rw [he, Bool.and_eq_true]
      exact ⟨decide_eq_true (edges_bound hs h1).2.1, h2⟩
end
/-- A row of bits of the call's own. -/
def BR (w : World) (B : Nat) (A : Option Addr) (c : Nat) (L : List Bool) : Prop := w.ownsRow B 4 1 (.slice A L.length c) L.length (L.map Value.bool)
section
variable {w w' : World} {B c k : Nat} {A : Option Addr} {L : List Bool}
theorem BR.nil (w : World) (B : Nat) : BR w B none 0 [] := World.ownsRow_nil _ _ _ _
theorem BR.below (h : BR w B A c L) (hb : Below w.heap.size w w') : BR w' B A c L := own_same h fun k hk => hb.block k (World.ownsRow.lt h k hk).2
theorem BR.alloc (h : BR w B A c L) (o : Obj) : BR (w.alloc o) B A c L := h.below ((Below.refl _ _).alloc (Nat.le_refl _) _)
theorem BR.own (h : BR w B A c L) (hk : L.length = k) : w.ownsRow B 4 1 (.slice A k c) k (L.map Value.bool) := by subst hk; exact h
theorem BR.base {B' : Nat} (h : BR w B A c L) (hB : B' ≤ B) : BR w B' A c L := by
  obtain ⟨h1, h2⟩ := h
  refine ⟨h1, ?_⟩
  rcases h2 with h2 | ⟨g, cap, cur, hv, hb, hr⟩
  · exact .inl h2
  · exact .inr ⟨g, cap, cur, hv, Nat.le_trans hB hb, hr⟩
theorem br_of {n : Nat} {xs : List Value} (h : w.ownsRow B 4 1 (.slice A n c) n xs) (hn : n = L.length) (hx : xs = L.map Value.bool) : BR w B A c L := by
  subst hn hx
  exact h
theorem BR.cell (h : BR w B A c L) {i : Nat} {b : Bool} (hi : L[i]? = some b) : ∃ g, A = some ⟨g, 0, none⟩ ∧ g < w.heap.size ∧ w.cell? ⟨g, i, none⟩ = some (.bool b) := by
  obtain ⟨g, cap, hv, _, hlt⟩ := World.ownsRow.form h (by have := (List.getElem?_eq_some_iff.1 hi).1; omega)
  have hA : A = some ⟨g, 0, none⟩ := by injection hv
  subst hA
  have hadd : (⟨g, 0, none⟩ : Addr).add i = ⟨g, i, none⟩ := by
    unfold Addr.add
    split <;> simp_all
  have h1 := World.ownsRow.cells h (g := g) rfl i (.bool b) (by rw [List.getElem?_map, hi]; rfl)
  rw [hadd] at h1
  exact ⟨g, rfl, hlt, h1⟩
end
theorem bits_bad (g m : Nat) (T : List Tri) (A : Option Addr) (c : Nat) (K : List Int) (w : World) (hn : K.length ≤ 1000000) (h : TabN w g m T) (hk : KR w A K) (hok : ¬ okK T.length K) :
    Calls Tryz.prog 7 #[.pointer (some ⟨g, 0, none⟩), .slice A K.length c] w (IsPost w (.tuple #[.slice none 0 0, .int .i64 2])) := by
  have HR := Lib.hid (right_any g 0 m T A c K w (by have := h.n; omega) hn h.t hk)
  unfold rightE at HR
  rw [if_neg hok] at HR
  clear h hk hok
  go_enter Tryz.func7, Tryz.ntmps7
  go_wp2_with fail
  refine HR.out.mono ?_
  rintro e w1 ⟨rfl, hw1⟩
  replace hw1 := hw1.symm
  subst hw1
  go_wp2_with fail
  go_ret2
  exact ⟨rfl, rfl⟩
theorem bits_nil (A : Option Addr) (c n : Nat) (w : World) : Calls Tryz.prog 7 #[.pointer none, .slice A n c] w (IsPost w (.tuple #[.slice none 0 0, .int .i64 1])) := by
  go_enter Tryz.func7, Tryz.ntmps7
  go_wp2_with fail
  refine (right_nil A c n w).mono ?_
  rintro e w1 ⟨rfl, hw1⟩
  replace hw1 := hw1.symm
  subst hw1
  go_wp2_with fail
  go_ret2
  exact ⟨rfl, rfl⟩
theorem TabN.facingE {w : World} {g m : Nat} {T : List Tri} (h : TabN w g m T) {x y : Int} (hx : 0 ≤ x ∧ x < m) (hy : 0 ≤ y ∧ y < m) : Calls Tryz.prog 24 #[.pointer (some ⟨g, 0, none⟩), .agg #[.int .i64 x, .int .i64 y]] w (IntPost w (optI (facingF T (x, y)))) := by
  have hn := h.n
  have hm := h.s.m1
  exact facing_any g 0 m T x y w (by omega) ⟨wf_small (by omega) (by omega), wf_small (by omega) (by omega)⟩ h.t
/-- The bits. -/
def BitsPost (w : World) (m : Nat) (T : List Tri) (K : List Int) (e : Ending) (w' : World) : Prop :=
  ∃ (A' : Option Addr) (c' : Nat), e = .returned (.tuple #[.slice A' (bitsL T K (edgesL (m : Int) T)).length c', .int .i64 0]) ∧ BR w' w.heap.size A' c' (bitsL T K (edgesL (m : Int) T)) ∧ Below w.heap.size w w'
theorem bool_infoS : (Tryz.prog.info? 4).map (fun i => (i.zero, i.size, i.bytes)) = some (some (.bool false), 1, 1) := by kernel_rfl
attribute [local irreducible] Blk LRow World.alloc World.setCell World.cell? World.frozen? MapV ERow BR
set_option maxRecDepth 100000 in
set_option maxHeartbeats 8000000 in
theorem bits31_any (g m : Nat) (T : List Tri) (A : Option Addr) (c : Nat) (K : List Int) (w : World) (hn : K.length ≤ 1000000) (h : TabN w g m T) (hk : KR w A K) (hok : okK T.length K) :
    Calls Tryz.prog 7 #[.pointer (some ⟨g, 0, none⟩), .slice A K.length c] w (BitsPost w m T K) := by
  have HR := Lib.hid (right_any g 0 m T A c K w (by have := h.n; omega) hn h.t hk)
  unfold rightE at HR
  rw [if_pos hok] at HR
  have HTw := Lib.hid h
  have HKw := Lib.hid hk
  have HOK := Lib.hid hok
  have hTn := h.n
  have HSE := Lib.hid h.s
  clear h hk hok
  obtain ⟨i0, hi0, hz0, hz1, hz2⟩ := info_parts bool_infoS
  go_enter Tryz.func7, Tryz.ntmps7
  go_wp2_with fail
  refine HR.out.mono ?_
  rintro e w1 ⟨rfl, hw1⟩
  replace hw1 := hw1.symm
  subst hw1
  clear HR
  go_wp2_with fail
  refine (soupT_any g 0 m T w (by omega) HTw.out.t.s).mono ?_
  rintro e w2 ⟨A2, c2, rfl, hr, hb⟩
  have HR2 := Lib.hid hr
  have HB2 := Lib.hid hb
  clear hr hb
  go_wp2_with fail
  refine (edges_any m A2 T.length c2 T w2 (by omega) HR2.out.tris).mono ?_
  rintro e w3 ⟨A3, c3, rfl, he, hb⟩
  have E3 := Lib.hid he.ec
  have HB3 := Lib.hid (HB2.out.trans (hb.mono HB2.out.size))
  clear he hb HR2 HB2
  have HEB := Lib.hid fun e h => edges_bound HSE.out (e := e) h
  have HEL := Lib.hid (edgesL_surf HSE.out).2.1
  obtain ⟨E, HE⟩ : ∃ E, Hid (edgesL (m : Int) T = E) := ⟨_, Lib.hid rfl⟩
  rw [HE.out] at E3 HEB HEL
  rw [HE.out]
  have hEL := HEL.out
  have HBR : Hid (BR w3 w3.heap.size none 0 (bitsL T K (E.take 0))) := Lib.hid (BR.nil _ _)
  go_wp2_with fail
  go_loopw [7, 21] (fun ov iv wr => ∃ (k nb : Nat) (A' : Option Addr) (c' : Nat), k ≤ E.length ∧ nb ≤ k ∧ ov = .slice A' nb c' ∧ iv = .int .i64 k ∧ Hid ((bitsL T K (E.take k)).length = nb) ∧ Hid (BR wr w3.heap.size A' c' (bitsL T K (E.take k))) ∧ Hid (Below w3.heap.size w3 wr)) (fun _ iv _ => E.length - (intOf iv).toNat)
  case atStart => exact ⟨0, 0, none, 0, by omega, by omega, rfl, rfl, Lib.hid rfl, HBR, Lib.hid (Below.refl _ _)⟩
  case round =>
    obtain ⟨k, nb, A', c', hk, hnb, rfl, rfl, HNB, HRk, HCk⟩ := hrel
    obtain ⟨wB, hwB⟩ : ∃ wB : World, wB = wr := ⟨_, rfl⟩
    rw [← hwB] at HRk HCk ⊢
    clear hwB HBR
    by_cases hlt : k < E.length
    rotate_left
    · obtain rfl : k = E.length := by omega
      rw [List.take_length] at HNB HRk
      go_wp2_with fail
      go_ret2
      refine ⟨A', c', ?_, ?_, HB3.out.trans (HCk.out.mono HB3.out.size)⟩
      · rw [HE.out, HNB.out]
        rfl
      · rw [HE.out]
        exact HRk.out.base HB3.out.size
    have hki : (k : Int) < (E.length : Int) := by omega
    have hje := List.getElem?_eq_getElem hlt
    have HST := Lib.hid (bitsL_step (T := T) (K := K) hje)
    obtain ⟨ge, hge, hek⟩ := (E3.out.below HCk.out).at_ (by omega)
    subst hge
    have hk2 := hek.2 k _ hje
    have hbd := HEB.out _ (List.getElem_mem hlt)
    have hgl := hek.1
    clear hje hek
    generalize E[k] = ex at hk2 hbd HST
    obtain ⟨x, y⟩ := ex
    simp only at hk2 hbd
    obtain ⟨e0, e1⟩ := hk2
    obtain ⟨w4, hw4⟩ : ∃ W, W = wB.alloc (.cells #[.int .i64 x, .int .i64 y] 42) := ⟨_, rfl⟩
    have GE4 : Hid (Blk w4 wB.heap.size 42 #[.int .i64 x, .int .i64 y]) := by subst hw4; exact Lib.hid (Blk.new _ _ _)
    have HR4 : Hid (BR w4 w3.heap.size A' c' (bitsL T K (E.take k))) := by subst hw4; exact Lib.hid (HRk.out.alloc _)
    have HC4 : Hid (Below w3.heap.size w3 w4) := by subst hw4; exact Lib.hid (bw_alloc HCk.out _)
    go_upto_region 8 with (fail)
    rw [← hw4]
    generalize wB.heap.size = gb at *
    clear hw4 e0 e1 hgl HRk HCk
    have HT4 : Hid (TabN w4 g m T) := Lib.hid (HTw.out.below (HB3.out.trans (HC4.out.mono HB3.out.size)))
    have e0 := GE4.out.cell 0
    have e1 := GE4.out.cell 1
    simp only [List.getElem?_toArray, List.getElem?_cons_zero, List.getElem?_cons_succ] at e0 e1
    have hf0 := HT4.out.facingE (x := x) (y := y) ⟨by omega, by omega⟩ ⟨by omega, by omega⟩
    have HF := Lib.hid hf0
    clear hf0
    go_wp2_with fail
    refine HF.out.mono ?_
    rintro e w5 ⟨rfl, hb⟩
    have HR5 := Lib.hid (HR4.out.below hb)
    have HC5 := Lib.hid (bw_call HC4.out hb)
    have HT5 := Lib.hid (HT4.out.below hb)
    clear hb HR4 HC4 HT4 HF GE4 e0 e1
    unfold innE bitE at HST
    cases hf : facingF T (x, y) with
    | none =>
      rw [hf] at HST
      have HSN : Hid (bitsL T K (E.take (k + 1)) = bitsL T K (E.take k)) := Lib.hid (by rw [HST.out]; simp)
      clear HST hf
      rw [← HSN.out] at HNB HR5
      rw [show optI none = -1 from rfl]
      go_wp2_with fail
      exact ⟨⟨k + 1, nb, A', c', by omega, by omega, rfl, by go_num, HNB, HR5, HC5⟩, by simp [intOf]; omega⟩
    | some cc =>
      rw [hf] at HST
      rw [show optI (some cc) = (cc : Int) from rfl]
      have hcl := (facing_some hf).1
      have hcc0 : ¬ (cc : Int) < 0 := by omega
      have HO := Lib.hid (HT5.out.opp hcl)
      clear hf
      simp only at HST
      go_wp2_with fail
      refine HO.out.mono ?_
      rintro e w6 ⟨rfl, hb⟩
      have HR6 := Lib.hid (HR5.out.below hb)
      have HC6 := Lib.hid (bw_call HC5.out hb)
      have HT6 := Lib.hid (HT5.out.below hb)
      clear hb HR5 HC5 HT5 HO
      cases ho : oppF T cc with
      | none =>
        rw [ho] at HST
        have HSN : Hid (bitsL T K (E.take (k + 1)) = bitsL T K (E.take k)) := Lib.hid (by rw [HST.out]; simp)
        clear HST ho
        rw [← HSN.out] at HNB HR6
        rw [show optI none = -1 from rfl]
        go_wp2_with fail
        exact ⟨⟨k + 1, nb, A', c', by omega, by omega, rfl, by go_num, HNB, HR6, HC6⟩, by simp [intOf]; omega⟩
      | some o =>
        rw [ho] at HST
        rw [show optI (some o) = (o : Int) from rfl]
        have ho0 : ¬ (o : Int) < 0 := by omega
        have HSN : Hid (bitsL T K (E.take (k + 1)) = bitsL T K (E.take k) ++ [partsB T K cc]) := Lib.hid (by rw [HST.out]; simp)
        clear HST ho
        have HK6 := Lib.hid (HKw.out.below (HB3.out.trans (HC6.out.mono HB3.out.size)))
        go_wp2_with fail
        refine (parts_any g m T A c K cc w6 hcl HOK.out HT6.out HK6.out).mono ?_
        rintro e w7 ⟨rfl, hb⟩
        have HR7 := Lib.hid (HR6.out.below hb)
        have HC7 := Lib.hid (bw_call HC6.out hb)
        clear hb HR6 HC6 HT6 HK6
        generalize partsB T K cc = bb at *
        have HNB1 : Hid ((bitsL T K (E.take (k + 1))).length = nb + 1) := Lib.hid (by rw [HSN.out, List.length_append, HNB.out]; rfl)
        have HBE : Hid (Below w3.heap.size w3 (w7.alloc (.cells #[.bool bb] 4))) := Lib.hid (bw_alloc HC7.out _)
        have HRE : Hid (BR (w7.alloc (.cells #[.bool bb] 4)) w3.heap.size A' c' (bitsL T K (E.take k))) := Lib.hid (HR7.out.alloc _)
        go_upto_region 11 with (at_builtin; go_must (refine wpList_append_sl _ rfl (.tmp 36) (.tmp 41) _ rfl w3.heap.size 4 i0 _ 1 1 Tryz.underlying33 hi0 hz0 hz1 hz2 rfl (by omega) (.slice A' nb c') nb ((bitsL T K (E.take k)).map Value.bool) rfl (HRE.out.own HNB.out) (w7.heap.size + 1) (some ⟨w7.heap.size, 0, none⟩) 1 1 [.bool bb] rfl (reads_new w7 #[.bool bb] 4 1 1 rfl) (by intro u hu; simp at hu; subst hu; rfl) (by simp only [maxLen]; omega) (by omega) (bw_size HBE.out) ?_); intro A5 c5 w8 hown5 hg5 hat5)
        have hrow : ∀ q, (Value.slice A' nb c').ownBlock = some q → w3.heap.size ≤ q := fun q hq => ((HRE.out.own HNB.out).lt q hq).1
        have HBn : Hid (Below w3.heap.size w3 w8) := Lib.hid (bw_grow HBE.out hg5 hrow)
        have HRn : Hid (BR w8 w3.heap.size A5 c5 (bitsL T K (E.take (k + 1)))) := Lib.hid (br_of hown5 HNB1.out.symm (by rw [HSN.out]; simp))
        clear hown5 hg5 hat5 HBE HRE HR7 HC7 hrow
        go_wp2_with fail
        exact ⟨⟨k + 1, nb + 1, A5, c5, by omega, by omega, rfl, by go_num, HNB1, HRn, HBn⟩, by simp [intOf]; omega⟩
end Go.Proofs.YtcahbcminonfbaaGreat
