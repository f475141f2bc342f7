/- CertifyNumbered, walked. No condition. -/
import Derived.Test.YtnnbcflpbpafeaaPlainD
import Derived.Test.YtnnbcflpbpafeaaRowT
import Derived.Test.YtnnbcflpbpafeaaOpen
namespace Go.Proofs.Ytnnbcflpbpafeaa
open Go.RowKit

theorem int_info9 : (Try.prog.info? 3).map (fun i => (i.zero, i.size, i.bytes)) = some (some (.int .i64 0), 1, 8) := by kernel_rfl
/-- Cells of numbers. -/
def ints (L : List Int) : Array Value := (L.map (Value.int .i64)).toArray
theorem ints_at {L : List Int} {k : Nat} {x : Int} (h : L[k]? = some x) : (ints L)[k]? = some (.int .i64 x) := by simp [ints, h]
theorem ints_set (L : List Int) (k : Nat) (x : Int) : (ints L).setIfInBounds k (.int .i64 x) = ints (L.set k x) := by simp [ints, List.map_set]
theorem madeInts (m : Nat) : madeCells (Value.int .i64 0).cells m = ints (List.replicate m 0) := by
  apply Array.ext'
  refine List.ext_getElem? fun i => ?_
  by_cases hi : i < m
  · simp [madeCells, ints, hi, Value.cells, Nat.mod_one]
  · simp [madeCells, ints, hi, Value.cells]

def fillL (k m : Nat) : List Int := ((List.range k).map fun i : Nat => (i : Int)) ++ List.replicate (m - k) 0
theorem fill_len {k m : Nat} (h : k ≤ m) : (fillL k m).length = m := by simp [fillL]; omega
theorem fill_set {k m : Nat} (h : k < m) : (fillL k m).set k (k : Int) = fillL (k + 1) m := by
  unfold fillL
  rw [List.set_append_right _ _ (by simp), List.range_succ, List.map_append, List.append_assoc]
  congr 1
  rw [show m - k = (m - (k + 1)) + 1 by omega]
  simp [List.replicate_succ]
theorem fill_all (m : Nat) : fillL m m = (List.range m).map fun i : Nat => (i : Int) := by simp [fillL]
theorem ints_cell {w : World} {g : Nat} {L : List Int} (h : Blk w g 3 (ints L)) {k : Nat} (hk : k < L.length) : w.cell? ⟨g, k, none⟩ = some (.int .i64 (L.getD k 0)) := by
  rw [h.cell]
  exact ints_at (by rw [List.getD_eq_getElem?_getD, List.getElem?_eq_getElem hk]; rfl)

theorem LRow.setInt {w : World} {B : Nat} {A : Option Addr} {c g i : Nat} {L : List Tri} {cs : Array Value} (h : LRow w B A c L) (hb : Blk w g 3 cs) (u : Value) : LRow (w.setCell ⟨g, i, none⟩ u) B A c L := by
  refine own_same h fun k hk => ?_
  obtain ⟨ds, hd⟩ := own_blk h hk
  exact Below.heap_setCell _ _ _ _ (hd.ne_ hb (by decide))
theorem int_tri_ne {w : World} {B : Nat} {A : Option Addr} {c g : Nat} {L : List Tri} {cs : Array Value} (h : LRow w B A c L) (hb : Blk w g 3 cs) : ∀ k, (Value.slice A L.length c).ownBlock = some k → k ≠ g := fun k hk => by
  obtain ⟨ds, hd⟩ := own_blk h hk
  exact hd.ne_ hb (by decide)
theorem swap_tri (U : List Tri) {p q : Nat} (hp : p < U.length) (hq : q < U.length) : ((U.set p (tri U q)).set q (tri U p)).Perm U := by
  have e1 : tri U p = U[p] := tri_of (List.getElem?_eq_getElem hp)
  have e2 : tri U q = U[q] := tri_of (List.getElem?_eq_getElem hq)
  rw [e1, e2]
  exact List.set_set_perm hp hq
/-- The first corners renamed. -/
def pmT (ρ : Int → Int) (q : Nat) (t : Tri) : Tri := ⟨if 0 < q then ρ t.a else t.a, if 1 < q then ρ t.b else t.b, if 2 < q then ρ t.c else t.c⟩
theorem arr_same {cs : Array Value} {j : Nat} {x : Value} (h : cs[j]? = some x) : cs.setIfInBounds j x = cs := by
  apply Array.ext_getElem?
  intro k
  rw [Array.getElem?_setIfInBounds]
  by_cases hk : j = k
  · subst hk
    rw [if_pos rfl, h, if_pos (Array.getElem?_eq_some_iff.1 h).1]
  · rw [if_neg hk]
def putT (r : Nat) (v : Int) (t : Tri) : Tri := if r = 0 then ⟨v, t.b, t.c⟩ else if r = 1 then ⟨t.a, v, t.c⟩ else ⟨t.a, t.b, v⟩
/-- One corner of one triangle written. -/
theorem LRow.set1 {w : World} {B c b : Nat} {L : List Tri} (h : LRow w B (some ⟨b, 0, none⟩) c L) {i r : Nat} (hi : i < L.length) (hr : r < 3) (v : Int) : LRow (w.setCell ⟨b, i * 3 + r, none⟩ (.int .i64 v)) B (some ⟨b, 0, none⟩) c (L.set i (putT r v (tri L i))) := by
  obtain ⟨b', hb', _, _, ⟨x0, x1, x2⟩, _⟩ := row_cells h (tri_at hi)
  injection hb' with hb'
  injection hb' with hb' _ _
  subst hb'
  obtain ⟨ds, hd⟩ := own_blk h (k := b) rfl
  rw [hd.cell] at x0 x1 x2
  have h3 := h.set_ i (putT r v (tri L i))
  have hw3 := ((hd.set_ (i * 3) (.int .i64 (putT r v (tri L i)).a)).set_ (i * 3 + 1) (.int .i64 (putT r v (tri L i)).b)).set_ (i * 3 + 2) (.int .i64 (putT r v (tri L i)).c)
  have hw1 := hd.set_ (i * 3 + r) (.int .i64 v)
  refine own_same h3 fun k hk => ?_
  have hk : some b = some k := hk
  injection hk with hk
  subst hk
  refine Eq.trans hw1 (Eq.trans ?_ (Eq.symm hw3))
  have ne : ∀ a b : Nat, a ≠ b → ∀ (cs : Array Value) (x : Value), (cs.setIfInBounds a x)[b]? = cs[b]? := fun a b h cs x => by rw [Array.getElem?_setIfInBounds, if_neg h]
  rcases (by omega : r = 0 ∨ r = 1 ∨ r = 2) with rfl | rfl | rfl
  · rw [show putT 0 v (tri L i) = ⟨v, (tri L i).b, (tri L i).c⟩ from rfl]
    rw [arr_same (cs := (ds.setIfInBounds (i * 3) (.int .i64 v))) (j := i * 3 + 1) (by rw [ne _ _ (by omega)]; exact x1), arr_same (cs := (ds.setIfInBounds (i * 3) (.int .i64 v))) (j := i * 3 + 2) (by rw [ne _ _ (by omega)]; exact x2)]
    rfl
  · rw [show putT 1 v (tri L i) = ⟨(tri L i).a, v, (tri L i).c⟩ from rfl]
    rw [arr_same (cs := ds) (j := i * 3) x0, arr_same (cs := (ds.setIfInBounds (i * 3 + 1) (.int .i64 v))) (j := i * 3 + 2) (by rw [ne _ _ (by omega)]; exact x2)]
  · rw [show putT 2 v (tri L i) = ⟨(tri L i).a, (tri L i).b, v⟩ from rfl]
    rw [arr_same (cs := ds) (j := i * 3) x0, arr_same (cs := ds) (j := i * 3 + 1) x1]
theorem tri_set_ne (L : List Tri) {i j : Nat} (x : Tri) (h : j ≠ i) : tri (L.set i x) j = tri L j := by
  unfold tri
  rw [List.getD_eq_getElem?_getD, List.getElem?_set_ne (Ne.symm h), ← List.getD_eq_getElem?_getD]
theorem tri_set_same (L : List Tri) {i : Nat} (x : Tri) (h : i < L.length) : tri (L.set i x) i = x := tri_of (by rw [List.getElem?_set_self h])
theorem LRow.drewN {w : World} {B : Nat} {A : Option Addr} {c : Nat} {L : List Tri} (h : LRow w B A c L) (n : Nat) : LRow (w.drewN n) B A c L := h
theorem swap_perm (L : List Int) {p q : Nat} (hp : p < L.length) (hq : q < L.length) : ((L.set p (L.getD q 0)).set q (L.getD p 0)).Perm L := by
  rw [List.getD_eq_getElem?_getD, List.getD_eq_getElem?_getD, List.getElem?_eq_getElem hp, List.getElem?_eq_getElem hq]
  exact List.set_set_perm hp hq

attribute [local irreducible] Blk LRow World.alloc World.setCell KeepB World.cell? World.frozen?

set_option maxRecDepth 100000 in
set_option maxHeartbeats 8000000 in
theorem numberedLaw_any (N : Int) (A : Option Addr) (n c : Nat) (T : List Tri) (Ab : Option Addr) (cb : Nat) (L : List UInt8) (w : World) (ht : TrisAt w w.heap.size A n T) (hby : Reads w w.heap.size 1 Ab L.length (B8 L)) (hlm : L.length ≤ 9223372036854775807) :
    Calls Try.prog 4 #[.agg #[.int .i64 N, .slice A n c], .slice Ab L.length cb] w (TrueB w) := by
  obtain rfl : n = T.length := ht.len.symm
  have HT := Lib.hid ht
  have HBY := Lib.hid hby
  clear ht hby
  go_enter Try.func4, Try.ntmps4
  go_wp2_with fail
  obtain ⟨W, hW⟩ : ∃ W, W = w.alloc (.cells #[.int .i64 N, .slice A T.length c] 24) := ⟨_, rfl⟩
  have H0 : Hid (Blk W w.heap.size 24 #[.int .i64 N, .slice A T.length c]) := by subst hW; exact Lib.hid (Blk.new _ _ _)
  have HB0 : Hid (Below w.heap.size w W) := by subst hW; exact Lib.hid ((Below.refl _ _).alloc (Nat.le_refl _) _)
  rw [← hW]
  clear hW
  generalize w.heap.size = g at H0 ⊢
  refine (awake_any _).mono ?_
  rintro e w1 ⟨rfl, hb⟩
  have H1 := Lib.hid (H0.out.below hb H0.out.lt)
  have HB1 := Lib.hid (HB0.out.trans (hb.mono HB0.out.size))
  clear hb H0 HB0
  have c0 := H1.out.cell 0
  have c1 := H1.out.cell 1
  simp at c0 c1
  by_cases hgr : (decide (40 < T.length) || decide (40 < N)) = true
  · go_wp2_with fail
    refine (great_ex2 true hgr).mono ?_
    rintro e w2 ⟨rfl, hb⟩
    have HB2 := Lib.hid (HB1.out.trans (hb.mono HB1.out.size))
    clear hb H1 c0 c1
    go_wp2_with fail
    refine (awake_any _).mono ?_
    rintro e w3 ⟨rfl, hb⟩
    have HB3 := Lib.hid (HB2.out.trans (hb.mono HB2.out.size))
    clear hb
    go_wp2_with fail
    go_ret
    exact ⟨rfl, HB3.out⟩
  have hgf : (decide (40 < T.length) || decide (40 < N)) = false := by cases h : (decide (40 < T.length) || decide (40 < N)) with | true => exact absurd h hgr | false => rfl
  have hn40 : T.length ≤ 40 := by simp at hgr; omega
  have hgr2 := hgr
  clear hgr
  have hN40 : N ≤ 40 := by simp at hgr2; omega
  have hn1000 : T.length ≤ 1000 := by omega
  by_cases hNn : N < 0
  · go_wp2_with fail
    refine (great_ex2 false hgf).mono ?_
    rintro e w2 ⟨rfl, hb⟩
    have HB2 := Lib.hid (HB1.out.trans (hb.mono HB1.out.size))
    have H2 := Lib.hid (H1.out.below hb H1.out.lt)
    clear hb H1 c0 c1 hgf
    have c0 := H2.out.cell 0
    have c1 := H2.out.cell 1
    simp at c0 c1
    go_wp2_with fail
    refine (awake_any _).mono ?_
    rintro e w3 ⟨rfl, hb⟩
    have HB3 := Lib.hid (HB2.out.trans (hb.mono HB2.out.size))
    clear hb
    go_wp2_with fail
    go_ret
    exact ⟨rfl, HB3.out⟩
  obtain ⟨m, rfl⟩ := Int.eq_ofNat_of_zero_le (show 0 ≤ N by omega)
  go_wp2_with fail
  refine (great_ex2 false hgf).mono ?_
  rintro e w2 ⟨rfl, hb⟩
  have HB2 := Lib.hid (HB1.out.trans (hb.mono HB1.out.size))
  have H2 := Lib.hid (H1.out.below hb H1.out.lt)
  clear hb H1 HB1 c0 c1 hgf
  have c0 := H2.out.cell 0
  have c1 := H2.out.cell 1
  simp at c0 c1
  obtain ⟨i1, hi1, hy0, hy1, hy2⟩ := info_parts int_info9
  have hmk := fun W => run_make_rowN (P := Try.prog) 36 3 i1 (.int .i64 0) Try.underlying36 hi1 hy0 .i64 .i64 m m (Nat.le_refl _) (by rw [hy2]; omega) (by omega) W
  rw [hy1, Nat.mul_one, madeInts] at hmk
  clear hi1 hy0 hy1 hy2
  go_wp2_with fail
  obtain ⟨V, hV⟩ : ∃ V, V = w2.alloc (.cells (ints (List.replicate m 0)) 3) := ⟨_, rfl⟩
  have HI2 : Hid (Blk V w2.heap.size 3 (ints (fillL 0 m))) := by subst hV; exact Lib.hid (by simpa [fillL] using Blk.new w2 3 (ints (List.replicate m 0)))
  have HBV : Hid (Below w2.heap.size w2 V) := by subst hV; exact Lib.hid (bw_alloc (Below.refl _ _) _)
  have HGI := Lib.hid (Nat.le_refl w2.heap.size)
  rw [← hV]
  have hg2 := H2.out.lt
  have HG2 := Lib.hid hg2
  obtain ⟨gi, hgi⟩ : ∃ gi, gi = w2.heap.size := ⟨_, rfl⟩
  rw [← hgi] at HI2 ⊢
  have HGI : Hid (w2.heap.size ≤ gi) := Lib.hid (by omega)
  clear hV hmk hgi c0 c1
  go_loopw [37] (fun iv wr => ∃ k : Nat, k ≤ m ∧ iv = .int .i64 k ∧ Hid (Blk wr gi 3 (ints (fillL k m))) ∧ Hid (Below w2.heap.size w2 wr)) (fun iv _ => m - (intOf iv).toNat)
  case atStart => exact ⟨0, by omega, rfl, HI2, HBV⟩
  case round =>
    obtain ⟨k, hk, rfl, HIK, HBK⟩ := hrel
    by_cases hlt : k < m
    · have hk0 : (0 : Int) ≤ (k : Int) := by omega
      have hk1 : (k : Int) < (m : Int) := by omega
      have a0 := ints_cell HIK.out (k := k) (by rw [fill_len hk]; exact hlt)
      have a1 := HIK.out.frozen k
      go_wp2_with fail
      refine ⟨⟨k + 1, by omega, by go_num, Lib.hid ?_, Lib.hid (bw_set HBK.out HGI.out _)⟩, by simp [intOf]; omega⟩
      rw [← fill_set hlt, ← ints_set]
      exact HIK.out.set_ k _
    · obtain rfl : k = m := by omega
      obtain ⟨c0, c1, _, _, _⟩ := soup_facts (H2.out.below HBK.out HG2.out)
      obtain ⟨w3, hw3⟩ : ∃ w3 : World, w3 = wr := ⟨_, rfl⟩
      rw [← hw3] at HIK HBK c0 c1 ⊢
      clear hw3
      rw [fill_all] at HIK
      go_wp2_with fail
      refine (own_any k A T.length c T w3 hn1000 ((HT.out.below (HB2.out.trans (HBK.out.mono HB2.out.size))).more (HB2.out.trans (HBK.out.mono HB2.out.size)).size)).mono ?_
      rintro e w5 ⟨A5, c5, rfl, ho5, hb5⟩
      have HR5 := Lib.hid (lrow_of ho5 rfl rfl)
      have HB5 : Hid (Below w2.heap.size w2 w5) := Lib.hid (bw_call HBK.out hb5)
      have HBK0 := HBK
      have HI5 := Lib.hid (blk_call HIK.out hb5)
      clear ho5 hb5 HIK HBK c0 c1
      obtain ⟨c0, c1, _, _, _⟩ := soup_facts (H2.out.below HB5.out HG2.out)
      go_wp2_with fail
      obtain ⟨V, hV⟩ : ∃ V, V = w5.alloc (.cells #[.int .i64 (k : Int), .slice A5 T.length c5] 24) := ⟨_, rfl⟩
      have HT6 : Hid (Blk V w5.heap.size 24 #[.int .i64 (k : Int), .slice A5 T.length c5]) := by subst hV; exact Lib.hid (Blk.new _ _ _)
      have HB6 : Hid (Below w5.heap.size w5 V) := by subst hV; exact Lib.hid (bw_alloc (Below.refl _ _) _)
      rw [← hV]
      have HI6 := Lib.hid (blk_call HI5.out HB6.out)
      have HR6 := Lib.hid ((HR5.out.below HB6.out).base (bw_size HBK0.out))
      have HV6 : Hid (Below w2.heap.size w2 V) := Lib.hid (bw_call HB5.out HB6.out)
      have HGT : Hid (w2.heap.size ≤ w5.heap.size) := Lib.hid HB5.out.size
      have HNI : Hid (gi ≠ w5.heap.size) := Lib.hid (fun e => by have := HI5.out.lt; omega)
      generalize w5.heap.size = gt at *
      clear hV HR5 HI5 HB6 HB5 c0 c1
      have HY := Lib.hid ((HBY.out.below HB2.out).more HB2.out.size)
      go_loopw [49] (fun iv wr => ∃ (j : Nat) (M : List Int) (U : List Tri), j ≤ L.length ∧ iv = .int .i64 j ∧ M.length = k ∧ U.length = T.length ∧ Hid (M.Perm ((List.range k).map fun i : Nat => (i : Int))) ∧ Hid (U.Perm T) ∧ Hid (Blk wr gi 3 (ints M)) ∧ Hid (Blk wr gt 24 #[.int .i64 (k : Int), .slice A5 T.length c5]) ∧ Hid (LRow wr w2.heap.size A5 c5 U) ∧ Hid (Below w2.heap.size w2 wr)) (fun iv _ => L.length - (intOf iv).toNat)
      case atStart => exact ⟨0, _, T, by omega, rfl, by simp, rfl, Lib.hid (List.Perm.refl _), Lib.hid (List.Perm.refl _), HI6, HT6, HR6, HV6⟩
      case round =>
        obtain ⟨j, M, U, hj, rfl, hM, hU, HPM, HPU, HIJ, HTJ, HRJ, HBJ⟩ := hrel
        by_cases hjt : j < L.length
        · obtain ⟨ab, vb, rfl, hab, hvb, hcb⟩ := (HY.out.below HBJ.out).at_ hjt
          have hjti : (j : Int) < (L.length : Int) := by omega
          have hj0 : (0 : Int) ≤ (j : Int) := by omega
          have hvb' : vb = .int .u8 (L[j].toNat : Int) := by
            have : (B8 L)[j]? = some (.int .u8 (L[j].toNat : Int)) := by simp [B8, hjt]
            rw [this] at hvb
            injection hvb with hvb
            exact hvb.symm
          subst hvb'
          have hbb : L[j].toNat < 256 := UInt8.toNat_lt _
          generalize L[j].toNat = bb at hcb hbb hvb
          go_upto_if 54 with (fail)
          go_cut [] (fun wx => ∃ M' : List Int, M'.length = k ∧ Hid (M'.Perm ((List.range k).map fun i : Nat => (i : Int))) ∧ Hid (Blk wx gi 3 (ints M')) ∧ Hid (Blk wx gt 24 #[.int .i64 (k : Int), .slice A5 T.length c5]) ∧ Hid (LRow wx w2.heap.size A5 c5 U) ∧ Hid (Below w2.heap.size w2 wx))
          case first =>
            by_cases hk0 : 0 < k
            · have hk0i : (0 : Int) < (k : Int) := by omega
              have hkz : ((k : Int) == 0) = false := by simp; omega
              go_wp2_with fail
              go_quiet (fail)
              obtain ⟨p, hp, hpk⟩ : ∃ p : Nat, (j : Int) % (k : Int) = (p : Int) ∧ p < k := ⟨j % k, by simp, Nat.mod_lt _ hk0⟩
              obtain ⟨q, hq, hqk⟩ : ∃ q : Nat, (bb : Int) % (k : Int) = (q : Int) ∧ q < k := ⟨bb % k, by simp, Nat.mod_lt _ hk0⟩
              rw [hp, hq]
              obtain ⟨w6, hw6⟩ : ∃ w6 : World, w6 = wr.drewN nq := ⟨_, rfl⟩
              have HI6 : Hid (Blk w6 gi 3 (ints M)) := by subst hw6; exact Lib.hid (HIJ.out.drewN _)
              have HT6 : Hid (Blk w6 gt 24 #[.int .i64 (k : Int), .slice A5 T.length c5]) := by subst hw6; exact Lib.hid (HTJ.out.drewN _)
              have HR6 : Hid (LRow w6 w2.heap.size A5 c5 U) := by subst hw6; exact Lib.hid (HRJ.out.drewN _)
              have HB6 : Hid (Below w2.heap.size w2 w6) := by subst hw6; exact Lib.hid (below_drewN HBJ.out _)
              rw [← hw6]
              clear hw6 hp hq hcb HIJ HTJ HRJ HBJ
              have hp0 : (0 : Int) ≤ (p : Int) := by omega
              have hp1 : (p : Int) < (k : Int) := by omega
              have hq0 : (0 : Int) ≤ (q : Int) := by omega
              have hq1 : (q : Int) < (k : Int) := by omega
              have a0 := ints_cell HI6.out (k := p) (by omega)
              have a1 := ints_cell HI6.out (k := q) (by omega)
              have a2 := HI6.out.frozen p
              have a3 := HI6.out.frozen q
              have HSW := Lib.hid (swap_perm M (p := p) (q := q) (by omega) (by omega))
              have HX := Lib.hid (show M[p]? = some (M.getD p 0) by rw [List.getD_eq_getElem?_getD, List.getElem?_eq_getElem (by omega)]; rfl)
              have HY2 := Lib.hid (show M[q]? = some (M.getD q 0) by rw [List.getD_eq_getElem?_getD, List.getElem?_eq_getElem (by omega)]; rfl)
              generalize M.getD p 0 = x at *
              generalize M.getD q 0 = y at *
              go_wp2_with fail
              go_quiet (fail)
              obtain ⟨w7, hw7⟩ : ∃ w7 : World, w7 = w6.drewN nq := ⟨_, rfl⟩
              have HI7 : Hid (Blk w7 gi 3 (ints M)) := by subst hw7; exact Lib.hid (HI6.out.drewN _)
              have HT7 : Hid (Blk w7 gt 24 #[.int .i64 (k : Int), .slice A5 T.length c5]) := by subst hw7; exact Lib.hid (HT6.out.drewN _)
              have HR7 : Hid (LRow w7 w2.heap.size A5 c5 U) := by subst hw7; exact Lib.hid (HR6.out.drewN _)
              have HB7 : Hid (Below w2.heap.size w2 w7) := by subst hw7; exact Lib.hid (below_drewN HB6.out _)
              rw [← hw7]
              clear hw7 a0 a1 a2 a3 HI6 HT6 HR6 HB6
              have a0 : w7.cell? ⟨gi, p, none⟩ = some (.int .i64 x) := by
                rw [HI7.out.cell]
                exact ints_at HX.out
              have a1 : w7.cell? ⟨gi, q, none⟩ = some (.int .i64 y) := by
                rw [HI7.out.cell]
                exact ints_at HY2.out
              have a2 := HI7.out.frozen p
              have a3 := HI7.out.frozen q
              by_cases hpq : p = q
              · subst hpq
                go_wp2_with fail
                go_meet
                exact ⟨(M.set p y).set p x, by simp [hM], Lib.hid (HSW.out.trans HPM.out), Lib.hid (by rw [← ints_set, ← ints_set]; exact (HI7.out.set_ p _).set_ p _), Lib.hid ((HT7.out.far (by exact HNI.out.symm) _).far (by exact HNI.out.symm) _), Lib.hid ((HR7.out.setInt HI7.out _).setInt (HI7.out.set_ p _) _), Lib.hid (bw_set (bw_set HB7.out HGI.out _) HGI.out _)⟩
              · have hqp : ¬ q = p := fun e => hpq e.symm
                go_wp2_with fail
                go_meet
                exact ⟨(M.set p y).set q x, by simp [hM], Lib.hid (HSW.out.trans HPM.out), Lib.hid (by rw [← ints_set, ← ints_set]; exact (HI7.out.set_ p _).set_ q _), Lib.hid ((HT7.out.far (by exact HNI.out.symm) _).far (by exact HNI.out.symm) _), Lib.hid ((HR7.out.setInt HI7.out _).setInt (HI7.out.set_ p _) _), Lib.hid (bw_set (bw_set HB7.out HGI.out _) HGI.out _)⟩
            · obtain rfl : k = 0 := by omega
              go_wp2_with fail
              go_meet
              exact ⟨M, hM, HPM, HIJ, HTJ, HRJ, HBJ⟩
          case rest =>
            obtain ⟨M', hM', HPM', HI8, HT8, HR8, HB8⟩ := hcut
            obtain ⟨w8, hw8⟩ : ∃ w8 : World, w8 = wc := ⟨_, rfl⟩
            rw [← hw8] at HI8 HT8 HR8 HB8 ⊢
            clear hw8 HIJ HTJ HRJ HBJ hM HPM hcb
            obtain ⟨c0, c1, c2, c3, _⟩ := soup_facts HT8.out
            by_cases hT0 : T = []
            · have hTl : T.length = 0 := by rw [hT0]; rfl
              rw [hTl] at c1
              go_wp2_with fail
              exact ⟨⟨j + 1, M', U, by omega, by go_num, hM', hU, HPM', HPU, HI8, HT8, HR8, HB8⟩, by simp [intOf]; omega⟩
            have hpos : 0 < T.length := List.length_pos_iff.2 hT0
            have hposi : (0 : Int) < (T.length : Int) := by omega
            have hlz : (((T.length : Int)) == 0) = false := by simp; exact hT0
            obtain ⟨ab', vb', hab', _, hvb', hcb'⟩ := (HY.out.below HB8.out).at_ hjt
            injection hab' with hab'
            subst hab'
            have hvb2 : vb' = .int .u8 (bb : Int) := by
              have := hvb.symm.trans hvb'
              injection this with this
              exact this.symm
            subst hvb2
            go_wp2_with fail
            go_quiet (fail)
            obtain ⟨p, hp, hpk⟩ : ∃ p : Nat, (j : Int) % (T.length : Int) = (p : Int) ∧ p < T.length := ⟨j % T.length, by simp, Nat.mod_lt _ hpos⟩
            obtain ⟨q, hq, hqk⟩ : ∃ q : Nat, (bb : Int) % (T.length : Int) = (q : Int) ∧ q < T.length := ⟨bb % T.length, by simp, Nat.mod_lt _ hpos⟩
            rw [hp, hq]
            obtain ⟨w9, hw9⟩ : ∃ w9 : World, w9 = w8.drewN nq := ⟨_, rfl⟩
            have HI9 : Hid (Blk w9 gi 3 (ints M')) := by subst hw9; exact Lib.hid (HI8.out.drewN _)
            have HT9 : Hid (Blk w9 gt 24 #[.int .i64 (k : Int), .slice A5 T.length c5]) := by subst hw9; exact Lib.hid (HT8.out.drewN _)
            have HR9 : Hid (LRow w9 w2.heap.size A5 c5 U) := by subst hw9; exact Lib.hid (HR8.out.drewN _)
            have HB9 : Hid (Below w2.heap.size w2 w9) := by subst hw9; exact Lib.hid (below_drewN HB8.out _)
            rw [← hw9]
            clear hw9 hp hq hcb' HI8 HT8 HR8 HB8 c0 c1 c2 c3 hvb hvb' hab
            have hp0 : (0 : Int) ≤ (p : Int) := by omega
            have hp1 : (p : Int) < (T.length : Int) := by omega
            have hq0 : (0 : Int) ≤ (q : Int) := by omega
            have hq1 : (q : Int) < (T.length : Int) := by omega
            obtain ⟨bt, rfl, hbt, hbt2, ⟨x0, x1, x2⟩, ft⟩ := row_cells HR9.out (tri_at (show p < U.length by omega))
            obtain ⟨bt', hbt', _, _, ⟨y0, y1, y2⟩, _⟩ := row_cells HR9.out (tri_at (show q < U.length by omega))
            injection hbt' with hbt'
            injection hbt' with hbt' _ _
            subst hbt'
            obtain ⟨c0, c1, c2, c3, _⟩ := soup_facts HT9.out
            generalize hxx : tri U p = tx at *
            generalize hyy : tri U q = ty at *
            go_wp2_with fail
            have hgt9 := HT9.out.lt
            have HB0 := Lib.hid (Below.refl w9.heap.size w9)
            have HS : Hid (∀ w', Below w9.heap.size w9 w' → w'.cell? ⟨gt, 1, none⟩ = some (.slice (some ⟨bt, 0, none⟩) T.length c5) ∧ w'.cell? ⟨bt, p * 3, none⟩ = some (.int .i64 tx.a) ∧ w'.cell? ⟨bt, p * 3 + 1, none⟩ = some (.int .i64 tx.b) ∧ w'.cell? ⟨bt, p * 3 + 2, none⟩ = some (.int .i64 tx.c) ∧ w'.cell? ⟨bt, q * 3, none⟩ = some (.int .i64 ty.a) ∧ w'.cell? ⟨bt, q * 3 + 1, none⟩ = some (.int .i64 ty.b) ∧ w'.cell? ⟨bt, q * 3 + 2, none⟩ = some (.int .i64 ty.c) ∧ Below w9.heap.size w9 w') :=
              Lib.hid fun w' h => ⟨(h.cell (p := ⟨gt, 1, none⟩) hgt9).trans c1, (h.cell (p := ⟨bt, _, none⟩) hbt2).trans x0, (h.cell (p := ⟨bt, _, none⟩) hbt2).trans x1, (h.cell (p := ⟨bt, _, none⟩) hbt2).trans x2, (h.cell (p := ⟨bt, _, none⟩) hbt2).trans y0, (h.cell (p := ⟨bt, _, none⟩) hbt2).trans y1, (h.cell (p := ⟨bt, _, none⟩) hbt2).trans y2, h⟩
            have HBO : Hid (∀ w', (w'.cell? ⟨gt, 1, none⟩ = some (.slice (some ⟨bt, 0, none⟩) T.length c5) ∧ w'.cell? ⟨bt, p * 3, none⟩ = some (.int .i64 tx.a) ∧ w'.cell? ⟨bt, p * 3 + 1, none⟩ = some (.int .i64 tx.b) ∧ w'.cell? ⟨bt, p * 3 + 2, none⟩ = some (.int .i64 tx.c) ∧ w'.cell? ⟨bt, q * 3, none⟩ = some (.int .i64 ty.a) ∧ w'.cell? ⟨bt, q * 3 + 1, none⟩ = some (.int .i64 ty.b) ∧ w'.cell? ⟨bt, q * 3 + 2, none⟩ = some (.int .i64 ty.c) ∧ Below w9.heap.size w9 w') → Below w9.heap.size w9 w') := Lib.hid fun w' h => h.2.2.2.2.2.2.2
            go_cut [15, 16] (fun pa pb wx => ∃ ga gb, pa = .pointer (some ⟨ga, 0, none⟩) ∧ pb = .pointer (some ⟨gb, 0, none⟩) ∧ Hid (Blk wx ga 30 #[.int .i64 tx.a, .int .i64 tx.b, .int .i64 tx.c]) ∧ Hid (Blk wx gb 30 #[.int .i64 ty.a, .int .i64 ty.b, .int .i64 ty.c]) ∧ Hid (Below w9.heap.size w9 wx) ∧ Hid (w9.heap.size ≤ ga ∧ w9.heap.size ≤ gb))
            case first =>
              go_region_held3 (fun w' => w'.cell? ⟨gt, 1, none⟩ = some (.slice (some ⟨bt, 0, none⟩) T.length c5) ∧ w'.cell? ⟨bt, p * 3, none⟩ = some (.int .i64 tx.a) ∧ w'.cell? ⟨bt, p * 3 + 1, none⟩ = some (.int .i64 tx.b) ∧ w'.cell? ⟨bt, p * 3 + 2, none⟩ = some (.int .i64 tx.c) ∧ w'.cell? ⟨bt, q * 3, none⟩ = some (.int .i64 ty.a) ∧ w'.cell? ⟨bt, q * 3 + 1, none⟩ = some (.int .i64 ty.b) ∧ w'.cell? ⟨bt, q * 3 + 2, none⟩ = some (.int .i64 ty.c) ∧ Below w9.heap.size w9 w')
                ((refine HS.out _ ?_; repeat (first | exact HB0.out | refine bw_alloc ?_ _ | refine bw_drew ?_ | refine bw_set ?_ (by first | exact Nat.le_refl _ | exact Nat.le_succ _) _ | exact HBO.out _ (by assumption))))
                (fail)
              all_goals (go_wp2_with fail; go_meet)
              all_goals exact ⟨_, _, rfl, rfl, Lib.hid (by first | exact (blk_new1 _ _ _ _).drew | exact ((Blk.new _ _ _).alloc _).drew), Lib.hid (by first | exact (blk_new1 _ _ _ _).drew | exact ((Blk.new _ _ _).alloc _).drew), Lib.hid (HBO.out _ (by assumption)), Lib.hid ⟨by omega, by omega⟩⟩
            case rest =>
              obtain ⟨ga, gb, rfl, rfl, HGA, HGB, HB10, HGE⟩ := hcut
              obtain ⟨w10, hw10⟩ : ∃ w10 : World, w10 = wc := ⟨_, rfl⟩
              rw [← hw10] at HGA HGB HB10 ⊢
              have HI10 := Lib.hid (blk_call HI9.out HB10.out)
              have HT10 := Lib.hid (blk_call HT9.out HB10.out)
              have HR10 := Lib.hid (HR9.out.below HB10.out)
              have HB11 := Lib.hid (bw_call HB9.out HB10.out)
              clear hw10 HS HBO HB0 x0 x1 x2 y0 y1 y2 ft c0 c1 c2 c3 HI9 HT9 HR9
              obtain ⟨c0, c1, c2, c3, _⟩ := soup_facts HT10.out
              have a0 := HGA.out.cell 0
              have a1 := HGA.out.cell 1
              have a2 := HGA.out.cell 2
              have b0 := HGB.out.cell 0
              have b1 := HGB.out.cell 1
              have b2 := HGB.out.cell 2
              simp at a0 a1 a2 b0 b1 b2
              go_wp2_with fail
              obtain ⟨bt1, hb1, _, _, ⟨x0, x1, x2⟩, ft⟩ := row_cells HR10.out (tri_at (show p < U.length by omega))
              injection hb1 with hb1
              injection hb1 with hb1 _ _
              subst hb1
              obtain ⟨bt2, hb2, _, _, ⟨y0, y1, y2⟩, _⟩ := row_cells HR10.out (tri_at (show q < U.length by omega))
              injection hb2 with hb2
              injection hb2 with hb2 _ _
              subst hb2
              rw [hxx] at x0 x1 x2
              rw [hyy] at y0 y1 y2
              have ftp0 := ft (p * 3)
              have ftp1 := ft (p * 3 + 1)
              have ftp2 := ft (p * 3 + 2)
              have ftq0 := ft (q * 3)
              have ftq1 := ft (q * 3 + 1)
              have ftq2 := ft (q * 3 + 2)
              clear ft
              have hgtb : gt ≠ bt := (soup_tri_ne HR10.out HT10.out bt rfl).symm
              have hgab : ga ≠ bt := by have := HGE.out; omega
              have hgbb : gb ≠ bt := by have := HGE.out; omega
              have HKB := Lib.hid (KeepB.refl bt w10)
              have HS : Hid (∀ w', KeepB bt w10 w' → w'.cell? ⟨gt, 1, none⟩ = some (.slice (some ⟨bt, 0, none⟩) T.length c5) ∧ w'.cell? ⟨ga, 0, none⟩ = some (.int .i64 tx.a) ∧ w'.cell? ⟨ga, 1, none⟩ = some (.int .i64 tx.b) ∧ w'.cell? ⟨ga, 2, none⟩ = some (.int .i64 tx.c) ∧ w'.cell? ⟨gb, 0, none⟩ = some (.int .i64 ty.a) ∧ w'.cell? ⟨gb, 1, none⟩ = some (.int .i64 ty.b) ∧ w'.cell? ⟨gb, 2, none⟩ = some (.int .i64 ty.c) ∧ KeepB bt w10 w') :=
                Lib.hid fun w' h => ⟨(h.get hgtb).trans c1, (h.get hgab).trans a0, (h.get hgab).trans a1, (h.get hgab).trans a2, (h.get hgbb).trans b0, (h.get hgbb).trans b1, (h.get hgbb).trans b2, h⟩
              have HBO : Hid (∀ w', (w'.cell? ⟨gt, 1, none⟩ = some (.slice (some ⟨bt, 0, none⟩) T.length c5) ∧ w'.cell? ⟨ga, 0, none⟩ = some (.int .i64 tx.a) ∧ w'.cell? ⟨ga, 1, none⟩ = some (.int .i64 tx.b) ∧ w'.cell? ⟨ga, 2, none⟩ = some (.int .i64 tx.c) ∧ w'.cell? ⟨gb, 0, none⟩ = some (.int .i64 ty.a) ∧ w'.cell? ⟨gb, 1, none⟩ = some (.int .i64 ty.b) ∧ w'.cell? ⟨gb, 2, none⟩ = some (.int .i64 ty.c) ∧ KeepB bt w10 w') → KeepB bt w10 w') := Lib.hid fun w' h => h.2.2.2.2.2.2.2
              clear a0 a1 a2 b0 b1 b2 c0 c2 c3
              have hgi : gi ≠ bt := (int_tri_ne HR10.out HI10.out bt rfl).symm
              have HSWT := Lib.hid (swap_tri U (p := p) (q := q) (by omega) (by omega))
              rw [hxx, hyy] at HSWT
              by_cases hpq : p = q
              · subst hpq
                go_region_held3 (fun w' => w'.cell? ⟨gt, 1, none⟩ = some (.slice (some ⟨bt, 0, none⟩) T.length c5) ∧ w'.cell? ⟨ga, 0, none⟩ = some (.int .i64 tx.a) ∧ w'.cell? ⟨ga, 1, none⟩ = some (.int .i64 tx.b) ∧ w'.cell? ⟨ga, 2, none⟩ = some (.int .i64 tx.c) ∧ w'.cell? ⟨gb, 0, none⟩ = some (.int .i64 ty.a) ∧ w'.cell? ⟨gb, 1, none⟩ = some (.int .i64 ty.b) ∧ w'.cell? ⟨gb, 2, none⟩ = some (.int .i64 ty.c) ∧ KeepB bt w10 w')
                  ((refine HS.out _ ?_; repeat (first | exact HKB.out | refine KeepB.set ?_ _ | refine KeepB.drew ?_ | exact HBO.out _ (by assumption))))
                  (fail)
                all_goals go_wp2_with fail
                all_goals exact ⟨⟨j + 1, M', (U.set p ty).set p tx, by omega, by go_num, hM', by simp [hU], HPM', Lib.hid (HSWT.out.trans HPU.out), Lib.hid (((HI10.out.far3 hgi p ty).far3 hgi p tx).drew), Lib.hid (((HT10.out.far3 hgtb p ty).far3 hgtb p tx).drew), Lib.hid (((HR10.out.set_ p ty).set_ p tx).drew), Lib.hid (bw_drew (set3_below (set3_below HB11.out hbt _ _) hbt _ _))⟩, by simp [intOf]; omega⟩
              · have hqp : ¬ q = p := fun e => hpq e.symm
                have n00 : ¬ q * 3 = p * 3 := by omega
                have m00 : ¬ p * 3 = q * 3 := by omega
                have n01 : ¬ q * 3 = p * 3+ 1 := by omega
                have m01 : ¬ p * 3+ 1 = q * 3 := by omega
                have n02 : ¬ q * 3 = p * 3+ 2 := by omega
                have m02 : ¬ p * 3+ 2 = q * 3 := by omega
                have n10 : ¬ q * 3+ 1 = p * 3 := by omega
                have m10 : ¬ p * 3 = q * 3+ 1 := by omega
                have n11 : ¬ q * 3+ 1 = p * 3+ 1 := by omega
                have m11 : ¬ p * 3+ 1 = q * 3+ 1 := by omega
                have n12 : ¬ q * 3+ 1 = p * 3+ 2 := by omega
                have m12 : ¬ p * 3+ 2 = q * 3+ 1 := by omega
                have n20 : ¬ q * 3+ 2 = p * 3 := by omega
                have m20 : ¬ p * 3 = q * 3+ 2 := by omega
                have n21 : ¬ q * 3+ 2 = p * 3+ 1 := by omega
                have m21 : ¬ p * 3+ 1 = q * 3+ 2 := by omega
                have n22 : ¬ q * 3+ 2 = p * 3+ 2 := by omega
                have m22 : ¬ p * 3+ 2 = q * 3+ 2 := by omega
                go_region_held3 (fun w' => w'.cell? ⟨gt, 1, none⟩ = some (.slice (some ⟨bt, 0, none⟩) T.length c5) ∧ w'.cell? ⟨ga, 0, none⟩ = some (.int .i64 tx.a) ∧ w'.cell? ⟨ga, 1, none⟩ = some (.int .i64 tx.b) ∧ w'.cell? ⟨ga, 2, none⟩ = some (.int .i64 tx.c) ∧ w'.cell? ⟨gb, 0, none⟩ = some (.int .i64 ty.a) ∧ w'.cell? ⟨gb, 1, none⟩ = some (.int .i64 ty.b) ∧ w'.cell? ⟨gb, 2, none⟩ = some (.int .i64 ty.c) ∧ KeepB bt w10 w')
                  ((refine HS.out _ ?_; repeat (first | exact HKB.out | refine KeepB.set ?_ _ | refine KeepB.drew ?_ | exact HBO.out _ (by assumption))))
                  (fail)
                all_goals go_wp2_with fail
                all_goals exact ⟨⟨j + 1, M', (U.set p ty).set q tx, by omega, by go_num, hM', by simp [hU], HPM', Lib.hid (HSWT.out.trans HPU.out), Lib.hid (((HI10.out.far3 hgi p ty).far3 hgi q tx).drew), Lib.hid (((HT10.out.far3 hgtb p ty).far3 hgtb q tx).drew), Lib.hid (((HR10.out.set_ p ty).set_ q tx).drew), Lib.hid (bw_drew (set3_below (set3_below HB11.out hbt _ _) hbt _ _))⟩, by simp [intOf]; omega⟩
        · obtain rfl : j = L.length := by omega
          obtain ⟨w6, hw6⟩ : ∃ w6 : World, w6 = wr := ⟨_, rfl⟩
          rw [← hw6] at HIJ HTJ HRJ HBJ ⊢
          clear hw6 HI6 HT6 HR6 HV6 HBK0
          obtain ⟨c0, c1, c2, c3, _⟩ := soup_facts HTJ.out
          go_wp2_with fail
          go_loopw [125] (fun iv wr => ∃ (i : Nat) (X : List Tri), i ≤ T.length ∧ iv = .int .i64 i ∧ X.length = T.length ∧ Hid (∀ j, j < T.length → tri X j = if j < i then mapT (renB M k) (tri U j) else tri U j) ∧ Hid (Blk wr gi 3 (ints M)) ∧ Hid (Blk wr gt 24 #[.int .i64 (k : Int), .slice A5 T.length c5]) ∧ Hid (LRow wr w2.heap.size A5 c5 X) ∧ Hid (Below w2.heap.size w2 wr)) (fun iv _ => T.length - (intOf iv).toNat)
          case atStart => exact ⟨0, U, by omega, rfl, hU, Lib.hid (fun j _ => by rw [if_neg (by omega)]), HIJ, HTJ, HRJ, HBJ⟩
          case round =>
            obtain ⟨i, X, hi, rfl, hX, HXX, HIX, HTX, HRX, HBX⟩ := hrel
            obtain ⟨c0, c1, c2, c3, _⟩ := soup_facts HTX.out
            by_cases hit : i < T.length
            · have hi0 : (0 : Int) ≤ (i : Int) := by omega
              have hi1 : (i : Int) < (T.length : Int) := by omega
              go_wp2_with fail
              go_loopw [128] (fun kv wm => ∃ (q : Nat) (Y : List Tri), q ≤ 3 ∧ kv = .int .i64 q ∧ Y.length = T.length ∧ Hid (∀ j, j < T.length → j ≠ i → tri Y j = tri X j) ∧ Hid (tri Y i = pmT (renB M k) q (tri X i)) ∧ Hid (Blk wm gi 3 (ints M)) ∧ Hid (Blk wm gt 24 #[.int .i64 (k : Int), .slice A5 T.length c5]) ∧ Hid (LRow wm w2.heap.size A5 c5 Y) ∧ Hid (Below w2.heap.size w2 wm)) (fun kv _ => 3 - (intOf kv).toNat)
              case atStart => exact ⟨0, X, by omega, rfl, hX, Lib.hid (fun _ _ _ => rfl), Lib.hid rfl, HIX, HTX, HRX, HBX⟩
              case round =>
                obtain ⟨q, Y, hq, hkv, hY, HYO, HYI, HIM, HTM, HRM, HBM⟩ := hrel
                obtain ⟨wm, hwm⟩ : ∃ wm : World, wm = wr := ⟨_, rfl⟩
                rw [← hwm] at HIM HTM HRM HBM ⊢
                clear hwm HIX HTX HRX HBX c0 c1 c2 c3 HIJ HTJ HRJ HBJ
                obtain ⟨c0, c1, c2, c3, _⟩ := soup_facts HTM.out
                obtain ⟨s0, s1, _, _, sl⟩ := soup_facts (H2.out.below HBM.out HG2.out)
                obtain ⟨bt, rfl, hbt, hbt2, ⟨x0, x1, x2⟩, ft⟩ := row_cells HRM.out (tri_at (show i < Y.length by omega))
                have hgtb : gt ≠ bt := (soup_tri_ne HRM.out HTM.out bt rfl).symm
                have hgi : gi ≠ bt := (int_tri_ne HRM.out HIM.out bt rfl).symm
                rcases (by omega : q = 0 ∨ q = 1 ∨ q = 2 ∨ q = 3) with rfl | rfl | rfl | rfl
                · have hkv' : _ = Value.int .i64 0 := hkv
                  subst hkv'
                  clear hkv
                  have HST := Lib.hid (fun v => HRM.out.set1 (show i < Y.length by omega) (show 0 < 3 by omega) v)
                  have fts := ft (i * 3)
                  clear ft
                  have HV := Lib.hid (show tri Y i = pmT (renB M k) 0 (tri X i) from HYI.out)
                  have hva : (tri Y i).a = (tri X i).a := by rw [HV.out]; simp [pmT]
                  generalize hvv : (tri Y i).a = v at *
                  have HVA := Lib.hid hva
                  clear hva hvv
                  by_cases hv0 : 0 ≤ v
                  · by_cases hv1 : v < (k : Int)
                    · obtain ⟨vn, rfl⟩ := Int.eq_ofNat_of_zero_le hv0
                      have a0 := ints_cell HIM.out (k := vn) (by omega)
                      have HRN : Hid (renB M k (vn : Int) = M.getD vn 0) := Lib.hid (by unfold renB; rw [if_pos ⟨hv0, hv1⟩]; rfl)
                      generalize M.getD vn 0 = y at a0 HRN
                      have HKB := Lib.hid (KeepB.refl bt wm)
                      have HS : Hid (∀ w', KeepB bt wm w' → w'.cell? ⟨gt, 1, none⟩ = some (.slice (some ⟨bt, 0, none⟩) T.length c5) ∧ w'.cell? ⟨gi, vn, none⟩ = some (.int .i64 y) ∧ KeepB bt wm w') := Lib.hid fun w' h => ⟨(h.get hgtb).trans c1, (h.get hgi).trans a0, h⟩
                      have HBO : Hid (∀ w', (w'.cell? ⟨gt, 1, none⟩ = some (.slice (some ⟨bt, 0, none⟩) T.length c5) ∧ w'.cell? ⟨gi, vn, none⟩ = some (.int .i64 y) ∧ KeepB bt wm w') → KeepB bt wm w') := Lib.hid fun w' h => h.2.2
                      go_wp2_with fail
                      go_region_held3 (fun w' => w'.cell? ⟨gt, 1, none⟩ = some (.slice (some ⟨bt, 0, none⟩) T.length c5) ∧ w'.cell? ⟨gi, vn, none⟩ = some (.int .i64 y) ∧ KeepB bt wm w')
                        ((refine HS.out _ ?_; repeat (first | exact HKB.out | refine KeepB.set ?_ _ | refine KeepB.drew ?_ | exact HBO.out _ (by assumption))))
                        (fail)
                      all_goals go_wp2_with fail
                      all_goals refine ⟨⟨1, Y.set i (putT 0 y (tri Y i)), by omega, by go_num, by simp [hY], Lib.hid (fun j hj hji => ?_), Lib.hid ?_, Lib.hid ((HIM.out.far hgi _).drew), Lib.hid ((HTM.out.far hgtb _).drew), Lib.hid ((HST.out y).drew), Lib.hid (bw_drew (bw_set HBM.out hbt _))⟩, by simp [intOf]⟩
                      all_goals first
                        | (rw [tri_set_ne _ _ hji]; exact HYO.out j hj hji)
                        | (rw [tri_set_same _ _ (by omega), HV.out]; have hy := HRN.out; rw [HVA.out] at hy; simp [putT, pmT, hy])
                    · go_wp2_with fail
                      refine ⟨⟨1, Y, by omega, by go_num, hY, HYO, Lib.hid ?_, HIM, HTM, HRM, HBM⟩, by simp [intOf]⟩
                      rw [HV.out]
                      have hr : renB M k (tri X i).a = (tri X i).a := by have hva := HVA.out; unfold renB; rw [if_neg (by omega)]
                      simp [pmT, hr]
                  · go_wp2_with fail
                    refine ⟨⟨1, Y, by omega, by go_num, hY, HYO, Lib.hid ?_, HIM, HTM, HRM, HBM⟩, by simp [intOf]⟩
                    rw [HV.out]
                    have hr : renB M k (tri X i).a = (tri X i).a := by have hva := HVA.out; unfold renB; rw [if_neg (by omega)]
                    simp [pmT, hr]
                · have hkv' : _ = Value.int .i64 1 := hkv
                  subst hkv'
                  clear hkv
                  have HST := Lib.hid (fun v => HRM.out.set1 (show i < Y.length by omega) (show 1 < 3 by omega) v)
                  have fts := ft (i * 3 + 1)
                  clear ft
                  have HV := Lib.hid (show tri Y i = pmT (renB M k) 1 (tri X i) from HYI.out)
                  have hva : (tri Y i).b = (tri X i).b := by rw [HV.out]; simp [pmT]
                  generalize hvv : (tri Y i).b = v at *
                  have HVA := Lib.hid hva
                  clear hva hvv
                  by_cases hv0 : 0 ≤ v
                  · by_cases hv1 : v < (k : Int)
                    · obtain ⟨vn, rfl⟩ := Int.eq_ofNat_of_zero_le hv0
                      have a0 := ints_cell HIM.out (k := vn) (by omega)
                      have HRN : Hid (renB M k (vn : Int) = M.getD vn 0) := Lib.hid (by unfold renB; rw [if_pos ⟨hv0, hv1⟩]; rfl)
                      generalize M.getD vn 0 = y at a0 HRN
                      have HKB := Lib.hid (KeepB.refl bt wm)
                      have HS : Hid (∀ w', KeepB bt wm w' → w'.cell? ⟨gt, 1, none⟩ = some (.slice (some ⟨bt, 0, none⟩) T.length c5) ∧ w'.cell? ⟨gi, vn, none⟩ = some (.int .i64 y) ∧ KeepB bt wm w') := Lib.hid fun w' h => ⟨(h.get hgtb).trans c1, (h.get hgi).trans a0, h⟩
                      have HBO : Hid (∀ w', (w'.cell? ⟨gt, 1, none⟩ = some (.slice (some ⟨bt, 0, none⟩) T.length c5) ∧ w'.cell? ⟨gi, vn, none⟩ = some (.int .i64 y) ∧ KeepB bt wm w') → KeepB bt wm w') := Lib.hid fun w' h => h.2.2
                      go_wp2_with fail
                      go_region_held3 (fun w' => w'.cell? ⟨gt, 1, none⟩ = some (.slice (some ⟨bt, 0, none⟩) T.length c5) ∧ w'.cell? ⟨gi, vn, none⟩ = some (.int .i64 y) ∧ KeepB bt wm w')
                        ((refine HS.out _ ?_; repeat (first | exact HKB.out | refine KeepB.set ?_ _ | refine KeepB.drew ?_ | exact HBO.out _ (by assumption))))
                        (fail)
                      all_goals go_wp2_with fail
                      all_goals refine ⟨⟨2, Y.set i (putT 1 y (tri Y i)), by omega, by go_num, by simp [hY], Lib.hid (fun j hj hji => ?_), Lib.hid ?_, Lib.hid ((HIM.out.far hgi _).drew), Lib.hid ((HTM.out.far hgtb _).drew), Lib.hid ((HST.out y).drew), Lib.hid (bw_drew (bw_set HBM.out hbt _))⟩, by simp [intOf]⟩
                      all_goals first
                        | (rw [tri_set_ne _ _ hji]; exact HYO.out j hj hji)
                        | (rw [tri_set_same _ _ (by omega), HV.out]; have hy := HRN.out; rw [HVA.out] at hy; simp [putT, pmT, hy])
                    · go_wp2_with fail
                      refine ⟨⟨2, Y, by omega, by go_num, hY, HYO, Lib.hid ?_, HIM, HTM, HRM, HBM⟩, by simp [intOf]⟩
                      rw [HV.out]
                      have hr : renB M k (tri X i).b = (tri X i).b := by have hva := HVA.out; unfold renB; rw [if_neg (by omega)]
                      simp [pmT, hr]
                  · go_wp2_with fail
                    refine ⟨⟨2, Y, by omega, by go_num, hY, HYO, Lib.hid ?_, HIM, HTM, HRM, HBM⟩, by simp [intOf]⟩
                    rw [HV.out]
                    have hr : renB M k (tri X i).b = (tri X i).b := by have hva := HVA.out; unfold renB; rw [if_neg (by omega)]
                    simp [pmT, hr]
                · have hkv' : _ = Value.int .i64 2 := hkv
                  subst hkv'
                  clear hkv
                  have HST := Lib.hid (fun v => HRM.out.set1 (show i < Y.length by omega) (show 2 < 3 by omega) v)
                  have fts := ft (i * 3 + 2)
                  clear ft
                  have HV := Lib.hid (show tri Y i = pmT (renB M k) 2 (tri X i) from HYI.out)
                  have hva : (tri Y i).c = (tri X i).c := by rw [HV.out]; simp [pmT]
                  generalize hvv : (tri Y i).c = v at *
                  have HVA := Lib.hid hva
                  clear hva hvv
                  by_cases hv0 : 0 ≤ v
                  · by_cases hv1 : v < (k : Int)
                    · obtain ⟨vn, rfl⟩ := Int.eq_ofNat_of_zero_le hv0
                      have a0 := ints_cell HIM.out (k := vn) (by omega)
                      have HRN : Hid (renB M k (vn : Int) = M.getD vn 0) := Lib.hid (by unfold renB; rw [if_pos ⟨hv0, hv1⟩]; rfl)
                      generalize M.getD vn 0 = y at a0 HRN
                      have HKB := Lib.hid (KeepB.refl bt wm)
                      have HS : Hid (∀ w', KeepB bt wm w' → w'.cell? ⟨gt, 1, none⟩ = some (.slice (some ⟨bt, 0, none⟩) T.length c5) ∧ w'.cell? ⟨gi, vn, none⟩ = some (.int .i64 y) ∧ KeepB bt wm w') := Lib.hid fun w' h => ⟨(h.get hgtb).trans c1, (h.get hgi).trans a0, h⟩
                      have HBO : Hid (∀ w', (w'.cell? ⟨gt, 1, none⟩ = some (.slice (some ⟨bt, 0, none⟩) T.length c5) ∧ w'.cell? ⟨gi, vn, none⟩ = some (.int .i64 y) ∧ KeepB bt wm w') → KeepB bt wm w') := Lib.hid fun w' h => h.2.2
                      go_wp2_with fail
                      go_region_held3 (fun w' => w'.cell? ⟨gt, 1, none⟩ = some (.slice (some ⟨bt, 0, none⟩) T.length c5) ∧ w'.cell? ⟨gi, vn, none⟩ = some (.int .i64 y) ∧ KeepB bt wm w')
                        ((refine HS.out _ ?_; repeat (first | exact HKB.out | refine KeepB.set ?_ _ | refine KeepB.drew ?_ | exact HBO.out _ (by assumption))))
                        (fail)
                      all_goals go_wp2_with fail
                      all_goals refine ⟨⟨3, Y.set i (putT 2 y (tri Y i)), by omega, by go_num, by simp [hY], Lib.hid (fun j hj hji => ?_), Lib.hid ?_, Lib.hid ((HIM.out.far hgi _).drew), Lib.hid ((HTM.out.far hgtb _).drew), Lib.hid ((HST.out y).drew), Lib.hid (bw_drew (bw_set HBM.out hbt _))⟩, by simp [intOf]⟩
                      all_goals first
                        | (rw [tri_set_ne _ _ hji]; exact HYO.out j hj hji)
                        | (rw [tri_set_same _ _ (by omega), HV.out]; have hy := HRN.out; rw [HVA.out] at hy; simp [putT, pmT, hy])
                    · go_wp2_with fail
                      refine ⟨⟨3, Y, by omega, by go_num, hY, HYO, Lib.hid ?_, HIM, HTM, HRM, HBM⟩, by simp [intOf]⟩
                      rw [HV.out]
                      have hr : renB M k (tri X i).c = (tri X i).c := by have hva := HVA.out; unfold renB; rw [if_neg (by omega)]
                      simp [pmT, hr]
                  · go_wp2_with fail
                    refine ⟨⟨3, Y, by omega, by go_num, hY, HYO, Lib.hid ?_, HIM, HTM, HRM, HBM⟩, by simp [intOf]⟩
                    rw [HV.out]
                    have hr : renB M k (tri X i).c = (tri X i).c := by have hva := HVA.out; unfold renB; rw [if_neg (by omega)]
                    simp [pmT, hr]
                · have hkv' : _ = Value.int .i64 3 := hkv
                  subst hkv'
                  clear hkv
                  go_wp2_with fail
                  refine ⟨⟨i + 1, Y, by omega, by go_num, hY, Lib.hid (fun j hj => ?_), HIM, HTM, HRM, HBM⟩, by simp [intOf]; omega⟩
                  by_cases hji : j = i
                  · subst hji
                    rw [if_pos (by omega), HYI.out, HXX.out _ hj, if_neg (by omega)]
                    simp [pmT, mapT]
                  · rw [HYO.out j hj hji, HXX.out j hj]
                    by_cases h : j < i
                    · rw [if_pos h, if_pos (by omega)]
                    · rw [if_neg h, if_neg (by omega)]
            · obtain rfl : i = T.length := by omega
              have hxl : ∀ j, j < T.length → tri X j = mapT (renB M k) (tri U j) := fun j hj => by rw [HXX.out j hj, if_pos hj]
              have hXU : X = U.map (mapT (renB M k)) := by
                refine List.ext_getElem (by simp [hX, hU]) fun j h1 h2 => ?_
                rw [List.getElem_map]
                have e1 : tri X j = X[j] := tri_of (List.getElem?_eq_getElem h1)
                have e2 : tri U j = U[j]'(by simpa using h2) := tri_of (List.getElem?_eq_getElem (by simpa using h2))
                rw [← e1, ← e2]
                exact hxl j (by omega)
              have hmany : AsMany (refAll (k : Int) T) (refAll (k : Int) X) := numbered_law (ren_list HPM.out) (by rw [hXU]; exact HPU.out.map _)
              obtain ⟨hm1, hm2⟩ := hmany
              have hm3 : (checkR (k : Int) T).1 = (checkR (k : Int) X).1 := hm2
              have HWR : Hid (Below w.heap.size w wr) := Lib.hid (HB2.out.trans (HBX.out.mono HB2.out.size))
              have HC1 : Hid (∀ w', Below wr.heap.size wr w' → Calls Try.prog 15 #[.agg #[.int .i64 (k : Int), .slice A T.length c]] w' (fun e w'' => e = .returned (.agg #[.int .i64 (checkR (k : Int) T).1, .int .i64 (checkR (k : Int) T).2.1, .int .i64 (checkR (k : Int) T).2.2]) ∧ Below w'.heap.size w' w'')) := Lib.hid fun w' h => check_any k A T.length c T w' hn1000 (tris_on h (tris_on HWR.out HT.out))
              have HA1 : Hid (∀ w', Below wr.heap.size wr w' → Calls Try.prog 14 #[.agg #[.int .i64 (k : Int), .slice A T.length c]] w' (WitPost w' (refAll (k : Int) T))) := Lib.hid fun w' h => by
                have := all_any k A T.length c T w' hn1000 (tris_on h (tris_on HWR.out HT.out))
                rwa [allL_ref] at this
              have HC2 : Hid (∀ w', Below wr.heap.size wr w' → Calls Try.prog 15 #[.agg #[.int .i64 (k : Int), .slice A5 T.length c5]] w' (fun e w'' => e = .returned (.agg #[.int .i64 (checkR (k : Int) X).1, .int .i64 (checkR (k : Int) X).2.1, .int .i64 (checkR (k : Int) X).2.2]) ∧ Below w'.heap.size w' w'')) := Lib.hid fun w' h => by
                have ht := (HRX.out.below h).tris
                rw [hX] at ht
                exact check_any k A5 T.length c5 X w' hn1000 ht
              have HA2 : Hid (∀ w', Below wr.heap.size wr w' → Calls Try.prog 14 #[.agg #[.int .i64 (k : Int), .slice A5 T.length c5]] w' (WitPost w' (refAll (k : Int) X))) := Lib.hid fun w' h => by
                have ht := (HRX.out.below h).tris
                rw [hX] at ht
                have := all_any k A5 T.length c5 X w' hn1000 ht
                rwa [allL_ref] at this
              have HM1 := Lib.hid hm1
              generalize refAll (k : Int) T = R1 at *
              generalize refAll (k : Int) X = R2 at *
              generalize checkR (k : Int) T = x at *
              generalize checkR (k : Int) X = y at *
              obtain ⟨x1, x2, x3⟩ := x
              obtain ⟨y1, y2, y3⟩ := y
              simp only at hm3
              subst hm3
              have hfld : ∀ (a b d : Int) (w : World), (Instr.field 34 (.agg #[.int .i64 a, .int .i64 b, .int .i64 d]) 0).run Try.prog w = .ok (.int .i64 a) w := fun _ _ _ _ => by kernel_rfl
              obtain ⟨s0, s1, _, _, sl⟩ := soup_facts (H2.out.below HBX.out HG2.out)
              have hgl := HTX.out.lt
              have HB0 := Lib.hid (Below.refl wr.heap.size wr)
              have HS : Hid (∀ w', Below wr.heap.size wr w' → w'.cell? ⟨g, 0, none⟩ = some (.int .i64 (k : Int)) ∧ w'.cell? ⟨g, 1, none⟩ = some (.slice A T.length c) ∧ w'.cell? ⟨gt, 0, none⟩ = some (.int .i64 (k : Int)) ∧ w'.cell? ⟨gt, 1, none⟩ = some (.slice A5 T.length c5) ∧ Below wr.heap.size wr w') :=
                Lib.hid fun w' h => ⟨(h.cell (p := ⟨g, 0, none⟩) sl).trans s0, (h.cell (p := ⟨g, 1, none⟩) sl).trans s1, (h.cell (p := ⟨gt, 0, none⟩) hgl).trans c0, (h.cell (p := ⟨gt, 1, none⟩) hgl).trans c1, h⟩
              have HBO : Hid (∀ w', (w'.cell? ⟨g, 0, none⟩ = some (.int .i64 (k : Int)) ∧ w'.cell? ⟨g, 1, none⟩ = some (.slice A T.length c) ∧ w'.cell? ⟨gt, 0, none⟩ = some (.int .i64 (k : Int)) ∧ w'.cell? ⟨gt, 1, none⟩ = some (.slice A5 T.length c5) ∧ Below wr.heap.size wr w') → Below wr.heap.size wr w') := Lib.hid fun w' h => h.2.2.2.2
              have hm1i := HM1.out
              go_wp2_with fail
              go_region_held3 (fun w' => w'.cell? ⟨g, 0, none⟩ = some (.int .i64 (k : Int)) ∧ w'.cell? ⟨g, 1, none⟩ = some (.slice A T.length c) ∧ w'.cell? ⟨gt, 0, none⟩ = some (.int .i64 (k : Int)) ∧ w'.cell? ⟨gt, 1, none⟩ = some (.slice A5 T.length c5) ∧ Below wr.heap.size wr w')
                ((refine HS.out _ ?_; repeat (first | exact HB0.out | exact bw_call (HBO.out _ (by assumption)) hc4 | exact bw_call (HBO.out _ (by assumption)) hc3 | exact bw_call (HBO.out _ (by assumption)) hc2 | exact bw_call (HBO.out _ (by assumption)) hc1 | refine bw_drew ?_ | exact HBO.out _ (by assumption))))
                (first | (go_at_call 14; have hdone := hc3; refine (HA2.out _ (HBO.out _ (by assumption))).mono ?_; rintro e v4 ⟨A8, c8, rfl, hr4, hc4⟩; have hB4 := bw_call (HBO.out _ (by assumption)) hc4) | (go_at_call 14; have hdone := hc2; refine (HA1.out _ (HBO.out _ (by assumption))).mono ?_; rintro e v3 ⟨A7, c7, rfl, hr3, hc3⟩; have hB3 := bw_call (HBO.out _ (by assumption)) hc3) | (go_at_call 15; have hdone := hc1; refine (HC2.out _ (HBO.out _ (by assumption))).mono ?_; rintro e v2 ⟨rfl, hc2⟩; have hB2 := bw_call (HBO.out _ (by assumption)) hc2) | (go_at_call 15; refine (HC1.out _ (HBO.out _ (by assumption))).mono ?_; rintro e v1 ⟨rfl, hc1⟩; have hB1 := bw_call (HBO.out _ (by assumption)) hc1))
              all_goals go_wp2_with fail
              all_goals go_ret
              all_goals exact ⟨rfl, HWR.out.trans ((HBO.out _ (by assumption)).mono HWR.out.size)⟩
end Go.Proofs.Ytnnbcflpbpafeaa
