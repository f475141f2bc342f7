/- A block that begins with the triangles of a list: read, and written. No condition. -/
import Derived.Test.YtnnbcflpbpafeaaReg
namespace Go.Proofs.Ytnnbcflpbpafeaa
open Go.RowKit

def TBlk (w : World) (g : Nat) (L : List Tri) : Prop := ∃ cs, Blk w g 30 cs ∧ ∀ i t, L[i]? = some t → cs[i * 3]? = some (.int .i64 t.a) ∧ cs[i * 3 + 1]? = some (.int .i64 t.b) ∧ cs[i * 3 + 2]? = some (.int .i64 t.c)
section
variable {w w' : World} {g : Nat} {L : List Tri}
theorem TBlk.lt (h : TBlk w g L) : g < w.heap.size := by
  obtain ⟨_, h, _⟩ := h
  exact h.lt
theorem TBlk.below {B : Nat} (h : TBlk w g L) (hb : Below B w w') (hg : g < B) : TBlk w' g L := by
  obtain ⟨cs, h, h'⟩ := h
  exact ⟨cs, h.below hb hg, h'⟩
theorem TBlk.alloc (h : TBlk w g L) (o : Obj) : TBlk (w.alloc o) g L := by
  obtain ⟨cs, h, h'⟩ := h
  exact ⟨cs, h.alloc o, h'⟩
theorem TBlk.far (h : TBlk w g L) {p : Addr} (hp : g ≠ p.block) (u : Value) : TBlk (w.setCell p u) g L := by
  obtain ⟨cs, h, h'⟩ := h
  exact ⟨cs, h.far hp u, h'⟩
theorem TBlk.frozen (h : TBlk w g L) (i : Nat) : w.frozen? ⟨g, i, none⟩ = false := by
  obtain ⟨cs, h, h'⟩ := h
  exact h.frozen i
theorem TBlk.cells (h : TBlk w g L) {i : Nat} {t : Tri} (ht : L[i]? = some t) :
    w.cell? ⟨g, i * 3, none⟩ = some (.int .i64 t.a) ∧ w.cell? ⟨g, i * 3 + 1, none⟩ = some (.int .i64 t.b) ∧ w.cell? ⟨g, i * 3 + 2, none⟩ = some (.int .i64 t.c) := by
  obtain ⟨cs, h, h'⟩ := h
  rw [h.cell, h.cell, h.cell]
  exact h' i t ht
theorem tri_at3 {L : List Tri} {j : Nat} {u : Value} (h : (L.flatMap Tri.cells)[j]? = some u) : ∃ t, L[j / 3]? = some t ∧ t.cells[j % 3]? = some u := by
  have hl := flatMap_len 3 Tri.cells (fun _ => rfl) L
  have hj : j < L.length * 3 := by rw [← hl]; exact (List.getElem?_eq_some_iff.1 h).1
  have hq : L[j / 3]? = some L[j / 3] := List.getElem?_eq_getElem (by omega)
  refine ⟨_, hq, ?_⟩
  rw [← flatMap_at 3 Tri.cells (fun _ => rfl) L (j / 3) (j % 3) _ hq (by omega), show j / 3 * 3 + j % 3 = j by omega]
  exact h
theorem TBlk.reads (h : TBlk w g L) {B : Nat} (hB : g < B) : Reads w B 3 (some ⟨g, 0, none⟩) L.length (L.flatMap Tri.cells) := by
  refine ⟨by rw [flatMap_len 3 _ (fun _ => rfl)], fun _ => ⟨_, rfl, hB, fun j u hj => ?_⟩⟩
  have e : (⟨g, 0, none⟩ : Addr).add j = ⟨g, j, none⟩ := by unfold Addr.add; split <;> simp_all
  rw [e]
  obtain ⟨t, ht, hu⟩ := tri_at3 hj
  obtain ⟨h0, h1, h2⟩ := h.cells ht
  have hr : j % 3 < 3 := Nat.mod_lt _ (by omega)
  have hjj : j = j / 3 * 3 + j % 3 := by omega
  generalize j / 3 = q at *
  generalize j % 3 = r at *
  subst hjj
  rcases (by omega : r = 0 ∨ r = 1 ∨ r = 2) with rfl | rfl | rfl
  · simpa [Tri.cells, hu] using h0.trans (by simpa [Tri.cells] using hu)
  · exact h1.trans (by simpa [Tri.cells] using hu)
  · exact h2.trans (by simpa [Tri.cells] using hu)
theorem TBlk.tris (h : TBlk w g L) : TrisAt w w.heap.size (some ⟨g, 0, none⟩) L.length L := TrisAt.mk_ (h.reads h.lt)
theorem TBlk.set (h : TBlk w g L) (i : Nat) (t : Tri) :
    TBlk (((w.setCell ⟨g, i * 3, none⟩ (.int .i64 t.a)).setCell ⟨g, i * 3 + 1, none⟩ (.int .i64 t.b)).setCell ⟨g, i * 3 + 2, none⟩ (.int .i64 t.c)) g (L.set i t) := by
  obtain ⟨cs, h, h'⟩ := h
  refine ⟨_, ((h.set_ _ _).set_ _ _).set_ _ _, fun k u hk => ?_⟩
  rw [List.getElem?_set] at hk
  by_cases e : i = k
  · subst e
    rw [if_pos rfl] at hk
    split at hk
    · rename_i hi
      injection hk with hk
      subst hk
      obtain ⟨h0, h1, h2⟩ := h' i _ (List.getElem?_eq_getElem hi)
      have h0 := (Array.getElem?_eq_some_iff.1 h0).1
      have h1 := (Array.getElem?_eq_some_iff.1 h1).1
      have h2 := (Array.getElem?_eq_some_iff.1 h2).1
      simp [h0, h1, h2]
    · cases hk
  · rw [if_neg e] at hk
    obtain ⟨h0, h1, h2⟩ := h' k u hk
    have n0 : ¬ i * 3 = k * 3 := by omega
    have n1 : ¬ i * 3 = k * 3 + 1 := by omega
    have n2 : ¬ i * 3 = k * 3 + 2 := by omega
    have n3 : ¬ i * 3 + 1 = k * 3 := by omega
    have n4 : ¬ i * 3 + 1 = k * 3 + 1 := by omega
    have n5 : ¬ i * 3 + 1 = k * 3 + 2 := by omega
    have n6 : ¬ i * 3 + 2 = k * 3 := by omega
    have n7 : ¬ i * 3 + 2 = k * 3 + 1 := by omega
    have n8 : ¬ i * 3 + 2 = k * 3 + 2 := by omega
    simp only [Array.getElem?_setIfInBounds, n0, n1, n2, n3, n4, n5, n6, n7, n8, if_false]
    exact ⟨h0, h1, h2⟩
theorem tblk_of {B : Nat} {A : Option Addr} {c : Nat} (h : LRow w B A c L) (hn : L ≠ []) : ∃ g, A = some ⟨g, 0, none⟩ ∧ B ≤ g ∧ TBlk w g L := by
  rcases h.2 with ⟨_, hc⟩ | ⟨g, cap, cur, hv, hb, hh, _, _, _, hcs⟩
  · exact absurd (List.eq_nil_of_length_eq_zero hc) hn
  · injection hv with hA _ _
    subst hA
    refine ⟨g, rfl, hb, cur, hh, fun i t ht => ?_⟩
    have hl : i < L.length := (List.getElem?_eq_some_iff.1 ht).1
    have key : ∀ r, r < 3 → cur[i * 3 + r]? = (Tri.cells t)[r]? := fun r hr => by
      rw [← flatMap_at 3 Tri.cells (fun _ => rfl) L i r t ht hr, ← hcs, List.getElem?_take_of_lt (by omega)]
      simp
    exact ⟨key 0 (by omega), key 1 (by omega), key 2 (by omega)⟩
end
/-! ### Two soups, made at once in whatever order -/
theorem blk_call {w w' : World} {g : Nat} {t : TypeId} {cs : Array Value} (h : Blk w g t cs) (hb : Below w.heap.size w w') : Blk w' g t cs := h.below hb h.lt
theorem LRow.base {w : World} {B B' : Nat} {A : Option Addr} {c : Nat} {L : List Tri} (h : LRow w B A c L) (hB : B' ≤ B) : LRow w B' A c L := by
  obtain ⟨h1, h2⟩ := h
  refine ⟨h1, ?_⟩
  rcases h2 with h2 | ⟨g, cap, cur, hv, hb, hr⟩
  · exact .inl h2
  · exact .inr ⟨g, cap, cur, hv, Nat.le_trans hB hb, hr⟩
theorem LRow.drew {w : World} {B : Nat} {A : Option Addr} {c : Nat} {L : List Tri} (h : LRow w B A c L) : LRow w.drew B A c L := h
/-- The blocks of two rows differ. -/
def RowNe (A : Option Addr) (n c : Nat) (A' : Option Addr) (n' c' : Nat) : Prop := ∀ k k', (Value.slice A n c).ownBlock = some k → (Value.slice A' n' c').ownBlock = some k' → k ≠ k'
theorem row_ne {w w' : World} {B B' : Nat} {A A' : Option Addr} {c c' : Nat} {L L' : List Tri} (h : LRow w B A c L) (h' : LRow w' B' A' c' L') (hB : w.heap.size ≤ B') : RowNe A L.length c A' L'.length c' := fun k k' hk hk' => by
  have h1 := (h.lt k hk).2
  have h2 := (h'.lt k' hk').1
  omega
structure TwoSoups (w : World) (B gt gm : Nat) (N : Value) (At Am : Option Addr) (ct cm : Nat) (T U : List Tri) : Prop where
  t : Blk w gt 24 #[N, .slice At T.length ct]
  m : Blk w gm 24 #[N, .slice Am U.length cm]
  rt : LRow w B At ct T
  rm : LRow w B Am cm U
  ne : RowNe At T.length ct Am U.length cm
  gne : gt ≠ gm
  gt : B ≤ gt
  gm : B ≤ gm
theorem two_soups {W : World} {B gt gm : Nat} {N : Value} {At Am : Option Addr} {ct cm : Nat} {T U : List Tri} {x y x' y' : Value} (h1 : Blk W gt 24 #[x, y]) (h2 : Blk W gm 24 #[x', y']) (hne : gt ≠ gm) (r1 : LRow W B At ct T) (r2 : LRow W B Am cm U) (ne : RowNe At T.length ct Am U.length cm) (g1 : B ≤ gt) (g2 : B ≤ gm) :
    TwoSoups ((((W.setCell ⟨gt, 0, none⟩ N).setCell ⟨gt, 1, none⟩ (.slice At T.length ct)).setCell ⟨gm, 0, none⟩ N).setCell ⟨gm, 1, none⟩ (.slice Am U.length cm)) B gt gm N At Am ct cm T U := by
  have a1 := soup_set h1 N (.slice At T.length ct)
  have a2 : Blk ((W.setCell ⟨gt, 0, none⟩ N).setCell ⟨gt, 1, none⟩ (.slice At T.length ct)) gm 24 #[x', y'] := (h2.far hne.symm _).far hne.symm _
  exact ⟨(a1.far hne _).far hne _, soup_set a2 _ _, (r1.soup_set h1 _ _).soup_set a2 _ _, (r2.soup_set h1 _ _).soup_set a2 _ _, ne, hne, g1, g2⟩
theorem TwoSoups.on {w w' : World} {B gt gm : Nat} {N : Value} {At Am : Option Addr} {ct cm : Nat} {T U : List Tri} (h : TwoSoups w B gt gm N At Am ct cm T U) (hb : Below w.heap.size w w') : TwoSoups w' B gt gm N At Am ct cm T U :=
  ⟨blk_call h.t hb, blk_call h.m hb, h.rt.below hb, h.rm.below hb, h.ne, h.gne, h.gt, h.gm⟩

/-! ### A row of triangles, one of them written -/
def set3 (w : World) (b i : Nat) (t : Tri) : World := ((w.setCell ⟨b, i * 3, none⟩ (.int .i64 t.a)).setCell ⟨b, i * 3 + 1, none⟩ (.int .i64 t.b)).setCell ⟨b, i * 3 + 2, none⟩ (.int .i64 t.c)
theorem set_cells_len (i : Nat) (t : Tri) (L : List Tri) : ((L.set i t).flatMap Tri.cells).length = (L.flatMap Tri.cells).length := by
  rw [flatMap_len 3 _ (fun _ => rfl), flatMap_len 3 _ (fun _ => rfl), List.length_set]
theorem LRow.set_ {w : World} {B c b : Nat} {L : List Tri} (h : LRow w B (some ⟨b, 0, none⟩) c L) (i : Nat) (t : Tri) : LRow (set3 w b i t) B (some ⟨b, 0, none⟩) c (L.set i t) := by
  obtain ⟨h1, h2⟩ := h
  refine ⟨by rw [set_cells_len, h1, List.length_set], ?_⟩
  rcases h2 with ⟨hv, _⟩ | ⟨g, cap, cur, hv, hb, hh, hn, hcap, hsz, hcs⟩
  · injection hv with hA _ _
    cases hA
  · injection hv with hA _ hc
    injection hA with hA
    injection hA with hg _ _
    subst hg hc
    have hB : Blk w b 30 cur := hh
    have hT : TBlk w b L := by
      refine ⟨cur, hB, fun i t ht => ?_⟩
      have hl : i < L.length := (List.getElem?_eq_some_iff.1 ht).1
      have key : ∀ r, r < 3 → cur[i * 3 + r]? = (Tri.cells t)[r]? := fun r hr => by
        rw [← flatMap_at 3 Tri.cells (fun _ => rfl) L i r t ht hr, ← hcs, List.getElem?_take_of_lt (by omega)]
        simp
      exact ⟨key 0 (by omega), key 1 (by omega), key 2 (by omega)⟩
    obtain ⟨cs, hb1, hb2⟩ := hT.set i t
    have hb3 := ((hB.set_ (i * 3) (.int .i64 t.a)).set_ (i * 3 + 1) (.int .i64 t.b)).set_ (i * 3 + 2) (.int .i64 t.c)
    have hcs' : cs = ((cur.setIfInBounds (i * 3) (.int .i64 t.a)).setIfInBounds (i * 3 + 1) (.int .i64 t.b)).setIfInBounds (i * 3 + 2) (.int .i64 t.c) := by
      have e : some (Obj.cells cs 30 (0, 0)) = some (Obj.cells (((cur.setIfInBounds (i * 3) (.int .i64 t.a)).setIfInBounds (i * 3 + 1) (.int .i64 t.b)).setIfInBounds (i * 3 + 2) (.int .i64 t.c)) 30 (0, 0)) := hb1.symm.trans hb3
      injection e with e
      injection e with e
    have hsz' : cs.size = cur.size := by rw [hcs']; simp
    refine .inr ⟨b, c, cs, by rw [List.length_set], hb, hb1, by rw [List.length_set]; exact hn, hcap, by rw [hsz', hsz], ?_⟩
    rw [List.length_set]
    refine List.ext_getElem? fun j => ?_
    by_cases hj : j < L.length * 3
    · rw [List.getElem?_take_of_lt hj]
      have hj' : j < ((L.set i t).flatMap Tri.cells).length := by rw [set_cells_len, flatMap_len 3 _ (fun _ => rfl)]; exact hj
      have hx : ((L.set i t).flatMap Tri.cells)[j]? = some _ := List.getElem?_eq_getElem hj'
      obtain ⟨u, hu, hr⟩ := tri_at3 hx
      obtain ⟨k0, k1, k2⟩ := hb2 _ u hu
      rw [hx, ← hr]
      have hjj : j = j / 3 * 3 + j % 3 := by omega
      have hr3 : j % 3 < 3 := Nat.mod_lt _ (by omega)
      generalize j / 3 = q at *
      generalize j % 3 = r at *
      rw [hjj]
      simp only [Array.getElem?_toList]
      rcases (by omega : r = 0 ∨ r = 1 ∨ r = 2) with rfl | rfl | rfl
      · exact k0
      · exact k1
      · exact k2
    · have e1 : (cs.toList.take (L.length * 3))[j]? = none := List.getElem?_eq_none (by rw [List.length_take]; omega)
      have e2 : ((L.set i t).flatMap Tri.cells)[j]? = none := List.getElem?_eq_none (by rw [set_cells_len, flatMap_len 3 _ (fun _ => rfl)]; omega)
      rw [e1, e2]
theorem LRow.far {w : World} {B c : Nat} {A : Option Addr} {L : List Tri} (h : LRow w B A c L) {p : Addr} (hp : ∀ k, (Value.slice A L.length c).ownBlock = some k → k ≠ p.block) (u : Value) : LRow (w.setCell p u) B A c L :=
  own_same h fun k hk => Below.heap_setCell _ _ _ _ (hp k hk)
theorem LRow.far3 {w : World} {B c : Nat} {A : Option Addr} {L : List Tri} (h : LRow w B A c L) {b : Nat} (hp : ∀ k, (Value.slice A L.length c).ownBlock = some k → k ≠ b) (i : Nat) (t : Tri) : LRow (set3 w b i t) B A c L :=
  ((h.far (p := ⟨b, i * 3, none⟩) hp _).far (p := ⟨b, i * 3 + 1, none⟩) hp _).far (p := ⟨b, i * 3 + 2, none⟩) hp _
theorem Blk.far3 {w : World} {g : Nat} {t : TypeId} {cs : Array Value} (h : Blk w g t cs) {b : Nat} (hp : g ≠ b) (i : Nat) (x : Tri) : Blk (set3 w b i x) g t cs := ((h.far (p := ⟨b, i * 3, none⟩) hp _).far (p := ⟨b, i * 3 + 1, none⟩) hp _).far (p := ⟨b, i * 3 + 2, none⟩) hp _
theorem set3_below {a w : World} (h : Below a.heap.size a w) {b : Nat} (hb : a.heap.size ≤ b) (i : Nat) (t : Tri) : Below a.heap.size a (set3 w b i t) := bw_set (bw_set (bw_set h hb _) hb _) hb _
theorem TwoSoups.set_t {w : World} {B gt gm bt : Nat} {N : Value} {Am : Option Addr} {ct cm : Nat} {T U : List Tri} (h : TwoSoups w B gt gm N (some ⟨bt, 0, none⟩) Am ct cm T U) (i : Nat) (x : Tri) : TwoSoups (set3 w bt i x) B gt gm N (some ⟨bt, 0, none⟩) Am ct cm (T.set i x) U :=
  ⟨by rw [List.length_set]; exact h.t.far3 (soup_tri_ne h.rt h.t bt rfl).symm _ _, h.m.far3 (soup_tri_ne h.rt h.m bt rfl).symm _ _, h.rt.set_ _ _, h.rm.far3 (fun k hk => (h.ne bt k rfl hk).symm) _ _, by rw [List.length_set]; exact h.ne, h.gne, h.gt, h.gm⟩
theorem TwoSoups.set_m {w : World} {B gt gm bm : Nat} {N : Value} {At : Option Addr} {ct cm : Nat} {T U : List Tri} (h : TwoSoups w B gt gm N At (some ⟨bm, 0, none⟩) ct cm T U) (i : Nat) (x : Tri) : TwoSoups (set3 w bm i x) B gt gm N At (some ⟨bm, 0, none⟩) ct cm T (U.set i x) :=
  ⟨h.t.far3 (soup_tri_ne h.rm h.t bm rfl).symm _ _, by rw [List.length_set]; exact h.m.far3 (soup_tri_ne h.rm h.m bm rfl).symm _ _, h.rt.far3 (fun k hk => h.ne k bm hk rfl) _ _, h.rm.set_ _ _, by rw [List.length_set]; exact h.ne, h.gne, h.gt, h.gm⟩
/-- A row that holds anything lies in a block, from its first cell on. -/
theorem row_cells {w : World} {B c : Nat} {A : Option Addr} {L : List Tri} (h : LRow w B A c L) {i : Nat} {t : Tri} (ht : L[i]? = some t) :
    ∃ b, A = some ⟨b, 0, none⟩ ∧ B ≤ b ∧ b < w.heap.size ∧ (w.cell? ⟨b, i * 3, none⟩ = some (.int .i64 t.a) ∧ w.cell? ⟨b, i * 3 + 1, none⟩ = some (.int .i64 t.b) ∧ w.cell? ⟨b, i * 3 + 2, none⟩ = some (.int .i64 t.c)) ∧ (∀ j, w.frozen? ⟨b, j, none⟩ = false) := by
  obtain ⟨b, hA, hB, hT⟩ := tblk_of h (fun e => by rw [e] at ht; cases ht)
  exact ⟨b, hA, hB, hT.lt, hT.cells ht, hT.frozen⟩
/-- All cells but one block's are as they were. -/
def KeepB (b : Nat) (a w : World) : Prop := ∀ p : Addr, p.block ≠ b → w.cell? p = a.cell? p
theorem KeepB.refl (b : Nat) (a : World) : KeepB b a a := fun _ _ => rfl
theorem KeepB.get {b : Nat} {a w : World} (h : KeepB b a w) {p : Addr} (hp : p.block ≠ b) : w.cell? p = a.cell? p := h p hp
theorem KeepB.drew {b : Nat} {a w : World} (h : KeepB b a w) : KeepB b a w.drew := h
theorem KeepB.set {b i : Nat} {a w : World} (h : KeepB b a w) (u : Value) : KeepB b a (w.setCell ⟨b, i, none⟩ u) := fun p hp => (World.cell?_of_block (Below.heap_setCell w ⟨b, i, none⟩ u _ hp)).trans (h p hp)
theorem TwoSoups.drew {w : World} {B gt gm : Nat} {N : Value} {At Am : Option Addr} {ct cm : Nat} {T U : List Tri} (h : TwoSoups w B gt gm N At Am ct cm T U) : TwoSoups w.drew B gt gm N At Am ct cm T U :=
  ⟨h.t, h.m, h.rt, h.rm, h.ne, h.gne, h.gt, h.gm⟩

theorem LRow.owns {w : World} {B : Nat} {A : Option Addr} {c : Nat} {L : List Tri} (h : LRow w B A c L) : w.ownsRow B 30 3 (.slice A L.length c) L.length (L.flatMap Tri.cells) := h
theorem TwoSoups.alloc {w : World} {B gt gm : Nat} {N : Value} {At Am : Option Addr} {ct cm : Nat} {T U : List Tri} (h : TwoSoups w B gt gm N At Am ct cm T U) (o : Obj) : TwoSoups (w.alloc o) B gt gm N At Am ct cm T U :=
  ⟨h.t.alloc o, h.m.alloc o, h.rt.alloc o, h.rm.alloc o, h.ne, h.gne, h.gt, h.gm⟩
section
variable {w w1 : World} {B gt gm : Nat} {N : Value} {At Am A1 : Option Addr} {ct cm c1 n : Nat} {T U L : List Tri} {cs : List Value}
theorem TwoSoups.facts_t (h : TwoSoups w B gt gm N At Am ct cm T U) (hg : w.grownBy w1 (Value.slice At T.length ct).ownBlock) : w1.cell? ⟨gt, 1, none⟩ = some (.slice At T.length ct) ∧ w1.frozen? ⟨gt, 1, none⟩ = false ∧ w.heap.size ≤ w1.heap.size :=
  have ht := h.t.grown hg fun e => soup_tri_ne h.rt h.t gt e.symm rfl
  ⟨ht.cell 1, ht.frozen 1, hg.size⟩
theorem TwoSoups.facts_m (h : TwoSoups w B gt gm N At Am ct cm T U) (hg : w.grownBy w1 (Value.slice Am U.length cm).ownBlock) : w1.cell? ⟨gm, 1, none⟩ = some (.slice Am U.length cm) ∧ w1.frozen? ⟨gm, 1, none⟩ = false ∧ w.heap.size ≤ w1.heap.size :=
  have ht := h.m.grown hg fun e => soup_tri_ne h.rm h.m gm e.symm rfl
  ⟨ht.cell 1, ht.frozen 1, hg.size⟩
theorem TwoSoups.push_t (h : TwoSoups w B gt gm N At Am ct cm T U) (hown : w1.ownsRow B 30 3 (.slice A1 n c1) n cs) (hn : n = L.length) (hc : cs = L.flatMap Tri.cells)
    (hg : w.grownBy w1 (Value.slice At T.length ct).ownBlock) (hat : (Value.slice A1 n c1).ownBlock = (Value.slice At T.length ct).ownBlock ∨ (Value.slice A1 n c1).ownBlock = some w.heap.size) :
    TwoSoups (w1.setCell ⟨gt, 1, none⟩ (.slice A1 n c1)) B gt gm N A1 Am c1 cm L U := by
  subst hn hc
  have ht := h.t.grown hg fun e => soup_tri_ne h.rt h.t gt e.symm rfl
  have hm := h.m.grown hg fun e => soup_tri_ne h.rt h.m gm e.symm rfl
  refine ⟨soup_set1 ht _, hm.far h.gne.symm _, (lrow_of hown rfl rfl).setSoup ht _, (h.rm.grown hg fun k hk e => h.ne k k e.symm hk rfl).setSoup ht _, fun k k' hk hk' => ?_, h.gne, h.gt, h.gm⟩
  rcases hat with e | e
  · exact h.ne k k' (e ▸ hk) hk'
  · rw [e] at hk
    injection hk with hk
    have := (h.rm.lt k' hk').2
    omega
theorem TwoSoups.push_m (h : TwoSoups w B gt gm N At Am ct cm T U) (hown : w1.ownsRow B 30 3 (.slice A1 n c1) n cs) (hn : n = L.length) (hc : cs = L.flatMap Tri.cells)
    (hg : w.grownBy w1 (Value.slice Am U.length cm).ownBlock) (hat : (Value.slice A1 n c1).ownBlock = (Value.slice Am U.length cm).ownBlock ∨ (Value.slice A1 n c1).ownBlock = some w.heap.size) :
    TwoSoups (w1.setCell ⟨gm, 1, none⟩ (.slice A1 n c1)) B gt gm N At A1 ct c1 T L := by
  subst hn hc
  have ht := h.t.grown hg fun e => soup_tri_ne h.rm h.t gt e.symm rfl
  have hm := h.m.grown hg fun e => soup_tri_ne h.rm h.m gm e.symm rfl
  refine ⟨ht.far h.gne _, soup_set1 hm _, (h.rt.grown hg fun k hk e => h.ne k k hk e.symm rfl).setSoup hm _, (lrow_of hown rfl rfl).setSoup hm _, fun k k' hk hk' => ?_, h.gne, h.gt, h.gm⟩
  rcases hat with e | e
  · exact h.ne k k' hk (e ▸ hk')
  · rw [e] at hk'
    injection hk' with hk'
    have := (h.rt.lt k hk).2
    omega
end

/-! ### What a new block holds, behind what came after it -/
theorem blk_new1 (w : World) (o : Obj) (t : TypeId) (cs : Array Value) : Blk ((w.alloc o).alloc (.cells cs t)) (w.heap.size + 1) t cs := Blk.new_ (by simp) _ _
theorem blk_new2 (w : World) (p q : Addr) (u v : Value) (t : TypeId) (cs : Array Value) : Blk (((w.setCell p u).setCell q v).alloc (.cells cs t)) w.heap.size t cs := Blk.new_ (by simp) _ _
theorem soup_facts {w : World} {g : Nat} {x y : Value} (h : Blk w g 24 #[x, y]) : w.cell? ⟨g, 0, none⟩ = some x ∧ w.cell? ⟨g, 1, none⟩ = some y ∧ w.frozen? ⟨g, 0, none⟩ = false ∧ w.frozen? ⟨g, 1, none⟩ = false ∧ g < w.heap.size :=
  ⟨h.cell 0, h.cell 1, h.frozen 0, h.frozen 1, h.lt⟩
theorem soup_set0 {w : World} {g : Nat} (h : Blk w g 24 #[.int .i64 0, .slice none 0 0]) (u v : Value) : Blk ((w.setCell ⟨g, 0, none⟩ u).setCell ⟨g, 1, none⟩ v) g 24 #[u, v] := soup_set h u v
theorem LRow.soup_set0 {w : World} {B : Nat} {A : Option Addr} {c g : Nat} {L : List Tri} (h : LRow w B A c L) (hb : Blk w g 24 #[.int .i64 0, .slice none 0 0]) (u v : Value) : LRow ((w.setCell ⟨g, 0, none⟩ u).setCell ⟨g, 1, none⟩ v) B A c L := h.soup_set hb u v
theorem blk_new3 (w : World) (p q r : Addr) (u v x : Value) (t : TypeId) (cs : Array Value) : Blk ((((w.setCell p u).setCell q v).setCell r x).alloc (.cells cs t)) w.heap.size t cs := Blk.new_ (by simp) _ _
theorem wit_facts {w : World} {g : Nat} {x y z : Value} (h : Blk w g 34 #[x, y, z]) :
    w.cell? ⟨g, 0, none⟩ = some x ∧ w.cell? ⟨g, 1, none⟩ = some y ∧ w.cell? ⟨g, 2, none⟩ = some z ∧ w.frozen? ⟨g, 0, none⟩ = false ∧ w.frozen? ⟨g, 1, none⟩ = false ∧ w.frozen? ⟨g, 2, none⟩ = false ∧ g < w.heap.size :=
  ⟨h.cell 0, h.cell 1, h.cell 2, h.frozen 0, h.frozen 1, h.frozen 2, h.lt⟩
theorem wit_set0 {w : World} {g : Nat} (h : Blk w g 34 #[.int .i64 0, .int .i64 0, .int .i64 0]) (x y z : Value) :
    Blk (((w.setCell ⟨g, 0, none⟩ x).setCell ⟨g, 1, none⟩ y).setCell ⟨g, 2, none⟩ z) g 34 #[x, y, z] := by
  simpa using ((h.set_ 0 x).set_ 1 y).set_ 2 z
end Go.Proofs.Ytnnbcflpbpafeaa
