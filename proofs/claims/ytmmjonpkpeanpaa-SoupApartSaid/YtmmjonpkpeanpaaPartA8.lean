/- What soup.Part keeps while it works: its maps, its rows, its boxes. No condition. -/
import Derived.Test.YtmmjonpkpeanpaaSorted8
import Derived.Test.YtmmjonpkpeanpaaRefA8
namespace Go.Proofs.Ytmmjonpkpeanpaa
open Go.RowKit

/-- A row of numbers of the call's own. -/
def IRow (w : World) (B : Nat) (A : Option Addr) (c : Nat) (L : List Int) : Prop := w.ownsRow B 3 1 (.slice A L.length c) L.length (ZL L)
section
variable {w w' : World} {B : Nat} {A : Option Addr} {c : Nat} {L : List Int}
theorem IRow.nil (w : World) (B : Nat) : IRow w B none 0 [] := World.ownsRow_nil _ _ _ _
theorem IRow.below (h : IRow w B A c L) (hb : Below w.heap.size w w') : IRow w' B A c L := own_same h fun k hk => hb.block k (h.lt k hk).2
theorem IRow.alloc (h : IRow w B A c L) (o : Obj) : IRow (w.alloc o) B A c L := h.below ((Below.refl _ _).alloc (Nat.le_refl _) _)
theorem IRow.drew (h : IRow w B A c L) : IRow w.drew B A c L := h
theorem IRow.lt_ (h : IRow w B A c L) : ∀ k, (Value.slice A L.length c).ownBlock = some k → B ≤ k ∧ k < w.heap.size := h.lt
theorem IRow.reads (h : IRow w B A c L) : Reads w w.heap.size 1 A L.length (ZL L) := Reads.of_own h
theorem IRow.base {B' : Nat} (h : IRow w B A c L) (hB : B' ≤ B) : IRow w B' A c L := by
  obtain ⟨h1, h2⟩ := h
  refine ⟨h1, ?_⟩
  rcases h2 with h2 | ⟨g, cap, cur, hv, hb, hr⟩
  · exact .inl h2
  · exact .inr ⟨g, cap, cur, hv, Nat.le_trans hB hb, hr⟩
theorem IRow.grown {row : Option Nat} (h : IRow w B A c L) (hg : w.grownBy w' row) (hne : ∀ k, (Value.slice A L.length c).ownBlock = some k → some k ≠ row) : IRow w' B A c L :=
  own_same h fun k hk => hg.block k (h.lt k hk).2 (hne k hk)
theorem IRow.ne_blk {g : Nat} {t : TypeId} {cs : Array Value} (h : IRow w B A c L) (hb : Blk w g t cs) (ht : 3 ≠ t) : ∀ k, (Value.slice A L.length c).ownBlock = some k → k ≠ g := fun k hk => by
  obtain ⟨ds, hd⟩ := own_blk h hk
  exact hd.ne_ hb ht
theorem IRow.ne_row {B' : Nat} {A' : Option Addr} {c' : Nat} {T : List Tri} (h : IRow w B A c L) (h' : LRow w B' A' c' T) : ∀ k, (Value.slice A L.length c).ownBlock = some k → some k ≠ (Value.slice A' T.length c').ownBlock := fun k hk e => by
  obtain ⟨ds, hd⟩ := own_blk h hk
  obtain ⟨es, he⟩ := own_blk h' e.symm
  exact hd.ne_ he (by decide) rfl
theorem IRow.setCell {g i : Nat} {t : TypeId} {cs : Array Value} (h : IRow w B A c L) (hb : Blk w g t cs) (ht : 3 ≠ t) (u : Value) : IRow (w.setCell ⟨g, i, none⟩ u) B A c L :=
  own_same h fun k hk => Below.heap_setCell _ _ _ _ (h.ne_blk hb ht k hk)
end
theorem MapI.off_row {P : Program} {k : TypeId} {w : World} {b n : Nat} {f : Int → Option Value} {B : Nat} {A : Option Addr} {c : Nat} {T : List Tri} (h : MapI P k w b n f) (h' : LRow w B A c T) : some b ≠ (Value.slice A T.length c).ownBlock := fun e => by
  obtain ⟨es, he⟩ := own_blk h' e.symm
  exact h.ne_blk he rfl
theorem irow_of {w : World} {B : Nat} {A : Option Addr} {c : Nat} {L : List Int} (h : w.ownsRow B 3 1 (.slice A L.length c) L.length (ZL L)) : IRow w B A c L := h
theorem MapI.off_irow {P : Program} {k : TypeId} {w : World} {b n : Nat} {f : Int → Option Value} {B : Nat} {A : Option Addr} {c : Nat} {L : List Int} (h : MapI P k w b n f) (h' : IRow w B A c L) : ∀ j, (Value.slice A L.length c).ownBlock = some j → j ≠ b := fun j hj e => by
  obtain ⟨es, he⟩ := own_blk h' hj
  exact h.ne_blk he e.symm
/-- One map turned. -/
def SetM (b : Nat) (w w' : World) : Prop := ∃ o, w' = ChangeMaps.setBlock w b o
section
variable {w w' : World} {b : Nat}
theorem SetM.size (h : SetM b w w') : w'.heap.size = w.heap.size := by
  obtain ⟨o, rfl⟩ := h
  simp [ChangeMaps.setBlock]
theorem SetM.blk {g : Nat} {t : TypeId} {cs : Array Value} (h : SetM b w w') (hg : Blk w g t cs) (hne : g ≠ b) : Blk w' g t cs := by
  obtain ⟨o, rfl⟩ := h
  exact hg.setBlock hne o
theorem SetM.map {P : Program} {k : TypeId} {n : Nat} {f : Int → Option Value} {m : Nat} (h : SetM b w w') (hm : MapI P k w m n f) (hne : m ≠ b) : MapI P k w' m n f := by
  obtain ⟨o, rfl⟩ := h
  exact hm.setBlock hne o
theorem SetM.below {a : World} (h : SetM b w w') (hb : Below a.heap.size a w) (hB : a.heap.size ≤ b) : Below a.heap.size a w' := by
  obtain ⟨o, rfl⟩ := h
  exact ⟨hb.os, hb.tape, hb.output, by simpa [ChangeMaps.setBlock] using hb.size, fun i hi => (heap_setBlock_ne w b o (by omega)).trans (hb.block i hi)⟩
theorem SetM.irow {B : Nat} {A : Option Addr} {c : Nat} {L : List Int} (h : SetM b w w') (hr : IRow w B A c L) (hne : ∀ k, (Value.slice A L.length c).ownBlock = some k → k ≠ b) : IRow w' B A c L := by
  obtain ⟨o, rfl⟩ := h
  exact own_same hr fun k hk => heap_setBlock_ne w b o (hne k hk)
end
theorem MapI.put {P : Program} {k : TypeId} {w : World} {b n : Nat} {f : Int → Option Value} (h : MapI P k w b n f) (hk : P.underlying k = some (.int .i64)) {t e : TypeId} (ht : P.underlying t = some (.map k e)) (hn : n < maxLen) {x : Int} (hx : (Lit.int .i64 x).wf = true) (v : Value) :
    ∃ w' n', (Instr.mapUpdate t (.map (some b)) (.int .i64 x) v).run P w = .ok () w' ∧ MapI P k w' b n' (fun y => if y = x then some v else f y) ∧ SetM b w w' ∧ n' ≤ n + 1 := by
  obtain ⟨es', clock', hst, hm'⟩ := h.store hk ht hn hx v
  exact ⟨_, _, hst, hm', ⟨_, rfl⟩, by split <;> omega⟩
def inF (L : List Int) : Int → Option Value := fun x => if x ∈ L then some (.bool true) else none
theorem inF_snoc (L : List Int) (x : Int) : (fun y => if y = x then some (.bool true) else inF L y) = inF (L ++ [x]) := by
  funext y
  unfold inF
  by_cases h : y = x
  · subst h; simp
  · by_cases h' : y ∈ L <;> simp [h, h']
def usedL (T : List Tri) (l : List Int) : List Int := l.flatMap fun i => [(tri T i.toNat).a, (tri T i.toNat).b, (tri T i.toNat).c]
theorem usedL_snoc (T : List Tri) (l : List Int) (i : Int) : usedL T (l ++ [i]) = usedL T l ++ [(tri T i.toNat).a, (tri T i.toNat).b, (tri T i.toNat).c] := by
  unfold usedL
  rw [List.flatMap_append]
  simp
def idxF (L : List Int) (k : Nat) : Int → Option Value := fun x => if x ∈ L.take k then some (.int .i64 (L.idxOf x : Nat)) else none
theorem idxF_snoc {L : List Int} (hd : L.Nodup) {k : Nat} {v : Int} (hk : L[k]? = some v) : (fun y => if y = v then some (Value.int .i64 k) else idxF L k y) = idxF L (k + 1) := by
  funext y
  have ht := take_snoc_Z L k hk
  have hnot : v ∉ L.take k := by
    have h2 : (L.take (k + 1)).Nodup := hd.sublist (List.take_sublist _ _)
    rw [ht, List.nodup_append] at h2
    exact fun h => h2.2.2 v h v (by simp) rfl
  unfold idxF
  rw [ht]
  by_cases h : y = v
  · subst h
    rw [if_pos rfl, if_pos (by simp)]
    have := place_at hnot hk
    unfold placeL at this
    rw [if_pos (List.mem_of_getElem? hk)] at this
    have e : (L.idxOf y : Int) = (k : Int) := this
    rw [show L.idxOf y = k by omega]
  · rw [if_neg h]
    by_cases h' : y ∈ L.take k
    · rw [if_pos h', if_pos (by simp [h'])]
    · rw [if_neg h', if_neg (by simp [h, h'])]
theorem idxF_place {L : List Int} {x : Int} (h : x ∈ L) : (idxF L L.length x).getD (.int .i64 0) = .int .i64 (placeL L x) := by
  unfold idxF placeL
  rw [List.take_length, if_pos h, if_pos h]
  rfl
theorem old_sorted (N : Int) (T : List Tri) (l : List Int) : (oldL N T l).Pairwise (· < ·) := by
  unfold oldL
  refine List.Pairwise.filter _ (List.pairwise_map.2 (List.pairwise_lt_range.imp fun h => ?_))
  exact Int.ofNat_lt.2 h
theorem old_mem (N : Int) (T : List Tri) (l : List Int) (x : Int) : x ∈ oldL N T l ↔ (0 ≤ x ∧ x < N) ∧ ∃ i ∈ l, hasV (tri T i.toNat) x = true := by
  unfold oldL
  rw [List.mem_filter, List.mem_map, List.any_eq_true]
  constructor
  · rintro ⟨⟨k, hk, rfl⟩, h⟩
    have := List.mem_range.1 hk
    exact ⟨by omega, h⟩
  · rintro ⟨h, h'⟩
    exact ⟨⟨x.toNat, List.mem_range.2 (by omega), by omega⟩, h'⟩
theorem used_mem (T : List Tri) (l : List Int) (x : Int) : x ∈ usedL T l ↔ ∃ i ∈ l, hasV (tri T i.toNat) x = true := by
  unfold usedL hasV
  rw [List.mem_flatMap]
  refine exists_congr fun i => and_congr_right fun _ => ?_
  simp only [List.mem_cons, List.not_mem_nil, or_false, Bool.or_eq_true, beq_iff_eq]
  constructor
  · rintro (h | h | h) <;> simp [h]
  · rintro ((h | h) | h) <;> simp [h]
theorem fit_tri {N : Int} {T : List Tri} (hf : fitL N T = true) {i : Nat} (hi : i < T.length) : fitT N (tri T i) = true := by
  unfold fitL at hf
  simp only [Bool.and_eq_true] at hf
  exact (List.all_eq_true.1 hf.2) _ (List.mem_of_getElem? (tri_at hi))
theorem fit_N {N : Int} {T : List Tri} (hf : fitL N T = true) : 0 ≤ N ∧ N ≤ 4096 := by
  unfold fitL at hf
  simp only [Bool.and_eq_true, decide_eq_true_eq] at hf
  exact hf.1
/-- Do all numbers of a list name a triangle? -/
theorem in_all {m : Nat} {l : List Int} (h : l.any (outOf m) = false) {x : Int} (hx : x ∈ l) : 0 ≤ x ∧ x < (m : Int) := by
  have : outOf m x = false := by
    cases e : outOf m x with
    | false => rfl
    | true =>
      rw [List.any_eq_true.2 ⟨x, hx, e⟩] at h
      cases h
  simp [outOf] at this
  omega
theorem old_used {N : Int} {T : List Tri} {l : List Int} (hf : fitL N T = true) (hl : l.any (outOf T.length) = false) (x : Int) : x ∈ oldL N T l ↔ (Lit.int .i64 x).wf = true ∧ (inF (usedL T l) x).isSome = true := by
  have hN := fit_N hf
  have hx : ∀ i ∈ l, hasV (tri T i.toNat) x = true → 0 ≤ x ∧ x < N := fun i hi h => by
    have hin := in_all hl hi
    have := (fitT_iff.1 (fit_tri hf (i := i.toNat) (by omega))).1
    unfold hasV at h
    simp only [Bool.or_eq_true, beq_iff_eq] at h
    omega
  rw [old_mem]
  unfold inF
  constructor
  · rintro ⟨h, h'⟩
    refine ⟨WalkArith.wf_i64 (n := x) (by omega), ?_⟩
    rw [if_pos ((used_mem T l x).2 h')]
    rfl
  · rintro ⟨_, h⟩
    by_cases hm : x ∈ usedL T l
    · obtain ⟨i, hi, h'⟩ := (used_mem T l x).1 hm
      exact ⟨hx i hi h', i, hi, h'⟩
    · rw [if_neg hm] at h
      cases h
/-- Two boxes that stay while the call works. -/
structure PS (W0 w : World) (gs gr : Nat) (N : Int) (A : Option Addr) (n c : Nat) : Prop where
  s : Blk w gs 24 #[.int .i64 N, .slice A n c]
  r : Blk w gr 24 #[.int .i64 0, .slice none 0 0]
  b : Below W0.heap.size W0 w
  hs : W0.heap.size ≤ gs
  hr : W0.heap.size ≤ gr
  ne : gr ≠ gs
section
variable {W0 w w' : World} {gs gr : Nat} {N : Int} {A : Option Addr} {n c : Nat}
theorem PS.on (h : PS W0 w gs gr N A n c) (hb : Below w.heap.size w w') : PS W0 w' gs gr N A n c := ⟨blk_call h.s hb, blk_call h.r hb, bw_call h.b hb, h.hs, h.hr, h.ne⟩
theorem PS.alloc (h : PS W0 w gs gr N A n c) (o : Obj) : PS W0 (w.alloc o) gs gr N A n c := h.on (bw_alloc (Below.refl _ _) o)
theorem PS.drew (h : PS W0 w gs gr N A n c) : PS W0 w.drew gs gr N A n c := h.on (bw_drew (Below.refl _ _))
theorem PS.drewN (h : PS W0 w gs gr N A n c) (m : Nat) : PS W0 (w.drewN m) gs gr N A n c := h.on (below_drewN (Below.refl _ _) m)
theorem PS.setM {b : Nat} (h : PS W0 w gs gr N A n c) (hm : SetM b w w') (h1 : gs ≠ b) (h2 : gr ≠ b) (h3 : W0.heap.size ≤ b) : PS W0 w' gs gr N A n c := ⟨hm.blk h.s h1, hm.blk h.r h2, hm.below h.b h3, h.hs, h.hr, h.ne⟩
theorem PS.far (h : PS W0 w gs gr N A n c) {go : Nat} (h1 : gs ≠ go) (h2 : gr ≠ go) (h3 : W0.heap.size ≤ go) (i : Nat) (u : Value) : PS W0 (w.setCell ⟨go, i, none⟩ u) gs gr N A n c := ⟨h.s.far h1 _, h.r.far h2 _, bw_set h.b h3 _, h.hs, h.hr, h.ne⟩
theorem PS.grown (h : PS W0 w gs gr N A n c) {B : Nat} {A' : Option Addr} {c' : Nat} {T : List Tri} (h' : LRow w B A' c' T) (hB : W0.heap.size ≤ B) (hg : w.grownBy w' (Value.slice A' T.length c').ownBlock) : PS W0 w' gs gr N A n c :=
  ⟨h.s.grown hg fun e => soup_tri_ne h' h.s gs e.symm rfl, h.r.grown hg fun e => soup_tri_ne h' h.r gr e.symm rfl, bw_grow h.b hg fun k hk => Nat.le_trans hB (h'.owns.lt k hk).1, h.hs, h.hr, h.ne⟩
theorem PS.cells (h : PS W0 w gs gr N A n c) : w.cell? ⟨gs, 0, none⟩ = some (.int .i64 N) ∧ w.cell? ⟨gs, 1, none⟩ = some (.slice A n c) ∧ w.cell? ⟨gr, 0, none⟩ = some (.int .i64 0) ∧ w.cell? ⟨gr, 1, none⟩ = some (.slice none 0 0) ∧ w.frozen? ⟨gr, 0, none⟩ = false ∧ w.frozen? ⟨gr, 1, none⟩ = false :=
  have h1 := soup_facts h.s
  have h2 := soup_facts h.r
  ⟨h1.1, h1.2.1, h2.1, h2.2.1, h2.2.2.1, h2.2.2.2.1⟩
theorem PS.grownI (h : PS W0 w gs gr N A n c) {B : Nat} {A' : Option Addr} {c' : Nat} {L : List Int} (h' : IRow w B A' c' L) (hB : W0.heap.size ≤ B) (hg : w.grownBy w' (Value.slice A' L.length c').ownBlock) : PS W0 w' gs gr N A n c :=
  ⟨h.s.grown hg fun e => h'.ne_blk h.s (by decide) gs e.symm rfl, h.r.grown hg fun e => h'.ne_blk h.r (by decide) gr e.symm rfl, bw_grow h.b hg fun k hk => Nat.le_trans hB (h'.lt_ k hk).1, h.hs, h.hr, h.ne⟩
end
theorem IRow.owns_ {w : World} {B : Nat} {A : Option Addr} {c : Nat} {L : List Int} (h : IRow w B A c L) : w.ownsRow B 3 1 (.slice A L.length c) L.length (ZL L) := h
theorem irow_snoc {w : World} {B : Nat} {A : Option Addr} {c : Nat} {L : List Int} {x : Int} (h : w.ownsRow B 3 1 (.slice A (L.length + 1) c) (L.length + 1) (ZL L ++ [.int .i64 x])) : IRow w B A c (L ++ [x]) := by
  unfold IRow
  have e : ZL (L ++ [x]) = ZL L ++ [.int .i64 x] := by unfold ZL; rw [List.map_append]; rfl
  rw [e, List.length_append]
  exact h
end Go.Proofs.Ytmmjonpkpeanpaa
