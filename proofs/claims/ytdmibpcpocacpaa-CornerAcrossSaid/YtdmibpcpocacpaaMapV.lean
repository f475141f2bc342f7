/- Maps of whatever key type (ints, arrays): a map is known by a function on its keys. No condition. -/
import Derived.Test.YtdmibpcpocacpaaApp
import Derived.WideKeyEntry
import Derived.DeepKeys4
namespace Go.Proofs.Ytdmibpcpocacpaa
open Go.RowKit Go.ChangeMaps Go.MapKept
open Go.WideElems (Fit rd rg pl rd_val rd_key)
open Go.Maps (Keyed)
open Go.WideMaps (KeyLaw)

open Classical in
/-- A function on keys, turned at one. -/
noncomputable def putV (f : Value → Option Value) (x v : Value) : Value → Option Value := fun y => if y = x then some v else f y
open Classical in
noncomputable def dropV (f : Value → Option Value) (x : Value) : Value → Option Value := fun y => if y = x then none else f y
theorem putV_same (f : Value → Option Value) (x v : Value) : putV f x v x = some v := by unfold putV; simp
theorem putV_ne (f : Value → Option Value) {x y : Value} (v : Value) (h : y ≠ x) : putV f x v y = f y := by unfold putV; simp [h]
theorem dropV_same (f : Value → Option Value) (x : Value) : dropV f x x = none := by unfold dropV; simp
theorem dropV_ne (f : Value → Option Value) {x y : Value} (h : y ≠ x) : dropV f x y = f y := by unfold dropV; simp [h]

/-- Block b is a map of n entries; what stands at key x is f x. -/
def MapV (P : Program) (k : TypeId) (w : World) (b n : Nat) (f : Value → Option Value) : Prop :=
  ∃ es clock, w.heap[b]? = some (.map es clock) ∧ Fit P k anyElem es clock ∧ es.size = n ∧
    ∀ x, (∃ l, keyOf P k x = some l) → ∀ v, f x = some v ↔ ∃ e ∈ es.toList, e.key = x ∧ e.val = v

section
variable {P : Program} {k : TypeId} {w w' : World} {b n : Nat} {f : Value → Option Value}
theorem MapV.made (P : Program) (k : TypeId) (w : World) : MapV P k (w.alloc (.map #[] 0)) w.heap.size 0 (fun _ => none) :=
  ⟨#[], 0, (MapKept.heap_alloc w _).1, ⟨by simp, stamped_empty 0, by simp⟩, rfl, fun x _ v => by simp⟩
theorem MapV.made_ (P : Program) (k : TypeId) {w : World} {b : Nat} (hb : w.heap.size = b) : MapV P k (w.alloc (.map #[] 0)) b 0 (fun _ => none) := hb ▸ MapV.made P k w
theorem MapV.lt (h : MapV P k w b n f) : b < w.heap.size := by
  obtain ⟨es, clock, hb, _⟩ := h
  exact (Array.getElem?_eq_some_iff.1 hb).1
theorem MapV.same (h : MapV P k w b n f) (hs : w'.heap[b]? = w.heap[b]?) : MapV P k w' b n f := by
  obtain ⟨es, clock, hb, r⟩ := h
  exact ⟨es, clock, hs.trans hb, r⟩
theorem MapV.only {F : Nat → Prop} (h : MapV P k w b n f) (ho : Only F w w') (hn : ¬ F b) : MapV P k w' b n f := h.same (ho.block b h.lt hn)
theorem MapV.below {B : Nat} (h : MapV P k w b n f) (hb : Below B w w') (hB : b < B) : MapV P k w' b n f := h.same (hb.block b hB)
theorem MapV.alloc (h : MapV P k w b n f) (o : Obj) : MapV P k (w.alloc o) b n f := h.same (Below.heap_alloc w o b h.lt)
theorem MapV.drew (h : MapV P k w b n f) : MapV P k w.drew b n f := h
theorem MapV.drewN (h : MapV P k w b n f) (m : Nat) : MapV P k (w.drewN m) b n f := h
theorem MapV.grown {row : Option Nat} (h : MapV P k w b n f) (hg : w.grownBy w' row) (hn : some b ≠ row) : MapV P k w' b n f := h.same (hg.block b h.lt hn)
theorem MapV.setCell (h : MapV P k w b n f) {p : Addr} {u0 : Value} (hp : w.cell? p = some u0) (u : Value) : MapV P k (w.setCell p u) b n f := by
  refine h.same (Below.heap_setCell w p u b ?_)
  rintro rfl
  obtain ⟨es, clock, hb, _⟩ := h
  simp [World.cell?, hb] at hp
theorem MapV.setBlock (h : MapV P k w b n f) {b' : Nat} (hne : b ≠ b') (o : Obj) : MapV P k (ChangeMaps.setBlock w b' o) b n f := h.same (heap_setBlock_ne w b' o hne)
theorem MapV.ne_blk {g : Nat} {t : TypeId} {cs : Array Value} (h : MapV P k w b n f) (hg : Blk w g t cs) : b ≠ g := by
  rintro rfl
  obtain ⟨es, clock, hb, _⟩ := h
  unfold Blk at hg
  rw [hb] at hg
  cases hg
theorem MapV.congr {f' : Value → Option Value} (h : MapV P k w b n f) (hf : ∀ x, f x = f' x) : MapV P k w b n f' := by
  obtain rfl : f = f' := funext hf
  exact h

/-- 'm[x]', 'v, ok := m[x]'. -/
theorem MapV.look (h : MapV P k w b n f) (K : Keyed P k) {t e : TypeId} (ht : P.underlying t = some (.map k e)) {z : Value} (hz : (zeroValue e).run P w = .ok z w)
    {x : Value} {kl : Lit} (hkey : keyOf P k x = some kl) (c : Bool) :
    (Instr.lookup t (.map (some b)) x c).run P w = .ok (if c then .tuple #[(f x).getD z, .bool (f x).isSome] else (f x).getD z) w := by
  obtain ⟨es, clock, hb, F, _, hf⟩ := h
  rcases Maps.fit_look c K ht hz hb F hkey with ⟨hrun, hno, _⟩ | ⟨e0, y, hm, hke, hrun, _⟩
  · have hn : f x = none := by
      cases hfx : f x with
      | none => rfl
      | some v =>
        obtain ⟨e', he', hk', _⟩ := (hf x ⟨_, hkey⟩ v).1 hfx
        exact absurd hk' (hno e' he')
    rw [hrun, hn]; rfl
  · have hs : f x = some e0.val := (hf x ⟨_, hkey⟩ _).2 ⟨e0, hm, hke, rfl⟩
    rw [hrun, hs]; rfl

/-- 'm[x] = v'. -/
theorem MapV.store (h : MapV P k w b n f) (K : Keyed P k) {t e : TypeId} (ht : P.underlying t = some (.map k e)) (hn : n < maxLen) {x : Value} {kl : Lit} (hkey : keyOf P k x = some kl) (v : Value) :
    ∃ es' clock', (Instr.mapUpdate t (.map (some b)) x v).run P w = .ok () (ChangeMaps.setBlock w b (.map es' clock')) ∧
      MapV P k (ChangeMaps.setBlock w b (.map es' clock')) b (if (f x).isSome then n else n + 1) (putV f x v) := by
  obtain ⟨es, clock, hb, F, hs, hf⟩ := h
  have fin : ∀ (es' : Array MapEntry) (clock' : Nat), Fit P k anyElem es' clock' → (∀ e, e ∈ es'.toList ↔ (e ∈ es.toList ∧ e.key ≠ x) ∨ (e ∈ es'.toList ∧ e.key = x ∧ e.val = v)) →
      (∃ e ∈ es'.toList, e.key = x) → es'.size = (if (f x).isSome then n else n + 1) → MapV P k (ChangeMaps.setBlock w b (.map es' clock')) b (if (f x).isSome then n else n + 1) (putV f x v) := by
    intro es' clock' F' hmem hex hsz
    refine ⟨es', clock', heap_setBlock_same hb _, F', hsz, fun y hy u => ?_⟩
    by_cases hyx : y = x
    · subst hyx
      rw [putV_same, Option.some.injEq]
      constructor
      · rintro rfl
        obtain ⟨e, he, hek⟩ := hex
        rcases (hmem e).1 he with ⟨_, h2⟩ | ⟨_, h2, h3⟩
        · exact absurd hek h2
        · exact ⟨e, he, h2, h3⟩
      · rintro ⟨e, he, hek, hev⟩
        rcases (hmem e).1 he with ⟨_, h2⟩ | ⟨_, _, h3⟩
        · exact absurd hek h2
        · rw [← hev, h3]
    · rw [putV_ne f v hyx]
      rw [hf y hy u]
      constructor
      · rintro ⟨e, he, hek, hev⟩
        exact ⟨e, (hmem e).2 (.inl ⟨he, by rw [hek]; exact hyx⟩), hek, hev⟩
      · rintro ⟨e, he, hek, hev⟩
        rcases (hmem e).1 he with ⟨h1, _⟩ | ⟨_, h2, _⟩
        · exact ⟨e, h1, hek, hev⟩
        · rw [hek] at h2; exact absurd h2 hyx
  rcases K.find w hkey es.toList F.keys with ⟨h1, h2⟩ | ⟨j, e0, h1, h2, h3⟩
  · have hno : f x = none := by
      cases hfx : f x with
      | none => rfl
      | some u =>
        obtain ⟨e', he', hk', _⟩ := (hf x ⟨_, hkey⟩ u).1 hfx
        exact absurd hk' (h2 e' he')
    refine ⟨es.push ⟨x, v, clock⟩, clock + 1, ?_, fin _ _ ⟨by simp; omega, stamped_push F.stamped h2, ?_⟩ ?_ ?_ ?_⟩
    · simp [Instr.mapUpdate, run_underlying ht, MapKept.run_getObj_map hb, K.check w false hkey, h1, MapKept.run_setObj_map _ hb, Result.andThen, ChangeMaps.setBlock]
    · intro e he
      simp only [Array.toList_push, List.mem_append, List.mem_singleton] at he
      rcases he with he | rfl
      · exact F.reads e he
      · exact ⟨_, WideElems.rd_mk hkey rfl⟩
    · intro e
      simp only [Array.toList_push, List.mem_append, List.mem_singleton]
      constructor
      · rintro (he | rfl)
        · exact .inl ⟨he, h2 e he⟩
        · exact .inr ⟨.inr rfl, rfl, rfl⟩
      · rintro (⟨he, _⟩ | ⟨he, _⟩)
        · exact .inl he
        · exact he
    · exact ⟨⟨x, v, clock⟩, by simp, rfl⟩
    · simp [hno, hs]
  · have hj : es[j]? = some e0 := by simpa using h2
    have hjl : j < es.toList.length := (List.getElem?_eq_some_iff.1 h2).1
    have hm0 : e0 ∈ es.toList := List.mem_of_getElem? h2
    have hso : f x = some e0.val := (hf x ⟨_, hkey⟩ _).2 ⟨e0, hm0, h3, rfl⟩
    have hkeyf : ∀ e', es[j]? = some e' → ({ e' with key := x, val := v } : MapEntry).key = e'.key := fun e' he' => by rw [hj] at he'; cases he'; exact h3.symm
    have hlist : (es.modify j (fun e' => { e' with key := x, val := v })).toList = es.toList.set j { e0 with key := x, val := v } := by rw [Array.toList_modify, ChangeMaps.modify_eq_set _ _ _ _ h2]
    have who : ∀ e ∈ es.toList.set j { e0 with key := x, val := v }, e = { e0 with key := x, val := v } ∨ (e ∈ es.toList ∧ e.key ≠ x) := by
      intro e he
      obtain ⟨i, hi, ex⟩ := List.getElem_of_mem he
      rw [List.getElem_set] at ex
      split at ex
      · exact Or.inl ex.symm
      · rename_i hne
        have hi' : i < es.toList.length := by simpa using hi
        refine Or.inr ⟨ex ▸ List.getElem_mem hi', ?_⟩
        rw [← h3]
        exact WideElems.other_key F h2 (by rw [List.getElem?_eq_getElem hi', ex]) (fun e1 => hne e1.symm)
    refine ⟨es.modify j (fun e' => { e' with key := x, val := v }), clock, ?_, fin _ _ ⟨by simpa using F.size, stamped_modify F.stamped _ _ (fun _ _ => rfl) (fun e' _ he' => hkeyf e' he'), ?_⟩ ?_ ?_ ?_⟩
    · simp [Instr.mapUpdate, run_underlying ht, MapKept.run_getObj_map hb, K.check w false hkey, h1, hj, h3, K.stays w hkey, MapKept.run_setObj_map _ hb, Result.andThen, ChangeMaps.setBlock]
    · intro e he
      rw [hlist] at he
      rcases who e he with rfl | ⟨he', _⟩
      · exact ⟨_, WideElems.rd_mk hkey rfl⟩
      · exact F.reads e he'
    · intro e
      rw [hlist]
      constructor
      · intro he
        rcases who e he with rfl | h'
        · exact .inr ⟨he, rfl, rfl⟩
        · exact .inl h'
      · rintro (⟨he, hne⟩ | ⟨he, _⟩)
        · obtain ⟨i, hi, rfl⟩ := List.getElem_of_mem he
          have hij : i ≠ j := by
            rintro rfl
            rw [List.getElem?_eq_getElem hi] at h2
            exact hne (by rw [Option.some.inj h2]; exact h3)
          refine List.mem_iff_getElem.2 ⟨i, by simpa using hi, ?_⟩
          rw [List.getElem_set_ne (Ne.symm hij)]
        · exact he
    · refine ⟨{ e0 with key := x, val := v }, ?_, rfl⟩
      rw [hlist]
      exact List.mem_iff_getElem.2 ⟨j, by simpa using hjl, by simp⟩
    · simp [hso, hs]

/-- 'delete(m, x)'. -/
theorem MapV.drop (h : MapV P k w b n f) (K : Keyed P k) {t e : TypeId} (ht : P.underlying t = some (.map k e)) {x : Value} {kl : Lit} (hkey : keyOf P k x = some kl) (ty : TypeId) :
    ∃ es' clock', (Builtin.delete_ #[t, k] ty #[.map (some b), x]).run P w = .ok (.tuple #[]) (ChangeMaps.setBlock w b (.map es' clock')) ∧
      MapV P k (ChangeMaps.setBlock w b (.map es' clock')) b (if (f x).isSome then n - 1 else n) (dropV f x) := by
  obtain ⟨es, clock, hb, F, hs, hf⟩ := h
  rcases K.find w hkey es.toList F.keys with ⟨h1, h2⟩ | ⟨j, e0, h1, h2, h3⟩
  · have hno : f x = none := by
      cases hfx : f x with
      | none => rfl
      | some u =>
        obtain ⟨e', he', hk', _⟩ := (hf x ⟨_, hkey⟩ u).1 hfx
        exact absurd hk' (h2 e' he')
    refine ⟨es, clock, ?_, es, clock, heap_setBlock_same hb _, F, by simp [hno, hs], fun y hy u => ?_⟩
    · simp [Builtin.delete_, run_underlying ht, MapKept.run_getObj_map hb, K.check w _ hkey, h1, MapKept.run_setObj_map _ hb, Result.andThen, ChangeMaps.setBlock]
    · by_cases hyx : y = x
      · subst hyx; rw [dropV_same]; rw [← hno]; exact hf y hy u
      · rw [dropV_ne f hyx]; exact hf y hy u
  · have hjl : j < es.toList.length := (List.getElem?_eq_some_iff.1 h2).1
    have hjs : j < es.size := by simpa using hjl
    have hm0 : e0 ∈ es.toList := List.mem_of_getElem? h2
    have hso : f x = some e0.val := (hf x ⟨_, hkey⟩ _).2 ⟨e0, hm0, h3, rfl⟩
    have hsub : (es.eraseIdxIfInBounds j).toList = es.toList.eraseIdx j := by
      unfold Array.eraseIdxIfInBounds
      rw [dif_pos hjs]
      simp
    have hmem : ∀ e, e ∈ es.toList.eraseIdx j ↔ e ∈ es.toList ∧ e.key ≠ x := by
      intro e
      rw [List.mem_eraseIdx_iff_getElem?]
      constructor
      · rintro ⟨i, hne, hi⟩
        exact ⟨List.mem_of_getElem? hi, by rw [← h3]; exact WideElems.other_key F h2 hi hne⟩
      · rintro ⟨he, hne⟩
        obtain ⟨i, hi⟩ := List.mem_iff_getElem?.1 he
        refine ⟨i, ?_, hi⟩
        rintro rfl
        rw [h2] at hi
        exact hne (by rw [← Option.some.inj hi]; exact h3)
    refine ⟨es.eraseIdxIfInBounds j, clock, ?_, es.eraseIdxIfInBounds j, clock, heap_setBlock_same hb _, ⟨Nat.le_trans (MapFrom.size_erase es j) F.size, stamped_erase F.stamped j, ?_⟩, ?_, fun y hy u => ?_⟩
    · simp [Builtin.delete_, run_underlying ht, MapKept.run_getObj_map hb, K.check w _ hkey, h1, MapKept.run_setObj_map _ hb, Result.andThen, ChangeMaps.setBlock]
    · intro e he
      rw [hsub] at he
      exact F.reads e ((List.eraseIdx_sublist _ _).subset he)
    · simp only [hso, Option.isSome_some, if_true]
      rw [← Array.length_toList, hsub, List.length_eraseIdx_of_lt hjl, Array.length_toList, hs]
    · rw [hsub]
      by_cases hyx : y = x
      · subst hyx
        rw [dropV_same]
        constructor
        · intro h'; cases h'
        · rintro ⟨e, he, hek, _⟩
          exact absurd hek ((hmem e).1 he).2
      · rw [dropV_ne f hyx]; rw [hf y hy u]
        constructor
        · rintro ⟨e, he, hek, hev⟩
          exact ⟨e, (hmem e).2 ⟨he, by rw [hek]; exact hyx⟩, hek, hev⟩
        · rintro ⟨e, he, hek, hev⟩
          exact ⟨e, ((hmem e).1 he).1, hek, hev⟩

/-- 'm[x]' taken as a place, then stored into: m[x] = append(m[x], ..). -/
theorem MapV.entry (h : MapV P k w b n f) (K : KeyLaw P k) {t e : TypeId} (ht : P.underlying t = some (.map k e)) (hn : n < maxLen) {z : Value} (hz : ∀ u : World, (zeroValue e).run P u = .ok z u) {x : Value} {kl : Lit} (hkey : keyOf P k x = some kl) :
    ∃ (st : Nat) (es1 : Array MapEntry) (clock1 : Nat), (Instr.mapEntry t (.map (some b)) x).run P w = .ok (.tuple #[(f x).getD z, goInt st]) (ChangeMaps.setBlock w b (.map es1 clock1)) ∧
      ∀ (w2 : World) (val : Value), w2.heap[b]? = some (.map es1 clock1) → ∃ es' clock', (Instr.entryStore t (.map (some b)) (goInt st) val).run P w2 = .ok () (ChangeMaps.setBlock w2 b (.map es' clock')) ∧
        MapV P k (ChangeMaps.setBlock w2 b (.map es' clock')) b (if (f x).isSome then n else n + 1) (putV f x val) := by
  obtain ⟨es, clock, hb, F, hs, hf⟩ := h
  obtain ⟨v0, st, es1, clock1, h1, h2, h3⟩ := WideElems.entry_then_store K ht hz hb F hkey
  have hv : v0 = (f x).getD z := by
    rcases h2 with ⟨e0, he, hek, rfl⟩ | ⟨hno, rfl⟩
    · rw [(hf x ⟨_, hkey⟩ _).2 ⟨e0, he, hek, rfl⟩]; rfl
    · cases hfx : f x with
      | none => rfl
      | some u =>
        obtain ⟨e', he', hk', _⟩ := (hf x ⟨_, hkey⟩ u).1 hfx
        exact absurd hk' (hno e' he')
  refine ⟨st, es1, clock1, by rw [h1, hv], fun w2 val hw2 => ?_⟩
  obtain ⟨es', clock', h4, h5⟩ := h3 w2 val hw2
  obtain ⟨es2, clock2, h6, hm⟩ := MapV.store ⟨es, clock, hb, F, hs, hf⟩ (Keyed.of_law K) ht hn hkey val
  refine ⟨es', clock', h4, ?_⟩
  rw [h5] at h6
  injection h6 with _ h6
  obtain ⟨es3, clock3, h7, r⟩ := hm
  refine ⟨es3, clock3, ?_, r⟩
  rw [heap_setBlock_same hw2]
  rw [← h6, heap_setBlock_same hb] at h7
  exact h7

/-- 'len(m)'. -/
theorem MapV.len (h : MapV P k w b n f) {t e : TypeId} (ht : P.underlying t = some (.map k e)) (ty : TypeId) : (Builtin.len_ #[t] ty #[.map (some b)]).run P w = .ok (.int .i64 n) w := by
  obtain ⟨es, clock, hb, F, rfl, _⟩ := h
  simp [Builtin.len_, run_underlying ht, MapKept.run_getObj_map hb, goInt, Result.andThen]
end
end Go.Proofs.Ytdmibpcpocacpaa
