/- Rows of rows put in order, and looked up. No condition but sizes. -/
import Derived.Test.YtiajlmajenabiaaGreatFm47
import Derived.Test.YtiajlmajenabiaaGreatShelfRow
import Derived.Test.YtiajlmajenabiaaGreatB1
import Derived.Deep.Slices
import Derived.RangeFuncNested
import Derived.RangeFuncBound
import Derived.RangeFuncCalls
import Derived.RangeFuncLeaves
import Derived.Shelf.Abstract
import Derived.Shelf.RegionOpen
import Derived.OwnWalkIn
import Derived.TacticsInMore
import Derived.LoopNIn
import Derived.LoopIn
import Derived.Maps.AppendAt
import Derived.Test.YtiajlmajenabiaaGreatSh47
import Derived.Deep.QuietTactic
namespace Go.Proofs.YtiajlmajenabiaaGreat
open Go.RowKit Go.Sort Go.Shelf

set_option linter.unusedSimpArgs false
set_option linter.unusedVariables false
section
variable {α : Type} [Inhabited α]
theorem heap_sortWorld (enc : α → Value) (w : World) (g m : Nat) (d : Array α) (os : Array Obj) {cur : Array Value} {e : TypeId} (hg : w.heap[g]? = some (.cells cur e (0, 0))) :
    (sortWorld enc w g 0 m d os).heap[g]? = some (.cells (putCells enc 0 d cur) e (0, 0)) := by
  have hlt : g < w.heap.size := (Array.getElem?_eq_some_iff.1 hg).1
  unfold sortWorld
  rw [heap_grow_old _ _ (by simp [putRow, mapBlock, Sort.ahead]; exact hlt)]
  unfold putRow mapBlock Sort.ahead
  simp only [Array.getElem?_modify, if_true, hg, Option.map_some]
  rfl
theorem only_sortWorld (enc : α → Value) (w : World) (g m : Nat) (d : Array α) (os : Array Obj) : Only (fun i => i = g) w (sortWorld enc w g 0 m d os) := by
  have hsz : (putRow enc (Sort.ahead w m) g 0 d).heap.size = w.heap.size := by simp [putRow, mapBlock, Sort.ahead]
  refine ⟨rfl, rfl, rfl, ?_, fun i hi hn => ?_⟩
  · unfold sortWorld
    rw [size_grow, hsz]
    exact Nat.le_add_right _ _
  · unfold sortWorld
    rw [heap_grow_old _ _ (by rw [hsz]; exact hi)]
    unfold putRow mapBlock Sort.ahead
    simp only [Array.getElem?_modify, if_neg (Ne.symm hn)]
theorem own_sortW {w : World} {B g n c : Nat} {e : TypeId} {enc : α → Value} {xs : List Value} (h : w.ownsRow B e 1 (.slice (some ⟨g, 0, none⟩) n c) n xs) {d : Array α} (hd : d.size = n) (m : Nat) (os : Array Obj) :
    (sortWorld enc w g 0 m d os).ownsRow B e 1 (.slice (some ⟨g, 0, none⟩) n c) n (d.toList.map enc) := by
  rcases h.2 with ⟨h0, _⟩ | ⟨g', cap', cur, hv, hb, hh, hc, hm, hcs, htk⟩
  · cases h0
  · injection hv with hv _ hcap
    injection hv with hv
    injection hv with hv _ _
    subst hv hcap
    refine ⟨by simp [hd], .inr ⟨g, c, _, rfl, hb, heap_sortWorld enc w g m d os hh, hc, hm, by simp [putCells, hcs], ?_⟩⟩
    apply List.ext_getElem?
    intro j
    rw [Nat.mul_one, List.getElem?_take]
    by_cases hj : j < n
    · rw [if_pos hj, Array.getElem?_toList]
      unfold putCells
      have h1 : j < cur.size := by rw [hcs]; omega
      have h2 : j < d.size := by omega
      rw [Array.getElem?_mapIdx, Array.getElem?_eq_getElem h1, Option.map_some, if_pos ⟨Nat.zero_le _, by rw [Nat.zero_add]; exact h2⟩, List.getElem?_map, Array.getElem?_toList, Array.getElem?_eq_getElem h2]
      simp only [Nat.sub_zero, Option.map_some]
      rw [getElem!_pos d j h2]
    · rw [if_neg hj, List.getElem?_eq_none (by simp; omega)]
theorem own_holds1 {w : World} {B g n c : Nat} {e : TypeId} {enc : α → Value} {d : Array α} (h : w.ownsRow B e 1 (.slice (some ⟨g, 0, none⟩) n c) n (d.toList.map enc)) : Holds enc w g 0 d := by
  intro j hj
  have h1 := World.ownsRow.cells h (g := g) rfl j (enc d[j]!) (by rw [List.getElem?_map, Array.getElem?_toList, Array.getElem?_eq_getElem hj, getElem!_pos d j hj]; rfl)
  rw [show (⟨g, 0, none⟩ : Addr).add j = ⟨g, j, none⟩ by unfold Addr.add; split <;> simp_all] at h1
  obtain ⟨cs, hb⟩ := own_blk h (k := g) rfl
  rw [Nat.zero_add]
  exact ⟨h1, hb.frozen j⟩
end
def wayAt (L : List Way) (i : Nat) : Way := L.getD i ((none, 0), [])
def encR (L : List Way) (i : Nat) : Value := wayC (wayAt L (clK L.length i))
theorem wayAt_mem {L : List Way} {i : Nat} (h : i < L.length) : wayAt L i ∈ L := by
  unfold wayAt
  rw [List.getD, List.getElem?_eq_getElem h]
  exact List.getElem_mem h
/-- The rows can be held against each other, whatever becomes of block g. -/
def Held (g : Nat) (L M : List Way) (w : World) : Prop := ∀ x ∈ L, ∀ y ∈ M, ∀ W, Only (fun i => i = g) w W → Calls Tryz.prog 55 #[wayC x, wayC y] W (IsPost W (.int .i64 (cmpL x.2 y.2)))
def cfR (L : List Way) (i j : Nat) : Int := cmpL (wayAt L (clK L.length i)).2 (wayAt L (clK L.length j)).2
theorem ltOf_cfR (L : List Way) (i j : Nat) : ltOf (cfR L) i j = true ↔ ltL (wayAt L (clK L.length i)).2 (wayAt L (clK L.length j)).2 := by
  unfold ltOf cfR ltL
  rw [decide_eq_true_eq]
theorem ltOf_cfR_no (L : List Way) (i j : Nat) : ltOf (cfR L) i j = false ↔ ¬ ltL (wayAt L (clK L.length i)).2 (wayAt L (clK L.length j)).2 := by
  rw [← ltOf_cfR]; simp
theorem swoR (L : List Way) : SWO (ltOf (cfR L)) where
  irrefl x := by rw [ltOf_cfR_no]; exact ltL_irr _
  trans x y z h1 h2 := by rw [ltOf_cfR] at *; exact ltL_trans h1 h2
  ntrans x y z h1 h2 := by rw [ltOf_cfR_no] at *; exact ltL_ntrans h1 h2
def SortedW (L : List Way) : Prop := L.Pairwise fun x y => ¬ ltL y.2 x.2
theorem map_wayAt {L : List Way} {p : List Nat} (h : p.Perm (List.range L.length)) : (p.map (wayAt L)).Perm L := by
  have h1 := h.map (wayAt L)
  have h2 : (List.range L.length).map (wayAt L) = L := by
    refine List.ext_getElem? fun i => ?_
    rw [List.getElem?_map]
    by_cases hi : i < L.length
    · rw [List.getElem?_range hi, List.getElem?_eq_getElem hi]
      simp [wayAt, List.getD, List.getElem?_eq_getElem hi]
    · rw [List.getElem?_eq_none (by simp; omega), List.getElem?_eq_none (by omega)]
      rfl
  rw [h2] at h1
  exact h1
theorem sortRows_any (B g c : Nat) (L : List Way) (w : World) (hn : 0 < L.length) (hmx : L.length ≤ 1000000) (h : w.ownsRow B 25 1 (.slice (some ⟨g, 0, none⟩) L.length c) L.length (L.map wayC)) (hH : Held g L L w) :
    Calls Tryz.prog 54 #[.slice (some ⟨g, 0, none⟩) L.length c, .func (.func 55) #[] #[]] w fun e w' =>
      e = .returned (.tuple #[]) ∧ ∃ L' : List Way, L'.Perm L ∧ SortedW L' ∧ w'.ownsRow B 25 1 (.slice (some ⟨g, 0, none⟩) L.length c) L.length (L'.map wayC) ∧ Only (fun i => i = g) w w' := by
  have eg : ∀ args w, (callFunc 55 args).run Tryz.prog w = .ok (.enter 55 args) w := enters_of Tryz.func55 (by kernel_rfl) rfl
  have hcl : ∀ i, wayAt L (clK L.length i) ∈ L := fun i => wayAt_mem (clK_lt hn i)
  have hcmp : CmpLays1 Tryz.prog 55 #[] (encR L) (cfR L) g 0 (Array.range L.length).size w := fun m os dk _ x y => by
    refine Calls.mono (hH _ (hcl x) _ (hcl y) _ (only_sortWorld (encR L) w g m dk os)) fun e w' h => ⟨h.1, 0, #[], ?_⟩
    rw [h.2, grow_empty]
    rfl
  have hlst : (Array.range L.length).toList.map (encR L) = L.map wayC := by
    refine List.ext_getElem? fun i => ?_
    rw [List.getElem?_map, List.getElem?_map]
    by_cases hi : i < L.length
    · rw [show (Array.range L.length).toList = List.range L.length by simp, List.getElem?_range hi, List.getElem?_eq_getElem hi]
      simp only [Option.map_some, encR, clK_of hi]
      unfold wayAt
      rw [List.getD, List.getElem?_eq_getElem hi]
      rfl
    · rw [List.getElem?_eq_none (by simp; omega), List.getElem?_eq_none (by omega)]
      rfl
  have hHo : Holds (encR L) w g 0 (Array.range L.length) := own_holds1 (by rw [hlst]; exact h)
  obtain ⟨cs, hb⟩ := own_blk h (k := g) rfl
  have hcon := Any.slices_SortFunc Tryz.sortR (encR L) (fun x => by unfold encR wayC; rfl) (cfR L) (swoR L) 55 #[] g 0 c (Array.range L.length) w eg hcmp hHo hb.lt (by simp; omega)
  rw [show (Array.range L.length).size = L.length by simp] at hcon
  refine hcon.mono ?_
  rintro e w' ⟨he, d, n, os, hp, hs, hw⟩
  subst hw
  have hds : d.size = L.length := by have := hp.1; simpa using this
  have hperm : d.toList.Perm (List.range L.length) := by
    have := hp.2.2
    rw [show d.extract 0 L.length = d by rw [← hds]; simp, show (Array.range L.length).extract 0 L.length = Array.range L.length by simp] at this
    simpa using this
  have hlt : ∀ k, k < L.length → d[k]! < L.length := fun k hk => by
    have hk' : k < d.size := by omega
    rw [getElem!_pos d k hk']
    have := hperm.mem_iff.1 (Array.getElem_mem_toList hk')
    exact List.mem_range.1 this
  have hmp : d.toList.map (encR L) = (d.toList.map (wayAt L)).map wayC := by
    rw [List.map_map]
    refine List.map_congr_left fun i hi => ?_
    have := List.mem_range.1 (hperm.mem_iff.1 hi)
    simp only [Function.comp, encR, clK_of this]
  refine ⟨he, d.toList.map (wayAt L), map_wayAt hperm, ?_, by rw [← hmp]; exact own_sortW h hds n os, only_sortWorld _ _ _ _ _ _⟩
  unfold SortedW
  rw [List.pairwise_map, List.pairwise_iff_getElem]
  intro i j hi hj hij
  have hi' : i < d.size := by simpa using hi
  have hj' : j < d.size := by simpa using hj
  have h2 := hs i j (Nat.zero_le _) hij (by first | omega | (simp; omega))
  have hli := hlt i (by omega)
  have hlj := hlt j (by omega)
  rw [getElem!_pos d i hi'] at hli h2
  rw [getElem!_pos d j hj'] at hlj h2
  rw [ltOf_cfR_no, clK_of hli, clK_of hlj] at h2
  simpa using h2
theorem split_mono (p : Nat → Bool) (hm : ∀ a b, a ≤ b → p b = true → p a = true) : ∀ n : Nat, ∃ i, i ≤ n ∧ (∀ t, t < i → p t = true) ∧ ∀ t, i ≤ t → t < n → p t = false
  | 0 => ⟨0, Nat.le_refl _, fun t h => absurd h (Nat.not_lt_zero t), fun t _ h => absurd h (Nat.not_lt_zero t)⟩
  | n + 1 => by
    obtain ⟨i, h1, h2, h3⟩ := split_mono p hm n
    cases hp : p n with
    | true =>
      refine ⟨n + 1, Nat.le_refl _, fun t ht => ?_, fun t ht h => by omega⟩
      exact hm t n (by omega) hp
    | false =>
      refine ⟨i, by omega, h2, fun t h4 h5 => ?_⟩
      rcases Nat.lt_or_ge t n with h6 | h6
      · exact h3 t h4 h6
      · obtain rfl : t = n := by omega
        exact hp
theorem searchRows_any (B g c : Nat) (L : List Way) (x : Way) (w : World) (hn : 0 < L.length) (hmx : L.length ≤ 1000000) (hs : SortedW L) (h : w.ownsRow B 25 1 (.slice (some ⟨g, 0, none⟩) L.length c) L.length (L.map wayC)) (hH : Held g L [x] w) :
    Calls Tryz.prog 68 #[.slice (some ⟨g, 0, none⟩) L.length c, wayC x, .func (.func 55) #[] #[]] w fun e w' =>
      (∃ k : Int, e = .returned (.tuple #[.int .i64 k, .bool (decide (x.2 ∈ L.map Prod.snd))])) ∧ w'.ownsRow B 25 1 (.slice (some ⟨g, 0, none⟩) L.length c) L.length (L.map wayC) ∧ Only (fun i => i = g) w w' := by
  have eg : ∀ args w, (callFunc 55 args).run Tryz.prog w = .ok (.enter 55 args) w := enters_of Tryz.func55 (by kernel_rfl) rfl
  have hcl : ∀ i, wayAt L (clK L.length i) ∈ L := fun i => wayAt_mem (clK_lt hn i)
  let cft : Nat → Int := fun i => cmpL (wayAt L (clK L.length i)).2 x.2
  have hcmp : CmpLaysT Tryz.prog 55 #[] (encR L) (wayC x) cft g 0 (Array.range L.length).size w := fun m os dk _ y => by
    refine Calls.mono (hH _ (hcl y) x (List.mem_singleton.2 rfl) _ (only_sortWorld (encR L) w g m dk os)) fun e w' h => ⟨h.1, 0, #[], ?_⟩
    rw [h.2, grow_empty]
    rfl
  have hlst : (Array.range L.length).toList.map (encR L) = L.map wayC := by
    refine List.ext_getElem? fun i => ?_
    rw [List.getElem?_map, List.getElem?_map]
    by_cases hi : i < L.length
    · rw [show (Array.range L.length).toList = List.range L.length by simp, List.getElem?_range hi, List.getElem?_eq_getElem hi]
      simp only [Option.map_some, encR, clK_of hi]
      unfold wayAt
      rw [List.getD, List.getElem?_eq_getElem hi]
      rfl
    · rw [List.getElem?_eq_none (by simp; omega), List.getElem?_eq_none (by omega)]
      rfl
  have hHo : Holds (encR L) w g 0 (Array.range L.length) := own_holds1 (by rw [hlst]; exact h)
  obtain ⟨cs, hb⟩ := own_blk h (k := g) rfl
  have hpw := List.pairwise_iff_getElem.1 hs
  have hge : ∀ i (hi : i < L.length), wayAt L (clK L.length i) = L[i] := fun i hi => by
    rw [clK_of hi]
    simp [wayAt, List.getD, List.getElem?_eq_getElem hi]
  have hmono : ∀ a b, a ≤ b → b < L.length → cft b < 0 → cft a < 0 := fun a b hab hb' hc => by
    have e1 : wayAt L (clK L.length a) = L[a] := hge a (by omega)
    have e2 : wayAt L (clK L.length b) = L[b] := hge b hb'
    show ltL (wayAt L (clK L.length a)).2 x.2
    have hc : ltL (wayAt L (clK L.length b)).2 x.2 := hc
    rw [e2] at hc
    rw [e1]
    rcases Nat.lt_or_ge a b with h1 | h1
    · have h2 := hpw a b (by omega) hb' h1
      rcases ltL_tri L[a].2 x.2 with h3 | h3 | h3
      · exact h3
      · rw [← h3] at hc; exact absurd hc h2
      · exact absurd (ltL_trans hc h3) h2
    · obtain rfl : a = b := by omega
      exact hc
  have hr : ∀ i, i < L.length → (Array.range L.length)[i]! = i := fun i hi => by rw [getElem!_pos (Array.range L.length) i (by simpa using hi)]; simp
  have hcon := Any.slices_BinarySearchFunc Tryz.searchR (encR L) (fun x => by unfold encR wayC; rfl) (wayC x) cft 55 #[] g 0 c (Array.range L.length) w eg hcmp hHo hb.lt (by simp; omega) (fun a b hab hb' hc => by
    have hb2 : b < L.length := by simpa using hb'
    rw [hr a (by omega)]
    rw [hr b hb2] at hc
    exact hmono a b hab hb2 hc)
  rw [show (Array.range L.length).size = L.length by simp] at hcon
  refine hcon.mono ?_
  rintro e w' ⟨he, n, os, hw⟩
  obtain ⟨k, hk1, hk2, hk3⟩ := split_mono (fun t => decide (t < L.length) && decide (cft t < 0)) (fun a b hab h => by
    simp only [Bool.and_eq_true, decide_eq_true_eq] at h ⊢
    exact ⟨by omega, hmono a b hab h.1 h.2⟩) L.length
  have hcount : ((Array.range L.length).toList.countP fun y => decide (cft y < 0)) = k := by
    refine Lib.countP_boundary _ _ k (by simpa using hk1) (fun t ht => ?_) (fun t h1 h2 => ?_)
    · have := hk2 t ht
      simp only [Bool.and_eq_true, decide_eq_true_eq] at this
      rw [getElem!_pos _ t (by simp; omega)]
      simpa using this.2
    · have h3 : t < L.length := by simpa using h2
      have := hk3 t h1 h3
      rw [getElem!_pos _ t h2]
      simp only [decide_eq_true h3, Bool.true_and] at this
      simpa using this
  rw [hcount] at he
  subst hw
  refine ⟨⟨(k : Int), ?_⟩, by rw [← hlst]; exact own_sortW h (by simp) n os, only_sortWorld _ _ _ _ _ _⟩
  rw [he]
  have hfin : (decide (k < L.length) && decide (cft (Array.range L.length)[k]! = 0)) = decide (x.2 ∈ L.map Prod.snd) := by
    by_cases hkl : k < L.length
    · rw [hr k hkl, decide_eq_true hkl, Bool.true_and]
      by_cases hz : cft k = 0
      · rw [decide_eq_true hz]
        symm
        refine decide_eq_true (List.mem_map.2 ⟨L[k], List.getElem_mem hkl, ?_⟩)
        have : cmpL (wayAt L (clK L.length k)).2 x.2 = 0 := hz
        rw [hge k hkl] at this
        exact cmpL_zero.1 this
      · rw [decide_eq_false hz]
        symm
        refine decide_eq_false fun hmem => hz ?_
        obtain ⟨y, hy, hyx⟩ := List.mem_map.1 hmem
        obtain ⟨i, hi, rfl⟩ := List.getElem_of_mem hy
        have h0 := hk3 k (Nat.le_refl _) hkl
        simp only [decide_eq_true hkl, Bool.true_and, decide_eq_false_iff_not] at h0
        show cmpL (wayAt L (clK L.length k)).2 x.2 = 0
        rw [hge k hkl]
        refine cmpL_zero.2 ?_
        have h1 : ¬ ltL L[k].2 x.2 := by rw [← hge k hkl]; exact h0
        have hci : ¬ (cft i < 0) := by
          show ¬ (cmpL (wayAt L (clK L.length i)).2 x.2 < 0)
          rw [hge i hi, hyx, cmpL_zero.2 rfl]; omega
        have hki : k ≤ i := by
          rcases Nat.lt_or_ge i k with h2 | h2
          · have := hk2 i h2
            simp only [Bool.and_eq_true, decide_eq_true_eq] at this
            exact absurd this.2 hci
          · exact h2
        rcases Nat.lt_or_ge k i with h2 | h2
        · have h3 := hpw k i hkl hi h2
          rw [hyx] at h3
          exact ltL_eq h1 h3
        · obtain rfl : k = i := by omega
          exact hyx
    · rw [decide_eq_false hkl, Bool.false_and]
      symm
      refine decide_eq_false fun hmem => ?_
      obtain ⟨y, hy, hyx⟩ := List.mem_map.1 hmem
      obtain ⟨i, hi, rfl⟩ := List.getElem_of_mem hy
      have := hk2 i (by omega)
      simp only [Bool.and_eq_true, decide_eq_true_eq] at this
      have h2 : cmpL (wayAt L (clK L.length i)).2 x.2 < 0 := this.2
      rw [hge i hi, hyx, cmpL_zero.2 rfl] at h2
      omega
  rw [hfin]
end Go.Proofs.YtiajlmajenabiaaGreat
namespace Go.Proofs.YtiajlmajenabiaaGreat
open Go.ChangeShapes Go.WideShapes Go.ChangeAt Go.RowKit

set_option linter.unusedSimpArgs false
set_option linter.unusedVariables false
structure RowsIn (w : World) (B : Nat) (A : Option Addr) (n : Nat) (L : List Way) : Prop where
  row : Reads w B 1 A n (L.map wayC)
  each : ∀ x ∈ L, Reads w B 1 x.1.1 x.2.length (ZL x.2) ∧ x.2.length ≤ x.1.2 ∧ x.2.length ≤ maxLen
theorem RowsIn.len {w : World} {B n : Nat} {A : Option Addr} {L : List Way} (h : RowsIn w B A n L) : L.length = n := by
  have := h.row.1
  rw [List.length_map] at this
  omega
theorem RowsIn.below {w w' : World} {B n : Nat} {A : Option Addr} {L : List Way} (h : RowsIn w B A n L) (hb : Below B w w') : RowsIn w' B A n L := ⟨h.row.below hb, fun x hx => ⟨(h.each x hx).1.below hb, (h.each x hx).2⟩⟩
theorem RowsIn.more {w : World} {B B' n : Nat} {A : Option Addr} {L : List Way} (h : RowsIn w B A n L) (hb : B ≤ B') : RowsIn w B' A n L := ⟨h.row.more hb, fun x hx => ⟨(h.each x hx).1.more hb, (h.each x hx).2⟩⟩
theorem RowsIn.at_ {w : World} {B n : Nat} {A : Option Addr} {L : List Way} (h : RowsIn w B A n L) {k : Nat} (hk : k < n) : ∃ ad, A = some ad ∧ L[k]? = some (wayAt L k) ∧ wayAt L k ∈ L ∧ w.cell? (ad.add k) = some (wayC (wayAt L k)) ∧ ad.block < B := by
  obtain ⟨ad, u, e, hb, hu, hc⟩ := h.row.at_ hk
  have hl : k < L.length := by rw [h.len]; exact hk
  have hw : wayAt L k = L[k] := by simp [wayAt, List.getD, List.getElem?_eq_getElem hl]
  rw [List.getElem?_map, List.getElem?_eq_getElem hl] at hu
  injection hu with hu
  exact ⟨ad, e, by rw [hw]; exact List.getElem?_eq_getElem hl, wayAt_mem hl, by rw [hw, hc, ← hu], hb⟩
theorem open_rowsI {H : Type} {enc : TypeId × Value → H} {w : World} {base : Nat} {spare : Nat → Bool} {held : Bool} {fuel : Nat} {v : Value} {x : DataW H × List MemPlace}
    (h : DataW.trod enc Tryz.prog w base spare held fuel 33 [v] = some x) : ∃ (A : Option Addr) (n c : Nat) (L : List Way), v = .slice A n c ∧ n ≤ c ∧ n ≤ maxLen ∧ RowsIn w w.heap.size A n L := by
  have hc : Tryz.prog.cellsOf 25 = 1 := by kernel_rfl
  obtain ⟨A, n, c, rfl⟩ : ∃ A n c, v = .slice A n c := by
    rcases Deep.open_slice1 Tryz.underlying33 hc h with ⟨hcs, _⟩ | ⟨a, n', c', m, f, V, D, Pl, hcs, _⟩
    · simp at hcs; exact ⟨_, _, _, hcs⟩
    · simp at hcs; exact ⟨_, _, _, hcs⟩
  rcases Deep.open_slice1 Tryz.underlying33 hc h with ⟨hcs, _⟩ | ⟨a, n', c', m, f, V, D, Pl, hcs, _, hl, hm, hmm, _, hx⟩
  · simp at hcs
    obtain ⟨rfl, rfl, rfl⟩ := hcs
    exact ⟨none, 0, 0, [], rfl, Nat.le_refl _, Nat.zero_le _, ⟨Reads.none_, fun b hb => by cases hb⟩⟩
  · simp at hcs
    obtain ⟨rfl, rfl, rfl⟩ := hcs
    have hnm : n ≤ m := by rw [hmm]; split <;> omega
    obtain ⟨f, hf⟩ := Deep.choose_lt (α := Way) (p := fun i b => V i = wayC b ∧ b.2.length ≤ b.1.2 ∧ b.2.length ≤ maxLen ∧ Reads w w.heap.size 1 b.1.1 b.2.length (ZL b.2)) (n := n) (fun i hi => by
      obtain ⟨_, h2⟩ := hx i (by omega)
      obtain ⟨A', n', c', l, h3, h4, h5, h6, h7, h8⟩ := open_row Tryz.underlying25 Tryz.underlying3 (by kernel_rfl) h2
      subst h4
      exact ⟨((A', c'), l), h3, h5, Nat.le_trans h5 h6, h7⟩)
    refine ⟨some a, n, c, (List.range n).map f, rfl, hl, Nat.le_trans hl hm, ⟨⟨by simp, fun hn => ⟨a, rfl, ?_, fun k u hk => ?_⟩⟩, fun b hb => ?_⟩⟩
    · have := World.block_lt_of_cell? w _ (hx 0 (by omega)).1
      rwa [block_of_add] at this
    · have hkn : k < n := by have := (List.getElem?_eq_some_iff.1 hk).1; simpa using this
      simp [hkn] at hk
      subst hk
      rw [(hx k (by omega)).1, (hf k hkn).1]
    · obtain ⟨i, hi, rfl⟩ := List.mem_map.1 hb
      obtain ⟨h1, h2, h3, h4⟩ := hf i (List.mem_range.1 hi)
      exact ⟨h4, h2, h3⟩
end Go.Proofs.YtiajlmajenabiaaGreat
namespace Go.Proofs.YtiajlmajenabiaaGreat
open Go.RowKit Go.Maps Go.Shelf

set_option linter.unusedSimpArgs false
set_option linter.unusedVariables false
attribute [local go_sem] Oper.semAt_some
theorem onlyK_t {F : Nat → Prop} {A B C : World} (h : Only F A B) (k : Only F B C) : Only F A C := h.trans k
theorem onlyK_b {F : Nat → Prop} {w : World} (hF : ∀ k, w.heap.size ≤ k → F k) (W : World) (l : Nat) (o o' : Obj) (hl : w.heap.size ≤ l) (h : W.heap[l]? = some o) (_ : o.isCells = false) (_ : o.isWalk = false) : Only F W (W.putObj l o') :=
  (Only.refl F W).grown (grownBy_putObj' W l o') (fun k e => by cases e; exact .inl (hF _ hl))
/-- A row of rows, in a box. -/
structure VAt (w : World) (n₀ b1 : Nat) (A : Option Addr) (c : Nat) (L : List Way) : Prop where
  at_ : ∃ w₀ : World, w₀.heap.size = n₀ ∧ Reads w₀ n₀ 1 A L.length (L.map wayC) ∧ Below n₀ w₀ w
  c1 : w.cell? ⟨b1, 0, none⟩ = some (.slice A L.length c)
  l1 : b1 < w.heap.size
section
variable {w w' : World} {n₀ b1 c : Nat} {A : Option Addr} {L : List Way}
theorem VAt.only {F : Nat → Prop} (h : VAt w n₀ b1 A c L) (ho : Only F w w') (hF : ∀ k, F k → n₀ ≤ k) (h1 : ¬ F b1) : VAt w' n₀ b1 A c L := by
  obtain ⟨w₀, rfl, a1, a2⟩ := h.at_
  exact ⟨⟨w₀, rfl, a1, a2.trans (ho.below a2.size fun k hk hf => by have := hF k hf; omega)⟩, (ho.cell h.l1 h1).trans h.c1, Nat.lt_of_lt_of_le h.l1 ho.size⟩
theorem VAt.below (h : VAt w n₀ b1 A c L) (hb : Below w.heap.size w w') : VAt w' n₀ b1 A c L :=
  h.only (F := fun _ => False) (Only.of_below hb _) (fun _ h => h.elim) (fun h => h)
theorem VAt.row (h : VAt w n₀ b1 A c L) {k : Nat} (hk : k < L.length) : ∃ ad, A = some ad ∧ w.cell? (ad.add k) = some (wayC (wayAt L k)) := by
  obtain ⟨w₀, rfl, a1, a2⟩ := h.at_
  obtain ⟨ad, u, e, hb, hu, hc⟩ := (a1.below a2).at_ hk
  refine ⟨ad, e, ?_⟩
  rw [List.getElem?_map, List.getElem?_eq_getElem hk] at hu
  injection hu with hu
  rw [hc, ← hu]
  simp [wayAt, List.getD, List.getElem?_eq_getElem hk]
end
set_option maxRecDepth 100000 in
set_option maxHeartbeats 4000000 in
theorem values1_in (n : Nat) (hn : 1 ≤ n) (l n₀ b1 c : Nat) (A : Option Addr) (L : List Way) (F : Nat → Prop) (hF : ∀ k, F k → n₀ ≤ k) (hF1 : ¬ F b1) (hL : L.length ≤ 1000000) (J Jx : List Way → World → Prop)
    (hY : ∀ pre x W, J pre W → pre.length < L.length → YieldAt Fence.wide (n - 1) Tryz.prog l #[wayC x] W fun e W' =>
      (e = .returned (.bool true) ∧ J (pre ++ [x]) W' ∧ Only F W W') ∨ (e = .returned (.bool false) ∧ Jx (pre ++ [x]) W'))
    (W : World) (hA : VAt W n₀ b1 A c L) (h0 : J [] W) :
    CallsIn Fence.wide n Tryz.prog 97 #[.func (.yield l) #[] #[], .pointer (some ⟨b1, 0, none⟩)] W fun e W' => (∃ v, e = .returned v) ∧ ((∃ ys, ys = L ∧ J ys W') ∨ (∃ pre, pre <+: L ∧ Jx pre W')) := by
  have HA := Lib.hid hA
  have c1 := hA.c1
  obtain ⟨N, hN⟩ : ∃ N, N = L.length := ⟨_, rfl⟩
  rw [← hN] at c1 hL
  have HN := Lib.hid hN
  clear hA hN
  refine callsIn_of_wp Tryz.func97 rfl trivial ?_ rfl
  simp only [Tryz.ntmps97, List.size_toArray, List.length_cons, List.length_nil, Nat.reduceAdd, Nat.reduceSub, Array.replicate_succ, Array.replicate_zero, List.push_toArray, List.append_toArray, List.nil_append, List.cons_append]
  gi_wp2
  gi_loopw [4, 7] (fun _ kv wr => ∃ k : Nat, k ≤ N ∧ kv = .int .i64 (k : Int) ∧ J (L.take k) wr ∧ Hid (VAt wr n₀ b1 A c L)) (fun _ kv _ => N - (intOf kv).toNat)
  case atStart => exact ⟨0, by omega, rfl, by simpa using h0, HA⟩
  case round =>
    obtain ⟨k, hk, rfl, hJk, HAr⟩ := hrel
    by_cases hkN : k < N
    · have hki : (k : Int) < (N : Int) := by omega
      have hkl : k < L.length := by rw [← HN.out]; exact hkN
      obtain ⟨ad, hAd, y⟩ := HAr.out.row hkl
      obtain ⟨x, hx⟩ : ∃ x, x = wayAt L k := ⟨_, rfl⟩
      rw [← hx] at y
      have HT : Hid (L.take (k + 1) = L.take k ++ [x]) := Lib.hid (by rw [List.take_add_one, List.getElem?_eq_getElem hkl, hx]; simp [wayAt, List.getD, List.getElem?_eq_getElem hkl])
      have hyl := hY (L.take k) x wr hJk (by rw [List.length_take]; omega)
      rw [← HT.out] at hyl
      have HPX := Lib.hid (List.take_prefix (k + 1) L)
      obtain ⟨xa, xl⟩ := x
      unfold wayC at y hyl
      obtain ⟨fn, tmps, assign, body, hy, hR⟩ := hyl
      subst hAd
      clear hx hkl
      gi_wp2
      refine hR.mono ?_
      rintro e W3 (⟨rfl, hJ3, hk3⟩ | ⟨rfl, hJx3⟩)
      · have HA3 := Lib.hid (HAr.out.only hk3 hF hF1)
        gi_wp2
        exact ⟨⟨k + 1, by omega, by go_num, hJ3, HA3⟩, by simp [intOf]; omega⟩
      · gi_wp2
        refine bodyPost_ret (results_none rfl _ _ _) rfl ?_
        exact ⟨⟨_, rfl⟩, .inr ⟨_, HPX.out, hJx3⟩⟩
    · obtain rfl : k = N := by omega
      gi_wp2
      go_end0
      exact ⟨⟨_, rfl⟩, .inl ⟨L, rfl, by have := hJk; rw [HN.out, List.take_length] at this; exact this⟩⟩
/-- Values goes through the rows. -/
theorem values_stops (n : Nat) (hn : 1 ≤ n) (n₀ b1 c : Nat) (A : Option Addr) (L : List Way) (F : Nat → Prop) (w : World) (hF : ∀ k, F k → n₀ ≤ k) (hF1 : ¬ F b1) (hL : L.length ≤ 1000000) (hA : VAt w n₀ b1 A c L) :
    SeqStopsK Fence.wide n Tryz.prog 97 #[.pointer (some ⟨b1, 0, none⟩)] (fun x : Way => #[wayC x]) (Only F) (fun ys => ys = L) (fun pre => pre <+: L) L.length w := fun l J Jx W hW hJ hJx hY h0 =>
  (values1_in n hn l n₀ b1 c A L F hF hF1 hL J Jx hY W (hA.below hW) h0).mono fun e W' ⟨he, h⟩ => ⟨he, h⟩
end Go.Proofs.YtiajlmajenabiaaGreat
namespace Go.Proofs.YtiajlmajenabiaaGreat
open Go.RowKit Go.Maps Go.Shelf

set_option linter.unusedSimpArgs false
set_option linter.unusedVariables false
attribute [local go_sem] Oper.semAt_some
theorem new_cells (W : World) (cs : List Value) (t : TypeId) : ∀ j u, cs[j]? = some u → (W.alloc (.cells cs.toArray t)).cell? ((⟨W.heap.size, 0, none⟩ : Addr).add j) = some u := fun j u hj => by
  have e : (⟨W.heap.size, 0, none⟩ : Addr).add j = ⟨W.heap.size, j, none⟩ := by unfold Addr.add; split <;> simp_all
  rw [e, (Blk.new W t cs.toArray).cell]
  simpa using hj
/-- What the loop has at hand in a round. -/
def RAx (B0 : Nat) (sv : Value) (x : Way) (a' : Act) (W : World) : Prop :=
  a' = { tmps := #[.slice none 0 0, sv, .pointer (some ⟨B0, 0, none⟩), undef, .slice none 0 0, wayC x, sv, wayC x, undef, undef, undef, undef, undef], defers := [] }
theorem RAx.own (B0 : Nat) (sv : Value) (x : Way) (a' : Act) (B : Nat) : OwnFrom B (fun (_ : Unit) W => RAx B0 sv x a' W) := fun _ X Y row h hg hr => h
set_option maxRecDepth 100000 in
set_option maxHeartbeats 4000000 in
theorem appendSeqR_in (n : Nat) (hn : 2 ≤ n) (g : Nat) (lb : Array Value) (eg : ∀ args w, (callFunc g args).run Tryz.prog w = .ok (.enter g args) w)
    (S Sp : List Way → Prop) (N : Nat) (hN : N ≤ 1000000) (w : World) (hseq : SeqStopsK Fence.wide (n - 1) Tryz.prog g lb (fun x : Way => #[wayC x]) (Only (fun k => w.heap.size ≤ k)) S Sp N w) :
    CallsIn Fence.wide n Tryz.prog 132 #[.slice none 0 0, .func (.func g) #[] lb] w fun e w' => ∃ (v : Value) (ss : List Way), e = .returned v ∧ S ss ∧ w'.ownsRow w.heap.size 25 1 v ss.length (ss.map wayC) ∧ Below w.heap.size w w' := by
  have h1 : 1 ≤ n := by omega
  obtain ⟨i0, hi, hz0, hz1, hz2⟩ := info_parts (show (Tryz.prog.info? 25).map (fun i => (i.zero, i.size, i.bytes)) = some (some (.slice none 0 0), 1, 24) by kernel_rfl)
  refine callsIn_of_wp_marks Tryz.func132 rfl trivial ?_ rfl
  simp only [Tryz.ntmps132, List.size_toArray, List.length_cons, List.length_nil, Nat.reduceAdd, Nat.reduceSub, Array.replicate_succ, Array.replicate_zero, List.push_toArray, List.append_toArray, List.nil_append, List.cons_append]
  gi_wp2
  obtain ⟨W0, hW0⟩ : ∃ W0, w.alloc (.cells #[.slice none 0 0] 33) = W0 := ⟨_, rfl⟩
  have hs0 : W0.heap.size = w.heap.size + 1 := by rw [← hW0]; simp
  have hv0 : Boxed W0 w.heap.size 33 (.slice none 0 0) := by rw [← hW0]; exact Boxed.new _ _ _
  have hb0 : Below w.heap.size w W0 := by rw [← hW0]; exact (Below.refl _ w).alloc (Nat.le_refl _) _
  rw [hW0]
  refine wpIn_rangeFunc_ownH rfl h1 (gf := g) (lb := lb) rfl trivial eg hseq onlyK_t (onlyK_b (fun k hk => by omega)) hb0 (fun _ => rfl)
    (fun (pre : List Way) W => (∃ v, Boxed W w.heap.size 33 v ∧ W.ownsRow w.heap.size 25 1 v pre.length (pre.map wayC) ∧ True) ∧ Below w.heap.size w W)
    (fun _ _ _ => False)
    (OwnFrom.and (Own.from (holdsRow_own w.heap.size w.heap.size 33 25 1 (fun pre : List Way => pre.length) (fun pre => pre.map wayC) (fun _ _ => True)) _) (ownFrom_below (Nat.le_refl _) (by omega)))
    (fun _ _ _ _ _ hs _ _ => hs)
    ⟨⟨_, hv0, World.ownsRow_nil _ _ _ _, trivial⟩, hb0⟩
    (RAx w.heap.size (.func (.func g) #[] lb)) (fun x a' => RAx.own _ _ _ _ _) ?assign ?body ?done ?stop
  case assign =>
    rintro l pre ⟨xa, xl⟩ W K ⟨⟨v, hv, hrow, _⟩, hB⟩ hK
    simp only [wayC]
    gi_wp2
    exact hK _ _ (KeepsFrom.refl _ _) (Only.refl _ _) ⟨⟨v, hv, hrow, trivial⟩, hB⟩ rfl
  case body =>
    rintro l pre ⟨xa, xl⟩ a' W hl ⟨r, hr⟩ ⟨⟨v, hv, hrow, _⟩, hB⟩ hax hlt
    unfold RAx wayC at hax
    subst hax
    have hc := hv.cell
    have hfz := hv.frozen
    have hsz := hB.size
    have hnew := new_cells W [.slice xa.1 xl.length xa.2] 25
    dsimp only at hnew ⊢
    gi_wp2_with (gi_at_builtin; refine wpListIn_append_own _ rfl _ _ 33 rfl w.heap.size 25 i0 _ 1 24 Tryz.underlying33 hi hz0 hz1 hz2 rfl (by decide) _ _ _ rfl (hrow.alloc _) ⟨W.heap.size, 0, none⟩ 1 1 [.slice xa.1 xl.length xa.2] rfl rfl hnew (by simp [Value.oneCell']) (by simp only [maxLen]; omega) (by omega) (by simp; omega) ?_; intro v' w1 hown' hgrow _; obtain ⟨g', cap', rfl⟩ := ownsRow_succ hown'; obtain ⟨hv1, hv2, hr2, hk2, hb2⟩ := hv.appended (by decide) hrow hB.size (Nat.le_refl _) hown' hgrow; have hc1 := hv1.cell; have hf1 := hv1.frozen)
    have hr3 : (w1.setCell ⟨w.heap.size, 0, none⟩ (.slice (some ⟨g', 0, none⟩) (pre.length + 1) cap')).ownsRow w.heap.size 25 1 (.slice (some ⟨g', 0, none⟩) (pre.length + 1) cap') (pre ++ [(xa, xl)]).length ((pre ++ [(xa, xl)]).map wayC) := by
      rw [List.length_append, List.map_append]
      exact hr2
    exact ⟨hk2.from _, (((Only.refl _ _).alloc _).grown hgrow (fun x hx => .inl (World.ownsRow.lt hrow x hx).1)).setCell (p := ⟨w.heap.size, 0, none⟩) (.inl (Nat.le_refl _)) _, ⟨_, hv2, hr3, trivial⟩, hB.trans hb2⟩
  case done =>
    rintro D ys W hD hS ⟨⟨v, hv, hrow, _⟩, hB⟩ hK
    have hc := hv.cell
    gi_wp2
    refine ⟨by simp, .inl ⟨_, _, rfl, run_takeDeferred hK, ?_⟩⟩
    exact ⟨_, results_tmp rfl _ _ _, v, ys, rfl, hS, ownsRow_putObj hrow _ hK rfl, hB.grown (grownBy_putObj' _ _ _) hB.size (fun k e => by cases e; omega)⟩
  case stop =>
    rintro D c pre W _ _ h _
    exact h.elim
theorem collectR_in (n : Nat) (hn : 3 ≤ n) (g : Nat) (lb : Array Value) (eg : ∀ args w, (callFunc g args).run Tryz.prog w = .ok (.enter g args) w)
    (S Sp : List Way → Prop) (N : Nat) (hN : N ≤ 1000000) (w : World) (hseq : SeqStopsK Fence.wide (n - 1 - 1) Tryz.prog g lb (fun x : Way => #[wayC x]) (Only (fun k => w.heap.size ≤ k)) S Sp N w) :
    CallsIn Fence.wide n Tryz.prog 96 #[.func (.func g) #[] lb] w fun e w' => ∃ (v : Value) (ss : List Way), e = .returned v ∧ S ss ∧ w'.ownsRow w.heap.size 25 1 v ss.length (ss.map wayC) ∧ Below w.heap.size w w' := by
  have h1 : 1 ≤ n := by omega
  have hfA : Fence.wide.fn 132 := trivial
  refine callsIn_of_wp Tryz.func96 rfl trivial ?_ rfl
  simp only [Tryz.ntmps96, List.size_toArray, List.length_cons, List.length_nil, Nat.reduceAdd, Nat.reduceSub, Array.replicate_succ, Array.replicate_zero, List.push_toArray, List.append_toArray, List.nil_append, List.cons_append]
  gi_wp2_with (gi_at_call 132; refine (appendSeqR_in (n - 1) (by omega) g lb eg S Sp N hN _ hseq).mono ?_; rintro e w' ⟨v, ss, rfl, hS, hrow, hb⟩)
  go_ret
  exact ⟨v, ss, rfl, hS, hrow, hb⟩
/-- The rows in order. -/
def SortedRPost (w : World) (L : List Way) (e : Ending) (w' : World) : Prop := ∃ (g c : Nat) (L' : List Way), e = .returned (.slice (some ⟨g, 0, none⟩) L.length c) ∧ L'.Perm L ∧ SortedW L' ∧ w'.ownsRow w.heap.size 25 1 (.slice (some ⟨g, 0, none⟩) L.length c) L.length (L'.map wayC) ∧ Below w.heap.size w w'
set_option maxHeartbeats 4000000 in
theorem sortedR_any (n₀ b1 c : Nat) (A : Option Addr) (L : List Way) (w : World) (hn0 : n₀ ≤ w.heap.size) (hL : L.length ≤ 1000000) (hpos : 0 < L.length) (hA : VAt w n₀ b1 A c L) (hH : ∀ g, w.heap.size ≤ g → ∀ W, Below w.heap.size w W → Held g L L W) :
    Calls Tryz.prog 65 #[.func (.func 97) #[] #[.pointer (some ⟨b1, 0, none⟩)], .func (.func 55) #[] #[]] w (SortedRPost w L) := by
  have egv : ∀ args w, (callFunc 97 args).run Tryz.prog w = .ok (.enter 97 args) w := enters_of Tryz.func97 (by kernel_rfl) rfl
  have HC : Hid (Calls Tryz.prog 96 #[.func (.func 97) #[] #[.pointer (some ⟨b1, 0, none⟩)]] w fun e w' => ∃ (g c : Nat), e = .returned (.slice (some ⟨g, 0, none⟩) L.length c) ∧ w'.ownsRow w.heap.size 25 1 (.slice (some ⟨g, 0, none⟩) L.length c) L.length (L.map wayC) ∧ Below w.heap.size w w') := Lib.hid (by
    refine callsIn_wide.1 ((collectR_in 3 (Nat.le_refl _) _ _ egv (fun ys => ys = L) (fun pre => pre <+: L) L.length hL w (values_stops 1 (Nat.le_refl _) n₀ b1 c A L (fun k => w.heap.size ≤ k) w (fun k hk => Nat.le_trans hn0 hk) (by have := hA.l1; omega) hL hA)).mono ?_)
    rintro e w' ⟨v, ss, rfl, rfl, hrow, hb⟩
    obtain ⟨g, c', hv, _⟩ := World.ownsRow.form hrow (by omega)
    subst hv
    exact ⟨g, c', rfl, hrow, hb⟩)
  have HH := Lib.hid hH
  clear hH hA
  go_enter Tryz.func65, Tryz.ntmps65
  go_wp2_with fail
  refine HC.out.mono ?_
  rintro e w1 ⟨g, c', rfl, hrow, hb⟩
  have HS := Lib.hid (sortRows_any w.heap.size g c' L w1 hpos hL hrow (HH.out g (World.ownsRow.lt hrow g rfl).1 w1 hb))
  have HB1 := Lib.hid hb
  have HGE := Lib.hid (World.ownsRow.lt hrow g rfl).1
  obtain ⟨n, hn⟩ : ∃ n, n = L.length := ⟨_, rfl⟩
  rw [← hn] at HS ⊢
  have HN := Lib.hid hn
  clear hrow hb hn HC
  go_wp2_with fail
  refine HS.out.mono ?_
  rintro e w2 ⟨rfl, L', hp, hs, ho, hb⟩
  have HB2 : Hid (Below w.heap.size w w2) := Lib.hid (HB1.out.trans (hb.below HB1.out.size fun k hk e => by have := HGE.out; omega))
  go_wp2_with fail
  go_ret
  exact ⟨g, c', L', by rw [← HN.out]; rfl, hp, hs, by rw [← HN.out]; exact ho, HB2.out⟩
end Go.Proofs.YtiajlmajenabiaaGreat
namespace Go.Proofs.YtiajlmajenabiaaGreat
open Go.RowKit

set_option linter.unusedSimpArgs false
set_option linter.unusedVariables false
/-- A renumbering of n numbers. -/
def PermI (n : Int) (l : List Int) : Prop := (l.length : Int) = n ∧ (∀ x ∈ l, 0 ≤ x ∧ x < n) ∧ l.Nodup
instance (n : Int) (l : List Int) : Decidable (PermI n l) := by unfold PermI; exact inferInstance
def boolA (N : Nat) (p : Nat → Bool) : Array Value := ((List.range N).map fun i => Value.bool (p i)).toArray
theorem boolA_at {N i : Nat} (p : Nat → Bool) (h : i < N) : (boolA N p)[i]? = some (.bool (p i)) := by simp [boolA, h]
theorem boolA_set {N i : Nat} (p : Nat → Bool) (b : Bool) : (boolA N p).setIfInBounds i (.bool b) = boolA N (fun j => if j = i then b else p j) := by
  apply Array.ext'
  refine List.ext_getElem? fun j => ?_
  rw [Array.getElem?_toList, Array.getElem?_toList, Array.getElem?_setIfInBounds]
  by_cases hj : j < N
  · by_cases hij : i = j
    · subst hij
      rw [if_pos rfl, if_pos (by simp [boolA]; exact hj), boolA_at _ hj, if_pos rfl]
    · rw [if_neg hij, boolA_at _ hj, boolA_at _ hj, if_neg (fun e => hij e.symm)]
  · by_cases hij : i = j
    · subst hij
      rw [if_pos rfl, if_neg (by simp [boolA]; omega), Array.getElem?_eq_none (by simp [boolA]; omega)]
    · rw [if_neg hij, Array.getElem?_eq_none (by simp [boolA]; omega), Array.getElem?_eq_none (by simp [boolA]; omega)]
theorem madeBoolA (N : Nat) : madeCells (Value.bool false).cells (N * 1) = boolA N (fun _ => false) := by
  apply Array.ext'
  refine List.ext_getElem? fun i => ?_
  by_cases hi : i < N
  · simp [madeCells, Value.cells, boolA, hi, Nat.mod_one]
  · rw [List.getElem?_eq_none (by simp [madeCells]; omega), List.getElem?_eq_none (by simp [boolA]; omega)]
theorem bool_infoG : (Tryz.prog.info? 4).map (fun i => (i.zero, i.size, i.bytes)) = some (some (.bool false), 1, 1) := by kernel_rfl
attribute [local irreducible] Blk World.alloc World.setCell World.cell? World.frozen? MapV MapI
set_option maxRecDepth 100000 in
set_option maxHeartbeats 8000000 in
theorem perm_any (n : Int) (A : Option Addr) (c : Nat) (l : List Int) (w : World) (hmx : l.length ≤ 1000000) (h : Reads w w.heap.size 1 A l.length (ZL l)) :
    Calls Tryz.prog 64 #[.slice A l.length c, .int .i64 n] w (BoolPost w (decide (PermI n l))) := by
  have H := Lib.hid h
  obtain ⟨N, hN⟩ : ∃ N, N = l.length := ⟨_, rfl⟩
  obtain ⟨r, hr⟩ : ∃ r, r = decide (PermI n l) := ⟨_, rfl⟩
  rw [← hN, ← hr]
  rw [← hN] at hmx
  have HN := Lib.hid hN
  have HR := Lib.hid hr
  clear h hN hr
  obtain ⟨i0, hi0, hz0, hz1, hz2⟩ := info_parts bool_infoG
  go_enter Tryz.func64, Tryz.ntmps64
  by_cases hn : (N : Int) = n
  · have hb : ((N : Int) != n) = false := by simp [hn]
    have hmk : ∀ wx : World, (Instr.makeSlice 72 (.int .i64 n) (.int .i64 n)).run Tryz.prog wx = .ok (.slice (some ⟨wx.heap.size, 0, none⟩) N N) (wx.alloc (.cells (boolA N (fun _ => false)) 4)) := fun wx => by
      rw [← hn]
      have := run_make_rowN (P := Tryz.prog) 72 4 i0 _ Tryz.underlying72 hi0 hz0 .i64 .i64 N N (Nat.le_refl _) (by rw [hz2]; omega) (by omega) wx
      rw [hz1, madeBoolA] at this
      exact this
    have HNI := Lib.hid hn
    clear hn
    go_upto_region 4 with (fail)
    obtain ⟨wA, hwA⟩ : ∃ U, U = w.alloc (.cells (boolA N (fun _ => false)) 4) := ⟨_, rfl⟩
    have KA : Hid (Blk wA w.heap.size 4 (boolA N (fun i => decide ((i : Int) ∈ l.take 0)))) := by subst hwA; exact Lib.hid (by simpa using Blk.new w 4 (boolA N (fun _ => false)))
    have HBA : Hid (Below w.heap.size w wA) := by subst hwA; exact Lib.hid (bw_alloc (Below.refl _ _) _)
    rw [← hwA]
    obtain ⟨gs, hgs⟩ : ∃ b, b = w.heap.size := ⟨_, rfl⟩
    have HG : Hid (w.heap.size ≤ gs) := Lib.hid (by omega)
    rw [← hgs] at KA
    simp only [← hgs]
    clear hwA hgs hmk
    go_wp2_with fail
    go_loopw [7, 16] (fun _ kv wr => ∃ k : Nat, k ≤ N ∧ kv = .int .i64 (k : Int) ∧ Hid ((∀ x ∈ l.take k, 0 ≤ x ∧ x < n) ∧ (l.take k).Nodup) ∧ Hid (Blk wr gs 4 (boolA N (fun i => decide ((i : Int) ∈ l.take k)))) ∧ Hid (Below w.heap.size w wr)) (fun _ kv _ => N - (intOf kv).toNat)
    case atStart => exact ⟨0, by omega, rfl, Lib.hid ⟨fun x hx => by simp at hx, by simp⟩, KA, HBA⟩
    case round =>
      clear KA HBA
      obtain ⟨k, hk, rfl, HP, Kr, HBr⟩ := hrel
      obtain ⟨wE, hwE⟩ : ∃ wE : World, wE = wr := ⟨_, rfl⟩
      rw [← hwE] at Kr HBr ⊢
      clear hwE
      by_cases hkN : k < N
      · have hki : (k : Int) < (N : Int) := by omega
        obtain ⟨ad, x, hA, _, hx, y⟩ := zl_read (H.out.below HBr.out) (show k < l.length by rw [← HN.out]; exact hkN)
        have HX := Lib.hid hx
        have HTK : Hid (l.take (k + 1) = l.take k ++ [x]) := Lib.hid (by rw [List.take_add_one, hx]; rfl)
        have hxm : x ∈ l := List.mem_of_getElem? hx
        have HXM := Lib.hid hxm
        subst hA
        clear hx hxm
        have no : (¬ (0 ≤ x ∧ x < n) ∨ x ∈ l.take k) → Hid (r = false) := fun h => Lib.hid (by
          rw [HR.out]
          refine decide_eq_false fun hp => ?_
          rcases h with h | h
          · exact h (hp.2.1 x HXM.out)
          · have hnd := hp.2.2
            have hx' := HX.out
            rw [← List.take_append_drop k l] at hnd
            have hd : x ∈ l.drop k := by
              have hkl : k < l.length := by rw [← HN.out]; exact hkN
              rw [List.drop_eq_getElem_cons hkl]
              rw [List.getElem?_eq_getElem hkl] at hx'
              injection hx' with hx'
              rw [hx']; exact List.mem_cons_self
            exact (List.nodup_append.1 hnd).2.2 x h x hd rfl)
        have NO := Lib.hid no
        clear no
        by_cases hx0 : x < 0
        · have HF := NO.out (.inl (by omega))
          go_wp2_with fail
          go_ret
          exact ⟨by rw [HF.out]; rfl, HBr.out⟩
        · by_cases hxn : n ≤ x
          · have HF := NO.out (.inl (by omega))
            go_wp2_with fail
            go_ret
            exact ⟨by rw [HF.out]; rfl, HBr.out⟩
          · obtain ⟨q, rfl⟩ : ∃ q : Nat, x = (q : Int) := ⟨x.toNat, by omega⟩
            have hqN : q < N := by have := HNI.out; omega
            have hqi : (q : Int) < (N : Int) := by omega
            have c0 : wE.cell? ⟨gs, q, none⟩ = some (.bool (decide ((q : Int) ∈ l.take k))) := by rw [Kr.out.cell]; exact boolA_at _ hqN
            have f0 := Kr.out.frozen q
            by_cases hin : (q : Int) ∈ l.take k
            · have HF := NO.out (.inr hin)
              rw [decide_eq_true hin] at c0
              clear hin
              go_wp2_with fail
              go_ret
              exact ⟨by rw [HF.out]; rfl, HBr.out⟩
            · rw [decide_eq_false hin] at c0
              have HP2 : Hid ((∀ x ∈ l.take (k + 1), 0 ≤ x ∧ x < n) ∧ (l.take (k + 1)).Nodup) := Lib.hid (by
                rw [HTK.out]
                refine ⟨fun x hx => ?_, ?_⟩
                · rcases List.mem_append.1 hx with hx | hx
                  · exact HP.out.1 x hx
                  · rw [List.mem_singleton.1 hx]; omega
                · rw [List.nodup_append]
                  exact ⟨HP.out.2, by simp, fun a ha b hb e => hin (by rw [← List.mem_singleton.1 hb, ← e]; exact ha)⟩)
              have K2 : Hid (Blk (wE.setCell ⟨gs, q, none⟩ (.bool true)) gs 4 (boolA N (fun i => decide ((i : Int) ∈ l.take (k + 1))))) := Lib.hid (by
                have h1 := Kr.out.set_ q (.bool true)
                rw [boolA_set] at h1
                have e : (fun j => if j = q then true else decide ((j : Int) ∈ l.take k)) = fun i : Nat => decide ((i : Int) ∈ l.take (k + 1)) := by
                  funext j
                  rw [HTK.out]
                  by_cases hj : j = q
                  · rw [if_pos hj, hj]; simp
                  · rw [if_neg hj]
                    have : ¬ ((j : Int) = (q : Int)) := by omega
                    simp [this]
                rw [e] at h1
                exact h1)
              have HB2 : Hid (Below w.heap.size w (wE.setCell ⟨gs, q, none⟩ (.bool true))) := Lib.hid (bw_set HBr.out (p := ⟨gs, q, none⟩) HG.out _)
              clear hin
              go_wp2_with fail
              go_roundw
              case rel => exact ⟨k + 1, by omega, by go_num, HP2, K2, HB2⟩
              case measure => simp [intOf]; omega
      · obtain rfl : k = N := by omega
        have HF : Hid (r = true) := Lib.hid (by
          rw [HR.out]
          have h1 := HP.out
          rw [HN.out, List.take_length] at h1
          exact decide_eq_true ⟨by rw [← HN.out]; exact HNI.out, h1.1, h1.2⟩)
        go_wp2_with fail
        go_ret
        exact ⟨by rw [HF.out]; rfl, HBr.out⟩
  · have hb : ((N : Int) != n) = true := by simp [hn]
    have HF : Hid (r = false) := Lib.hid (by rw [HR.out]; exact decide_eq_false fun hp => hn (by rw [HN.out]; exact hp.1))
    go_wp2_with fail
    go_ret
    exact ⟨by rw [HF.out]; rfl, Below.refl _ _⟩
end Go.Proofs.YtiajlmajenabiaaGreat
namespace Go.Proofs.YtiajlmajenabiaaGreat
open Go.RowKit

set_option linter.unusedSimpArgs false
set_option linter.unusedVariables false
attribute [local irreducible] Blk World.alloc World.setCell World.cell? World.frozen? MapV MapI
set_option maxRecDepth 100000 in
set_option maxHeartbeats 8000000 in
/-- One that is no renumbering? -/
theorem notPerm_any (n : Int) (b : Nat) (x : Way) (w : World) (hc : w.cell? ⟨b, 0, none⟩ = some (.int .i64 n)) (hmx : x.2.length ≤ 1000000) (h : Reads w w.heap.size 1 x.1.1 x.2.length (ZL x.2)) :
    Calls Tryz.prog 63 #[wayC x, .pointer (some ⟨b, 0, none⟩)] w (BoolPost w (!decide (PermI n x.2))) := by
  obtain ⟨⟨A, c⟩, l⟩ := x
  have HP := Lib.hid (perm_any n A c l w hmx h)
  obtain ⟨r, hr⟩ : ∃ r, r = decide (PermI n l) := ⟨_, rfl⟩
  unfold wayC
  dsimp only
  rw [← hr] at HP ⊢
  clear hr h
  go_enter Tryz.func63, Tryz.ntmps63
  go_wp2_with fail
  refine HP.out.mono ?_
  rintro e w1 ⟨rfl, hb⟩
  go_wp2_with fail
  go_ret
  exact ⟨rfl, hb⟩
/-- Where the first one is that is no renumbering. -/
def badAt (n : Int) (L : List Way) : Int := if ∀ x ∈ L, PermI n x.2 then -1 else (((L.takeWhile fun x => decide (PermI n x.2)).length : Nat) : Int)
set_option maxRecDepth 100000 in
set_option maxHeartbeats 8000000 in
theorem indexBad_any (n : Int) (b : Nat) (A : Option Addr) (c : Nat) (L : List Way) (w : World) (hb : b < w.heap.size) (hc : w.cell? ⟨b, 0, none⟩ = some (.int .i64 n)) (hmx : L.length ≤ 1000000) (hmy : ∀ x ∈ L, x.2.length ≤ 1000000) (h : RowsIn w w.heap.size A L.length L) :
    Calls Tryz.prog 95 #[.slice A L.length c, .func (.func 63) #[] #[.pointer (some ⟨b, 0, none⟩)]] w fun e w' => (∃ k : Int, e = .returned (.int .i64 k) ∧ (0 ≤ k ↔ ¬ ∀ x ∈ L, PermI n x.2)) ∧ Below w.heap.size w w' := by
  have H := Lib.hid h
  have HC := Lib.hid hc
  have HM := Lib.hid hmy
  have HBL := Lib.hid hb
  obtain ⟨N, hN⟩ : ∃ N, N = L.length := ⟨_, rfl⟩
  rw [← hN] at hmx ⊢
  have HN := Lib.hid hN
  clear h hc hmy hN hb
  go_enter Tryz.func95, Tryz.ntmps95
  go_wp2_with fail
  go_loopw [5, 8] (fun _ kv wr => ∃ k : Nat, k ≤ N ∧ kv = .int .i64 (k : Int) ∧ Hid (∀ x ∈ L.take k, PermI n x.2) ∧ Hid (Below w.heap.size w wr)) (fun _ kv _ => N - (intOf kv).toNat)
  case atStart => exact ⟨0, by omega, rfl, Lib.hid (fun x hx => by simp at hx), Lib.hid (Below.refl _ _)⟩
  case round =>
    obtain ⟨k, hk, rfl, HP, HBr⟩ := hrel
    obtain ⟨wE, hwE⟩ : ∃ wE : World, wE = wr := ⟨_, rfl⟩
    rw [← hwE] at HBr ⊢
    clear hwE
    by_cases hkN : k < N
    · have hki : (k : Int) < (N : Int) := by omega
      have hR := H.out.below HBr.out
      obtain ⟨ad, hA, hLk, hmem, y, _⟩ := hR.at_ (k := k) (by rw [← HN.out]; exact hkN)
      obtain ⟨x, hx⟩ : ∃ x, x = wayAt L k := ⟨_, rfl⟩
      rw [← hx] at hLk hmem y
      have he := hR.each x hmem
      have HNP := Lib.hid (notPerm_any n b x wE ((HBr.out.cell (p := ⟨b, 0, none⟩) HBL.out).trans HC.out) (HM.out x hmem) (he.1.more HBr.out.size))
      have HT : Hid (L.take (k + 1) = L.take k ++ [x]) := Lib.hid (by rw [List.take_add_one, hLk]; rfl)
      have HXM := Lib.hid hmem
      obtain ⟨xa, xl⟩ := x
      unfold wayC at y HNP
      subst hA
      clear hx hLk hmem he hR
      by_cases hp : PermI n xl
      · rw [decide_eq_true hp] at HNP
        have HP2 : Hid (∀ x ∈ L.take (k + 1), PermI n x.2) := Lib.hid (by
          rw [HT.out]
          intro x hx
          rcases List.mem_append.1 hx with hx | hx
          · exact HP.out x hx
          · rw [List.mem_singleton.1 hx]; exact hp)
        clear hp
        go_wp2_with fail
        refine HNP.out.mono ?_
        rintro e w1 ⟨rfl, hb⟩
        have HB1 := Lib.hid (bw_call HBr.out hb)
        clear hb
        go_wp2_with fail
        go_roundw
        case rel => exact ⟨k + 1, by omega, by go_num, HP2, HB1⟩
        case measure => simp [intOf]; omega
      · rw [decide_eq_false hp] at HNP
        have HF : Hid ((0 : Int) ≤ (k : Int) ↔ ¬ ∀ x ∈ L, PermI n x.2) := Lib.hid ⟨fun _ h => hp (h _ HXM.out), fun _ => by omega⟩
        clear hp
        go_wp2_with fail
        refine HNP.out.mono ?_
        rintro e w1 ⟨rfl, hb⟩
        have HB1 := Lib.hid (bw_call HBr.out hb)
        clear hb
        go_wp2_with fail
        go_ret
        exact ⟨⟨_, rfl, HF.out⟩, HB1.out⟩
    · obtain rfl : k = N := by omega
      have HF : Hid ((0 : Int) ≤ -1 ↔ ¬ ∀ x ∈ L, PermI n x.2) := Lib.hid (by
        have h1 := HP.out
        rw [HN.out, List.take_length] at h1
        exact ⟨fun h => by omega, fun h => absurd h1 h⟩)
      go_wp2_with fail
      go_ret
      exact ⟨⟨_, rfl, HF.out⟩, HBr.out⟩
set_option maxRecDepth 100000 in
set_option maxHeartbeats 8000000 in
theorem hasBad_any (n : Int) (b : Nat) (A : Option Addr) (c : Nat) (L : List Way) (w : World) (hb : b < w.heap.size) (hc : w.cell? ⟨b, 0, none⟩ = some (.int .i64 n)) (hmx : L.length ≤ 1000000) (hmy : ∀ x ∈ L, x.2.length ≤ 1000000) (h : RowsIn w w.heap.size A L.length L) :
    Calls Tryz.prog 62 #[.slice A L.length c, .func (.func 63) #[] #[.pointer (some ⟨b, 0, none⟩)]] w (BoolPost w (decide (¬ ∀ x ∈ L, PermI n x.2))) := by
  have HI := Lib.hid (indexBad_any n b A c L w hb hc hmx hmy h)
  obtain ⟨r, hr⟩ : ∃ r, r = decide (¬ ∀ x ∈ L, PermI n x.2) := ⟨_, rfl⟩
  rw [← hr]
  have HR := Lib.hid hr
  obtain ⟨N, hN⟩ : ∃ N, N = L.length := ⟨_, rfl⟩
  rw [← hN] at HI ⊢
  clear h hc hmy hN hb hr
  go_enter Tryz.func62, Tryz.ntmps62
  go_wp2_with fail
  refine HI.out.mono ?_
  rintro e w1 ⟨⟨k, rfl, hk⟩, hb⟩
  have HK : Hid (r = decide (0 ≤ k)) := Lib.hid (by rw [HR.out]; exact decide_eq_decide.2 hk.symm)
  clear hk
  go_wp2_with fail
  go_ret
  exact ⟨by rw [HK.out]; rfl, hb⟩
end Go.Proofs.YtiajlmajenabiaaGreat
namespace Go.Proofs.YtiajlmajenabiaaGreat
open Go.RowKit

set_option linter.unusedSimpArgs false
set_option linter.unusedVariables false
def DrPost (w : World) (b : Bool) (e : Ending) (w' : World) : Prop := e = .returned (.bool b) ∧ ∃ q, w' = w.drewN q
set_option maxRecDepth 100000 in
set_option maxHeartbeats 4000000 in
theorem eqInts_any (X Y : List Int) (B B' : Nat) (A A' : Option Addr) (c c' : Nat) (w : World) (hX : X.length ≤ 1000000) (h1 : Reads w B 1 A X.length (ZL X)) (h2 : Reads w B' 1 A' Y.length (ZL Y)) :
    Calls Tryz.prog 67 #[.slice A X.length c, .slice A' Y.length c'] w (DrPost w (decide (X = Y))) := by
  have H1 := Lib.hid h1
  have H2 := Lib.hid h2
  obtain ⟨r, hr⟩ : ∃ r, r = decide (X = Y) := ⟨_, rfl⟩
  obtain ⟨n, hn⟩ : ∃ n, n = X.length := ⟨_, rfl⟩
  obtain ⟨n', hn'⟩ : ∃ n, n = Y.length := ⟨_, rfl⟩
  rw [← hr, ← hn, ← hn']
  rw [← hn] at hX
  have HR := Lib.hid hr
  have HN := Lib.hid hn
  have HN' := Lib.hid hn'
  clear h1 h2 hr hn hn'
  go_enter Tryz.func67, Tryz.ntmps67
  by_cases hnn : n = n'
  · subst hnn
    go_wp2_with fail
    go_loopw [5, 13] (fun _ iv wr => ∃ k q : Nat, k ≤ n ∧ iv = .int .i64 k ∧ Hid (X.take k = Y.take k) ∧ wr = w.drewN q) (fun _ iv _ => n - (intOf iv).toNat)
    case atStart => exact ⟨0, 0, by omega, rfl, Lib.hid rfl, rfl⟩
    case round =>
      obtain ⟨k, q, hk, rfl, HK, rfl⟩ := hrel
      by_cases hlt : k < n
      · obtain ⟨ad, x, hA, had, hx, hc⟩ := zl_read H1.out (show k < X.length by rw [← HN.out]; exact hlt)
        obtain ⟨ad2, y, hA2, had2, hy, hc2⟩ := zl_read H2.out (show k < Y.length by rw [← HN'.out]; exact hlt)
        have hk0 : (0 : Int) ≤ (k : Int) := by omega
        have hk1 : (k : Int) < (n : Int) := by omega
        have HX := Lib.hid hx
        have HY := Lib.hid hy
        subst hA hA2
        clear hx hy
        by_cases hxy : x = y
        · have hb : (x != y) = false := by simp [hxy]
          have HK2 : Hid (X.take (k + 1) = Y.take (k + 1)) := Lib.hid (by rw [List.take_add_one, List.take_add_one, HK.out, HX.out, HY.out, hxy])
          clear hxy
          go_wp2_with fail
          go_quiet (fail)
          go_wp2_with fail
          exact ⟨⟨k + 1, _, by omega, by go_num, HK2, rfl⟩, by simp [intOf]; omega⟩
        · have hb : (x != y) = true := by simp [hxy]
          have HF : Hid (r = false) := Lib.hid (by
            rw [HR.out]
            refine decide_eq_false fun e => hxy ?_
            have h1 := HX.out
            rw [e, HY.out] at h1
            injection h1 with h1
            exact h1.symm)
          clear hxy
          go_wp2_with fail
          go_quiet (fail)
          go_wp2_with fail
          go_ret
          exact ⟨by rw [HF.out]; rfl, _, World.drewN_drewN _ _ _⟩
      · obtain rfl : k = n := by omega
        have HF : Hid (r = true) := Lib.hid (by
          rw [HR.out]
          have h1 := HK.out
          rw [List.take_of_length_le (by have := HN.out; omega), List.take_of_length_le (by have := HN'.out; omega)] at h1
          exact decide_eq_true h1)
        go_wp2_with fail
        go_ret
        exact ⟨by rw [HF.out]; rfl, q, rfl⟩
  · have hb : ((n : Int) != (n' : Int)) = true := by simp; omega
    have HF : Hid (r = false) := Lib.hid (by
      rw [HR.out]
      refine decide_eq_false fun e => hnn ?_
      rw [HN.out, HN'.out, e])
    go_wp2_with fail
    go_ret
    exact ⟨by rw [HF.out]; rfl, 0, rfl⟩
set_option maxRecDepth 100000 in
set_option maxHeartbeats 4000000 in
theorem refInts_any (X Y : List Int) (B B' : Nat) (A A' : Option Addr) (c c' : Nat) (w : World) (hX : X.length ≤ 1000000) (h1 : Reads w B 1 A X.length (ZL X)) (h2 : Reads w B' 1 A' Y.length (ZL Y)) :
    Calls Tryz.prog 33 #[.slice A X.length c, .slice A' Y.length c'] w (DrPost w (decide (X = Y))) := by
  have H1 := Lib.hid h1
  have H2 := Lib.hid h2
  obtain ⟨r, hr⟩ : ∃ r, r = decide (X = Y) := ⟨_, rfl⟩
  obtain ⟨n, hn⟩ : ∃ n, n = X.length := ⟨_, rfl⟩
  obtain ⟨n', hn'⟩ : ∃ n, n = Y.length := ⟨_, rfl⟩
  rw [← hr, ← hn, ← hn']
  rw [← hn] at hX
  have HR := Lib.hid hr
  have HN := Lib.hid hn
  have HN' := Lib.hid hn'
  clear h1 h2 hr hn hn'
  go_enter Tryz.func33, Tryz.ntmps33
  by_cases hnn : n = n'
  · subst hnn
    go_wp2_with fail
    go_loopw [5] (fun iv wr => ∃ k q : Nat, k ≤ n ∧ iv = .int .i64 k ∧ Hid (X.take k = Y.take k) ∧ wr = w.drewN q) (fun iv _ => n - (intOf iv).toNat)
    case atStart => exact ⟨0, 0, by omega, rfl, Lib.hid rfl, rfl⟩
    case round =>
      obtain ⟨k, q, hk, rfl, HK, rfl⟩ := hrel
      by_cases hlt : k < n
      · obtain ⟨ad, x, hA, had, hx, hc⟩ := zl_read H1.out (show k < X.length by rw [← HN.out]; exact hlt)
        obtain ⟨ad2, y, hA2, had2, hy, hc2⟩ := zl_read H2.out (show k < Y.length by rw [← HN'.out]; exact hlt)
        have hk0 : (0 : Int) ≤ (k : Int) := by omega
        have hk1 : (k : Int) < (n : Int) := by omega
        have HX := Lib.hid hx
        have HY := Lib.hid hy
        subst hA hA2
        clear hx hy
        by_cases hxy : x = y
        · have hb : (x != y) = false := by simp [hxy]
          have HK2 : Hid (X.take (k + 1) = Y.take (k + 1)) := Lib.hid (by rw [List.take_add_one, List.take_add_one, HK.out, HX.out, HY.out, hxy])
          clear hxy
          go_wp2_with fail
          go_quiet (fail)
          go_wp2_with fail
          exact ⟨⟨k + 1, _, by omega, by go_num, HK2, rfl⟩, by simp [intOf]; omega⟩
        · have hb : (x != y) = true := by simp [hxy]
          have HF : Hid (r = false) := Lib.hid (by
            rw [HR.out]
            refine decide_eq_false fun e => hxy ?_
            have h1 := HX.out
            rw [e, HY.out] at h1
            injection h1 with h1
            exact h1.symm)
          clear hxy
          go_wp2_with fail
          go_quiet (fail)
          go_wp2_with fail
          go_ret
          exact ⟨by rw [HF.out]; rfl, _, World.drewN_drewN _ _ _⟩
      · obtain rfl : k = n := by omega
        have HF : Hid (r = true) := Lib.hid (by
          rw [HR.out]
          have h1 := HK.out
          rw [List.take_of_length_le (by have := HN.out; omega), List.take_of_length_le (by have := HN'.out; omega)] at h1
          exact decide_eq_true h1)
        go_wp2_with fail
        go_ret
        exact ⟨by rw [HF.out]; rfl, q, rfl⟩
  · have hb : ((n : Int) != (n' : Int)) = true := by simp; omega
    have HF : Hid (r = false) := Lib.hid (by
      rw [HR.out]
      refine decide_eq_false fun e => hnn ?_
      rw [HN.out, HN'.out, e])
    go_wp2_with fail
    go_ret
    exact ⟨by rw [HF.out]; rfl, 0, rfl⟩
end Go.Proofs.YtiajlmajenabiaaGreat
