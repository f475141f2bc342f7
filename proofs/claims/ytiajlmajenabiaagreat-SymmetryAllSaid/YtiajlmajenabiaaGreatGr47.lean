/- Rows of rows put in order, and looked up. No condition but sizes. -/
import Derived.Test.YtiajlmajenabiaaGreatFm47
import Derived.Test.YtiajlmajenabiaaGreatShelfRow
import Derived.Test.YtiajlmajenabiaaGreatB1
import Derived.Deep.Slices
import Derived.RangeFuncNested
import Derived.RangeFuncBound
import Derived.RangeFuncCalls
import Derived.RangeFuncLeaves
import Derived.Shelf.Abstract
import Derived.Shelf.RegionOpen
import Derived.OwnWalkIn
import Derived.TacticsInMore
import Derived.LoopNIn
import Derived.LoopIn
import Derived.Maps.AppendAt
import Derived.Test.YtiajlmajenabiaaGreatSh47
import Derived.Deep.QuietTactic
set_option maxRecDepth 100000
set_option maxHeartbeats 16000000
set_option linter.all false
namespace Go.Proofs.YtiajlmajenabiaaGreat
open Go.RowKit Go.Sort Go.Shelf
section
variable {α : Type} [Inhabited α]
theorem heap_sortWorld (enc : α → Value) (w : World) (g m : Nat) (d : Array α) (os : Array Obj) {cur : Array Value} {e : TypeId} (hg : w.heap[g]? = some (.cells cur e (0, 0))) :
  (sortWorld enc w g 0 m d os).heap[g]? = some (.cells (putCells enc 0 d cur) e (0, 0)) := by
 have hlt : g < w.heap.size := (Array.getElem?_eq_some_iff.1 hg).1
 unfold sortWorld
 rw [heap_grow_old _ _ (by simp [putRow, mapBlock, Sort.ahead]; exact hlt)]
 unfold putRow mapBlock Sort.ahead
 simp only [Array.getElem?_modify, if_true, hg, Option.map_some]
 rfl
theorem only_sortWorld (enc : α → Value) (w : World) (g m : Nat) (d : Array α) (os : Array Obj) : Only (fun i => i = g) w (sortWorld enc w g 0 m d os) := by
 have hsz : (putRow enc (Sort.ahead w m) g 0 d).heap.size = w.heap.size := by simp [putRow, mapBlock, Sort.ahead]
 refine ⟨rfl, rfl, rfl, ?_, fun i hi hn => ?_⟩
 · unfold sortWorld
   rw [size_grow, hsz]
   exact Nat.le_add_right _ _
 · unfold sortWorld
   rw [heap_grow_old _ _ (by rw [hsz]; exact hi)]
   unfold putRow mapBlock Sort.ahead
   simp only [Array.getElem?_modify, if_neg (Ne.symm hn)]
theorem own_sortW {w : World} {B g n c : Nat} {e : TypeId} {enc : α → Value} {xs : List Value} (h : w.ownsRow B e 1 (.slice (some ⟨g, 0, none⟩) n c) n xs) {d : Array α} (hd : d.size = n) (m : Nat) (os : Array Obj) :
  (sortWorld enc w g 0 m d os).ownsRow B e 1 (.slice (some ⟨g, 0, none⟩) n c) n (d.toList.map enc) := by
 rcases h.2 with ⟨h0, _⟩ | ⟨g', cap', cur, hv, hb, hh, hc, hm, hcs, htk⟩
 · cases h0
 · injection hv with hv _ hcap
   injection hv with hv
   injection hv with hv _ _
   subst hv hcap
   refine ⟨by simp [hd], .inr ⟨g, c, _, rfl, hb, heap_sortWorld enc w g m d os hh, hc, hm, by simp [putCells, hcs], ?_⟩⟩
   apply List.ext_getElem?
   intro j
   rw [Nat.mul_one, List.getElem?_take]
   by_cases hj : j < n
   · rw [if_pos hj, Array.getElem?_toList]
     unfold putCells
     have h1 : j < cur.size := by rw [hcs]; omega
     have h2 : j < d.size := by omega
     rw [Array.getElem?_mapIdx, Array.getElem?_eq_getElem h1, Option.map_some, if_pos ⟨Nat.zero_le _, by rw [Nat.zero_add]; exact h2⟩, List.getElem?_map, Array.getElem?_toList, Array.getElem?_eq_getElem h2]
     simp only [Nat.sub_zero, Option.map_some]
     rw [getElem!_pos d j h2]
   · rw [if_neg hj, List.getElem?_eq_none (by simp; omega)]
theorem own_holds1 {w : World} {B g n c : Nat} {e : TypeId} {enc : α → Value} {d : Array α} (h : w.ownsRow B e 1 (.slice (some ⟨g, 0, none⟩) n c) n (d.toList.map enc)) : Holds enc w g 0 d := by
 intro j hj
 have h1 := World.ownsRow.cells h (g := g) rfl j (enc d[j]!) (by rw [List.getElem?_map, Array.getElem?_toList, Array.getElem?_eq_getElem hj, getElem!_pos d j hj]; rfl)
 rw [show (⟨g, 0, none⟩ : Addr).add j = ⟨g, j, none⟩ by unfold Addr.add; split <;> simp_all] at h1
 obtain ⟨cs, hb⟩ := own_blk h (k := g) rfl
 rw [Nat.zero_add]
 exact ⟨h1, hb.frozen j⟩
end
def wayAt (L : List Way) (i : Nat) : Way := L.getD i ((none, 0), [])
def encR (L : List Way) (i : Nat) : Value := wayC (wayAt L (clK L.length i))
theorem wayAt_mem {L : List Way} {i : Nat} (h : i < L.length) : wayAt L i ∈ L := by
 unfold wayAt
 rw [List.getD, List.getElem?_eq_getElem h]
 exact List.getElem_mem h
def Held (g : Nat) (L M : List Way) (w : World) : Prop := ∀ x ∈ L, ∀ y ∈ M, ∀ W, Only (fun i => i = g) w W → Calls Tryz.prog 55 #[wayC x, wayC y] W (IsPost W (.int .i64 (cmpL x.2 y.2)))
def cfR (L : List Way) (i j : Nat) : Int := cmpL (wayAt L (clK L.length i)).2 (wayAt L (clK L.length j)).2
theorem ltOf_cfR (L : List Way) (i j : Nat) : ltOf (cfR L) i j = true ↔ ltL (wayAt L (clK L.length i)).2 (wayAt L (clK L.length j)).2 := by
 unfold ltOf cfR ltL
 rw [decide_eq_true_eq]
theorem ltOf_cfR_no (L : List Way) (i j : Nat) : ltOf (cfR L) i j = false ↔ ¬ ltL (wayAt L (clK L.length i)).2 (wayAt L (clK L.length j)).2 := by
 rw [← ltOf_cfR]; simp
theorem swoR (L : List Way) : SWO (ltOf (cfR L)) where
 irrefl x := by rw [ltOf_cfR_no]; exact ltL_irr _
 trans x y z h1 h2 := by rw [ltOf_cfR] at *; exact ltL_trans h1 h2
 ntrans x y z h1 h2 := by rw [ltOf_cfR_no] at *; exact ltL_ntrans h1 h2
def SortedW (L : List Way) : Prop := L.Pairwise fun x y => ¬ ltL y.2 x.2
theorem map_wayAt {L : List Way} {p : List Nat} (h : p.Perm (List.range L.length)) : (p.map (wayAt L)).Perm L := by
 have h1 := h.map (wayAt L)
 have h2 : (List.range L.length).map (wayAt L) = L := by
  refine List.ext_getElem? fun i => ?_
  rw [List.getElem?_map]
  by_cases hi : i < L.length
  · rw [List.getElem?_range hi, List.getElem?_eq_getElem hi]
    simp [wayAt, List.getD, List.getElem?_eq_getElem hi]
  · rw [List.getElem?_eq_none (by simp; omega), List.getElem?_eq_none (by omega)]
    rfl
 rw [h2] at h1
 exact h1
theorem sortRows_any (B g c : Nat) (L : List Way) (w : World) (hn : 0 < L.length) (hmx : L.length ≤ 1000000) (h : w.ownsRow B 25 1 (.slice (some ⟨g, 0, none⟩) L.length c) L.length (L.map wayC)) (hH : Held g L L w) :
  Calls Tryz.prog 54 #[.slice (some ⟨g, 0, none⟩) L.length c, .func (.func 55) #[] #[]] w fun e w' =>
   e = .returned (.tuple #[]) ∧ ∃ L' : List Way, L'.Perm L ∧ SortedW L' ∧ w'.ownsRow B 25 1 (.slice (some ⟨g, 0, none⟩) L.length c) L.length (L'.map wayC) ∧ Only (fun i => i = g) w w' := by
 have eg : ∀ args w, (callFunc 55 args).run Tryz.prog w = .ok (.enter 55 args) w := enters_of Tryz.func55 (by kernel_rfl) rfl
 have hcl : ∀ i, wayAt L (clK L.length i) ∈ L := fun i => wayAt_mem (clK_lt hn i)
 have hcmp : CmpLays1 Tryz.prog 55 #[] (encR L) (cfR L) g 0 (Array.range L.length).size w := fun m os dk _ x y => by
  refine Calls.mono (hH _ (hcl x) _ (hcl y) _ (only_sortWorld (encR L) w g m dk os)) fun e w' h => ⟨h.1, 0, #[], ?_⟩
  rw [h.2, grow_empty]
  rfl
 have hlst : (Array.range L.length).toList.map (encR L) = L.map wayC := by
  refine List.ext_getElem? fun i => ?_
  rw [List.getElem?_map, List.getElem?_map]
  by_cases hi : i < L.length
  · rw [show (Array.range L.length).toList = List.range L.length by simp, List.getElem?_range hi, List.getElem?_eq_getElem hi]
    simp only [Option.map_some, encR, clK_of hi]
    unfold wayAt
    rw [List.getD, List.getElem?_eq_getElem hi]
    rfl
  · rw [List.getElem?_eq_none (by simp; omega), List.getElem?_eq_none (by omega)]
    rfl
 have hHo : Holds (encR L) w g 0 (Array.range L.length) := own_holds1 (by rw [hlst]; exact h)
 obtain ⟨cs, hb⟩ := own_blk h (k := g) rfl
 have hcon := Any.slices_SortFunc Tryz.sortR (encR L) (fun x => by unfold encR wayC; rfl) (cfR L) (swoR L) 55 #[] g 0 c (Array.range L.length) w eg hcmp hHo hb.lt (by simp; omega)
 rw [show (Array.range L.length).size = L.length by simp] at hcon
 refine hcon.mono ?_
 rintro e w' ⟨he, d, n, os, hp, hs, hw⟩
 subst hw
 have hds : d.size = L.length := by have := hp.1; simpa using this
 have hperm : d.toList.Perm (List.range L.length) := by
  have := hp.2.2
  rw [show d.extract 0 L.length = d by rw [← hds]; simp, show (Array.range L.length).extract 0 L.length = Array.range L.length by simp] at this
  simpa using this
 have hlt : ∀ k, k < L.length → d[k]! < L.length := fun k hk => by
  have hk' : k < d.size := by omega
  rw [getElem!_pos d k hk']
  have := hperm.mem_iff.1 (Array.getElem_mem_toList hk')
  exact List.mem_range.1 this
 have hmp : d.toList.map (encR L) = (d.toList.map (wayAt L)).map wayC := by
  rw [List.map_map]
  refine List.map_congr_left fun i hi => ?_
  have := List.mem_range.1 (hperm.mem_iff.1 hi)
  simp only [Function.comp, encR, clK_of this]
 refine ⟨he, d.toList.map (wayAt L), map_wayAt hperm, ?_, by rw [← hmp]; exact own_sortW h hds n os, only_sortWorld _ _ _ _ _ _⟩
 unfold SortedW
 rw [List.pairwise_map, List.pairwise_iff_getElem]
 intro i j hi hj hij
 have hi' : i < d.size := by simpa using hi
 have hj' : j < d.size := by simpa using hj
 have h2 := hs i j (Nat.zero_le _) hij (by first | omega | (simp; omega))
 have hli := hlt i (by omega)
 have hlj := hlt j (by omega)
 rw [getElem!_pos d i hi'] at hli h2
 rw [getElem!_pos d j hj'] at hlj h2
 rw [ltOf_cfR_no, clK_of hli, clK_of hlj] at h2
 simpa using h2
end Go.Proofs.YtiajlmajenabiaaGreat
namespace Go.Proofs.YtiajlmajenabiaaGreat
open Go.ChangeShapes Go.WideShapes Go.ChangeAt Go.RowKit
structure RowsIn (w : World) (B : Nat) (A : Option Addr) (n : Nat) (L : List Way) : Prop where
 row : Reads w B 1 A n (L.map wayC)
 each : ∀ x ∈ L, Reads w B 1 x.1.1 x.2.length (ZL x.2) ∧ x.2.length ≤ x.1.2 ∧ x.2.length ≤ maxLen
theorem RowsIn.len {w : World} {B n : Nat} {A : Option Addr} {L : List Way} (h : RowsIn w B A n L) : L.length = n := by
 have := h.row.1
 rw [List.length_map] at this
 omega
theorem RowsIn.below {w w' : World} {B n : Nat} {A : Option Addr} {L : List Way} (h : RowsIn w B A n L) (hb : Below B w w') : RowsIn w' B A n L := ⟨h.row.below hb, fun x hx => ⟨(h.each x hx).1.below hb, (h.each x hx).2⟩⟩
theorem RowsIn.more {w : World} {B B' n : Nat} {A : Option Addr} {L : List Way} (h : RowsIn w B A n L) (hb : B ≤ B') : RowsIn w B' A n L := ⟨h.row.more hb, fun x hx => ⟨(h.each x hx).1.more hb, (h.each x hx).2⟩⟩
theorem RowsIn.at_ {w : World} {B n : Nat} {A : Option Addr} {L : List Way} (h : RowsIn w B A n L) {k : Nat} (hk : k < n) : ∃ ad, A = some ad ∧ L[k]? = some (wayAt L k) ∧ wayAt L k ∈ L ∧ w.cell? (ad.add k) = some (wayC (wayAt L k)) ∧ ad.block < B := by
 obtain ⟨ad, u, e, hb, hu, hc⟩ := h.row.at_ hk
 have hl : k < L.length := by rw [h.len]; exact hk
 have hw : wayAt L k = L[k] := by simp [wayAt, List.getD, List.getElem?_eq_getElem hl]
 rw [List.getElem?_map, List.getElem?_eq_getElem hl] at hu
 injection hu with hu
 exact ⟨ad, e, by rw [hw]; exact List.getElem?_eq_getElem hl, wayAt_mem hl, by rw [hw, hc, ← hu], hb⟩
end Go.Proofs.YtiajlmajenabiaaGreat
namespace Go.Proofs.YtiajlmajenabiaaGreat
open Go.RowKit Go.Maps Go.Shelf
attribute [local go_sem] Oper.semAt_some
structure VAt (w : World) (n₀ b1 : Nat) (A : Option Addr) (c : Nat) (L : List Way) : Prop where
 at_ : ∃ w₀ : World, w₀.heap.size = n₀ ∧ Reads w₀ n₀ 1 A L.length (L.map wayC) ∧ Below n₀ w₀ w
 c1 : w.cell? ⟨b1, 0, none⟩ = some (.slice A L.length c)
 l1 : b1 < w.heap.size
section
variable {w w' : World} {n₀ b1 c : Nat} {A : Option Addr} {L : List Way}
theorem VAt.only {F : Nat → Prop} (h : VAt w n₀ b1 A c L) (ho : Only F w w') (hF : ∀ k, F k → n₀ ≤ k) (h1 : ¬ F b1) : VAt w' n₀ b1 A c L := by
 obtain ⟨w₀, rfl, a1, a2⟩ := h.at_
 exact ⟨⟨w₀, rfl, a1, a2.trans (ho.below a2.size fun k hk hf => by have := hF k hf; omega)⟩, (ho.cell h.l1 h1).trans h.c1, Nat.lt_of_lt_of_le h.l1 ho.size⟩
theorem VAt.below (h : VAt w n₀ b1 A c L) (hb : Below w.heap.size w w') : VAt w' n₀ b1 A c L :=
 h.only (F := fun _ => False) (Only.of_below hb _) (fun _ h => h.elim) (fun h => h)
theorem VAt.row (h : VAt w n₀ b1 A c L) {k : Nat} (hk : k < L.length) : ∃ ad, A = some ad ∧ w.cell? (ad.add k) = some (wayC (wayAt L k)) := by
 obtain ⟨w₀, rfl, a1, a2⟩ := h.at_
 obtain ⟨ad, u, e, hb, hu, hc⟩ := (a1.below a2).at_ hk
 refine ⟨ad, e, ?_⟩
 rw [List.getElem?_map, List.getElem?_eq_getElem hk] at hu
 injection hu with hu
 rw [hc, ← hu]
 simp [wayAt, List.getD, List.getElem?_eq_getElem hk]
end
end Go.Proofs.YtiajlmajenabiaaGreat
namespace Go.Proofs.YtiajlmajenabiaaGreat
open Go.RowKit Go.Maps Go.Shelf
attribute [local go_sem] Oper.semAt_some
def RAx (B0 : Nat) (sv : Value) (x : Way) (a' : Act) (W : World) : Prop :=
 a' = { tmps := #[.slice none 0 0, sv, .pointer (some ⟨B0, 0, none⟩), undef, .slice none 0 0, wayC x, sv, wayC x, undef, undef, undef, undef, undef], defers := [] }
theorem RAx.own (B0 : Nat) (sv : Value) (x : Way) (a' : Act) (B : Nat) : OwnFrom B (fun (_ : Unit) W => RAx B0 sv x a' W) := fun _ X Y row h hg hr => h
end Go.Proofs.YtiajlmajenabiaaGreat
namespace Go.Proofs.YtiajlmajenabiaaGreat
open Go.RowKit
def boolA (N : Nat) (p : Nat → Bool) : Array Value := ((List.range N).map fun i => Value.bool (p i)).toArray
theorem boolA_at {N i : Nat} (p : Nat → Bool) (h : i < N) : (boolA N p)[i]? = some (.bool (p i)) := by simp [boolA, h]
theorem boolA_set {N i : Nat} (p : Nat → Bool) (b : Bool) : (boolA N p).setIfInBounds i (.bool b) = boolA N (fun j => if j = i then b else p j) := by
 apply Array.ext'
 refine List.ext_getElem? fun j => ?_
 rw [Array.getElem?_toList, Array.getElem?_toList, Array.getElem?_setIfInBounds]
 by_cases hj : j < N
 · by_cases hij : i = j
   · subst hij
     rw [if_pos rfl, if_pos (by simp [boolA]; exact hj), boolA_at _ hj, if_pos rfl]
   · rw [if_neg hij, boolA_at _ hj, boolA_at _ hj, if_neg (fun e => hij e.symm)]
 · by_cases hij : i = j
   · subst hij
     rw [if_pos rfl, if_neg (by simp [boolA]; omega), Array.getElem?_eq_none (by simp [boolA]; omega)]
   · rw [if_neg hij, Array.getElem?_eq_none (by simp [boolA]; omega), Array.getElem?_eq_none (by simp [boolA]; omega)]
theorem madeBoolA (N : Nat) : madeCells (Value.bool false).cells (N * 1) = boolA N (fun _ => false) := by
 apply Array.ext'
 refine List.ext_getElem? fun i => ?_
 by_cases hi : i < N
 · simp [madeCells, Value.cells, boolA, hi, Nat.mod_one]
 · rw [List.getElem?_eq_none (by simp [madeCells]; omega), List.getElem?_eq_none (by simp [boolA]; omega)]
theorem bool_infoG : (Tryz.prog.info? 4).map (fun i => (i.zero, i.size, i.bytes)) = some (some (.bool false), 1, 1) := by kernel_rfl
attribute [local irreducible] Blk World.alloc World.setCell World.cell? World.frozen? MapV MapI
end Go.Proofs.YtiajlmajenabiaaGreat
namespace Go.Proofs.YtiajlmajenabiaaGreat
open Go.RowKit
attribute [local irreducible] Blk World.alloc World.setCell World.cell? World.frozen? MapV MapI
end Go.Proofs.YtiajlmajenabiaaGreat
namespace Go.Proofs.YtiajlmajenabiaaGreat
open Go.RowKit
def DrPost (w : World) (b : Bool) (e : Ending) (w' : World) : Prop := e = .returned (.bool b) ∧ ∃ q, w' = w.drewN q
theorem refInts_any (X Y : List Int) (B B' : Nat) (A A' : Option Addr) (c c' : Nat) (w : World) (hX : X.length ≤ 1000000) (h1 : Reads w B 1 A X.length (ZL X)) (h2 : Reads w B' 1 A' Y.length (ZL Y)) :
  Calls Tryz.prog 33 #[.slice A X.length c, .slice A' Y.length c'] w (DrPost w (decide (X = Y))) := by
 have H1 := Lib.hid h1
 have H2 := Lib.hid h2
 obtain ⟨r, hr⟩ : ∃ r, r = decide (X = Y) := ⟨_, rfl⟩
 obtain ⟨n, hn⟩ : ∃ n, n = X.length := ⟨_, rfl⟩
 obtain ⟨n', hn'⟩ : ∃ n, n = Y.length := ⟨_, rfl⟩
 rw [← hr, ← hn, ← hn']
 rw [← hn] at hX
 have HR := Lib.hid hr
 have HN := Lib.hid hn
 have HN' := Lib.hid hn'
 clear h1 h2 hr hn hn'
 go_enter Tryz.func33, Tryz.ntmps33
 by_cases hnn : n = n'
 · subst hnn
   go_wp2_with fail
   go_loopw [5] (fun iv wr => ∃ k q : Nat, k ≤ n ∧ iv = .int .i64 k ∧ Hid (X.take k = Y.take k) ∧ wr = w.drewN q) (fun iv _ => n - (intOf iv).toNat)
   case atStart => exact ⟨0, 0, by omega, rfl, Lib.hid rfl, rfl⟩
   case round =>
    obtain ⟨k, q, hk, rfl, HK, rfl⟩ := hrel
    by_cases hlt : k < n
    · obtain ⟨ad, x, hA, had, hx, hc⟩ := zl_read H1.out (show k < X.length by rw [← HN.out]; exact hlt)
      obtain ⟨ad2, y, hA2, had2, hy, hc2⟩ := zl_read H2.out (show k < Y.length by rw [← HN'.out]; exact hlt)
      have hk0 : (0 : Int) ≤ (k : Int) := by omega
      have hk1 : (k : Int) < (n : Int) := by omega
      have HX := Lib.hid hx
      have HY := Lib.hid hy
      subst hA hA2
      clear hx hy
      by_cases hxy : x = y
      · have hb : (x != y) = false := by simp [hxy]
        have HK2 : Hid (X.take (k + 1) = Y.take (k + 1)) := Lib.hid (by rw [List.take_add_one, List.take_add_one, HK.out, HX.out, HY.out, hxy])
        clear hxy
        go_wp2_with fail
        go_quiet (fail)
        go_wp2_with fail
        exact ⟨⟨k + 1, _, by omega, by go_num, HK2, rfl⟩, by simp [intOf]; omega⟩
      · have hb : (x != y) = true := by simp [hxy]
        have HF : Hid (r = false) := Lib.hid (by
         rw [HR.out]
         refine decide_eq_false fun e => hxy ?_
         have h1 := HX.out
         rw [e, HY.out] at h1
         injection h1 with h1
         exact h1.symm)
        clear hxy
        go_wp2_with fail
        go_quiet (fail)
        go_wp2_with fail
        go_ret
        exact ⟨by rw [HF.out]; rfl, _, World.drewN_drewN _ _ _⟩
    · obtain rfl : k = n := by omega
      have HF : Hid (r = true) := Lib.hid (by
       rw [HR.out]
       have h1 := HK.out
       rw [List.take_of_length_le (by have := HN.out; omega), List.take_of_length_le (by have := HN'.out; omega)] at h1
       exact decide_eq_true h1)
      go_wp2_with fail
      go_ret
      exact ⟨by rw [HF.out]; rfl, q, rfl⟩
 · have hb : ((n : Int) != (n' : Int)) = true := by simp; omega
   have HF : Hid (r = false) := Lib.hid (by
    rw [HR.out]
    refine decide_eq_false fun e => hnn ?_
    rw [HN.out, HN'.out, e])
   go_wp2_with fail
   go_ret
   exact ⟨by rw [HF.out]; rfl, 0, rfl⟩
end Go.Proofs.YtiajlmajenabiaaGreat
