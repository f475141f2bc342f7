/- seam.Ends, walked: by maps.DeleteFunc, and slices.Sorted(maps.Keys(..)). No condition but sizes. -/
import Derived.Test.YtcahbcminonfbaaWake31
import Derived.Test.YtcahbcminonfbaaCornerB
import Derived.Test.YtcahbcminonfbaaShelfEnds
import Derived.Lib.SlKeysI
namespace Go.Proofs.Ytcahbcminonfbaa
open Go.RowKit Go.Maps Go.Sort Go.Shelf
open Go.WideElems (Fit rd rg pl rd_val rd_key)

set_option linter.unusedSimpArgs false
set_option linter.unusedVariables false
/-- Edges that are read, wherever they stand. -/
structure EQ (w : World) (q : Addr) (x y : Int) : Prop where
  c0 : w.cell? q = some (.int .i64 x)
  c1 : w.cell? (q.add 1) = some (.int .i64 y)
  f0 : w.cell? ⟨q.block, q.off, none⟩ = some (.int .i64 x)
  f1 : w.cell? ⟨q.block, q.off + 1, none⟩ = some (.int .i64 y)
structure ES (w : World) (A : Option Addr) (L : List (Int × Int)) : Prop where
  r : Reads w w.heap.size 2 A L.length (L.flatMap cellE)
section
variable {w w' : World} {A : Option Addr} {L : List (Int × Int)}
theorem ES.below (h : ES w A L) (hb : Below w.heap.size w w') : ES w' A L := ⟨(h.r.below hb).more hb.size⟩
theorem ES.at_ (h : ES w A L) {k : Nat} {e : Int × Int} (he : L[k]? = some e) : ∃ ad, A = some ad ∧ ad.block < w.heap.size ∧ EQ w (ad.add (k * 2)) e.1 e.2 := by
  obtain ⟨ad, hA, hb, hc⟩ := h.r.2 (by have := (List.getElem?_eq_some_iff.1 he).1; omega)
  have h1 := flat2 L k e he
  have h2 := hc _ _ h1.1
  have h3 := hc _ _ h1.2
  have e1 := cell_spot h2
  have h4 : w.cell? ((ad.add (k * 2)).add 1) = some (.int .i64 e.2) := by rw [add_of_add]; exact h3
  refine ⟨ad, hA, hb, h2, h4, by rw [← e1]; exact h2, ?_⟩
  have e2 : (ad.add (k * 2)).add 1 = ⟨(ad.add (k * 2)).block, (ad.add (k * 2)).off + 1, none⟩ := by rw [e1]; simp [Addr.add]
  rw [← e2]
  exact h4
end
def flatE (L : List (Int × Int)) : List Int := L.flatMap fun e => [e.1, e.2]
theorem flatE_step {L : List (Int × Int)} {k : Nat} {e : Int × Int} (h : L[k]? = some e) : flatE (L.take (k + 1)) = flatE (L.take k) ++ [e.1] ++ [e.2] := by
  unfold flatE
  rw [List.take_add_one, h, List.flatMap_append]
  simp
/-- How often each number stands in a list, as a map. -/
def cntF (S : List Int) : Int → Option Value := fun x => if S.count x = 0 then none else some (.int .i64 (S.count x : Int))
theorem cntF_snoc (S : List Int) (x : Int) : (fun y => if y = x then some (Value.int .i64 ((S.count x : Int) + 1)) else cntF S y) = cntF (S ++ [x]) := by
  funext y
  unfold cntF
  rw [List.count_append]
  by_cases h : y = x
  · subst h
    rw [if_pos rfl, List.count_singleton_self, if_neg (by omega)]
    simp
  · have hz : List.count y [x] = 0 := by
      rw [List.count_singleton, if_neg]
      simpa using fun e : x = y => h e.symm
    rw [if_neg h, hz, Nat.add_zero]
theorem cntF_get (S : List Int) (x : Int) : (cntF S x).getD (.int .i64 0) = .int .i64 (S.count x : Int) := by
  unfold cntF
  by_cases h : S.count x = 0
  · rw [if_pos h, h]; rfl
  · rw [if_neg h]; rfl
def intR : Value → Option (DataW Unit × List MemPlace)
  | .int .i64 n => some (.lit (.int .i64 n), [])
  | _ => none
theorem own_keys {P : Program} {k : TypeId} {w : World} {b n : Nat} {R : Value → Option (DataW Unit × List MemPlace)} {D : DataW Unit} (hown : w.ownsMap P k R b n D) (hk : P.underlying k = some (.int .i64)) : (intKeys D).Nodup := by
  obtain ⟨es', hD, hpw, _⟩ := hown.entries (int_keyed hk)
  obtain ⟨es'', hD', hko⟩ := hown.keysOf
  obtain rfl : es' = es'' := by rw [hD] at hD'; simpa using hD'
  rw [hD]
  show (es'.map fun p => Go.intOf p.1).Nodup
  refine List.pairwise_map.2 (hpw.imp_of_mem fun {p q} hp' hq' hne e => hne ?_)
  obtain ⟨v, hv⟩ := hko p hp'
  obtain ⟨v', hv'⟩ := hko q hq'
  obtain ⟨a, _, ha, _⟩ := Maps.keyOf_i64 hk hv
  obtain ⟨c, _, hc, _⟩ := Maps.keyOf_i64 hk hv'
  rw [ha, hc] at e ⊢
  exact congrArg _ e
theorem MapI.dataI {P : Program} {k : TypeId} {w : World} {b n : Nat} {f : Int → Option Value} (h : MapI P k w b n f) (hk : P.underlying k = some (.int .i64)) (hv : ∀ x v, f x = some v → ∃ c, v = .int .i64 c) :
    ∃ es0 : List (Lit × DataW Unit), w.ownsMap P k intR b n (.map es0) ∧ ∀ p, p ∈ es0 ↔ ∃ x c, p = (.int .i64 x, .lit (.int .i64 c)) ∧ (Lit.int .i64 x).wf = true ∧ f x = some (.int .i64 c) := by
  obtain ⟨es, clock, hb, F, hs, hf⟩ := h
  have key : ∀ e ∈ es.toList, ∃ x c, e.key = .int .i64 x ∧ e.val = .int .i64 c ∧ (Lit.int .i64 x).wf = true ∧ f x = some (.int .i64 c) ∧ WideElems.rd P k intR e = some (.int .i64 x, .lit (.int .i64 c)) := fun e he => by
    obtain ⟨y, hy⟩ := F.reads e he
    obtain ⟨a, ha, hl, hw⟩ := Maps.keyOf_i64 hk (rd_key hy)
    have hfa : f a = some e.val := (hf a hw e.val).2 ⟨e, he, ha, rfl⟩
    obtain ⟨c, hc⟩ := hv a e.val hfa
    refine ⟨a, c, ha, hc, hw, by rw [hfa, hc], ?_⟩
    have hky := rd_key hy
    rw [hl] at hky
    unfold WideElems.rd
    rw [hky, hc]
    rfl
  have F' : Fit P k intR es clock := ⟨F.size, F.stamped, fun e he => by
    obtain ⟨x, c, _, _, _, _, h⟩ := key e he
    exact ⟨_, h⟩⟩
  refine ⟨_, ⟨es, clock, hb, F', by omega, rfl⟩, fun p => ?_⟩
  rw [mem_sorted, List.mem_map]
  constructor
  · rintro ⟨e, he, rfl⟩
    obtain ⟨x, c, _, _, hw, hfx, h⟩ := key e he
    exact ⟨x, c, WideElems.rg_of h, hw, hfx⟩
  · rintro ⟨x, c, rfl, hw, hfx⟩
    obtain ⟨e, he, hek, hev⟩ := (hf x hw _).1 hfx
    obtain ⟨x', c', hek', hev', _, _, h⟩ := key e he
    refine ⟨e, he, ?_⟩
    rw [WideElems.rg_of h]
    rw [hek] at hek'
    rw [hev] at hev'
    injection hek' with _ h1
    injection hev' with _ h2
    rw [h1, h2]
def not1D (_ : Lit) : DataW Unit → Bool
  | .lit (.int _ v) => v != 1
  | _ => true
theorem not1_any (key : Value) (v : Int) (W : World) : Calls Try.prog 49 (#[key, .int .i64 v] ++ #[]) W fun e w' => e = .returned (.bool (v != 1)) ∧ w' = W := by
  by_cases h : v = 1
  · subst h
    go_enter Try.func49, Try.ntmps49
    go_wp2_with fail
    go_ret
    exact ⟨rfl, rfl⟩
  · have hb : (v != 1) = true := by simpa using h
    rw [hb]
    go_enter Try.func49, Try.ntmps49
    go_wp2_with fail
    go_ret
    exact ⟨rfl, rfl⟩
set_option maxRecDepth 100000 in
/-- The numbers that stand once are left. -/
theorem del_any (b n : Nat) (S : List Int) (w : World) (hm : MapI Try.prog 3 w b n (cntF S)) (hwf : ∀ x ∈ S, (Lit.int .i64 x).wf = true) :
    Calls Try.prog 48 #[.map (some b), .func (.func 49) #[] #[]] w fun e w' => e = .returned (.tuple #[]) ∧ w.grownBy w' (some b) ∧ ∃ D : DataW Unit, w'.ownsMap Try.prog 3 intR b n D ∧ (intKeys D).Nodup ∧ ∀ x, x ∈ intKeys D ↔ S.count x = 1 := by
  have hk := Try.underlying3
  obtain ⟨es0, hown, hmem⟩ := hm.dataI hk (fun x v h => by
    unfold cntF at h
    split at h
    · cases h
    · injection h with h; exact ⟨_, h.symm⟩)
  have eg : ∀ args w, (callFunc 49 args).run Try.prog w = .ok (.enter 49 args) w := enters_of Try.func49 (by kernel_rfl) rfl
  have hcon := AnyDf.maps_DeleteFunc Try.delE (int_keyed hk) intR not1D 49 #[] b n (.map es0) w eg hown (fun W key val kl yd yp _ _ hv => by
    unfold intR at hv
    split at hv
    · rename_i c
      injection hv with hv
      injection hv with hv _
      subst hv
      exact (not1_any key c W).mono fun e w' h => ⟨h.1, h.2 ▸ World.grownBy.refl _ _⟩
    · cases hv)
  refine hcon.mono ?_
  rintro e w' ⟨rfl, h1, h2⟩
  refine ⟨rfl, h2, _, h1, own_keys h1 hk, fun x => ?_⟩
  show x ∈ ((es0.filter fun p => !not1D p.1 p.2).map fun p => Go.intOf p.1) ↔ _
  rw [List.mem_map]
  constructor
  · rintro ⟨p, hp, rfl⟩
    rw [List.mem_filter] at hp
    obtain ⟨y, c, rfl, hw, hfy⟩ := (hmem p).1 hp.1
    unfold cntF at hfy
    split at hfy
    · cases hfy
    · injection hfy with hfy
      injection hfy with _ hfy
      have h3 := hp.2
      simp [not1D] at h3
      show S.count y = 1
      omega
  · intro hx
    have hxm : x ∈ S := List.count_pos_iff.1 (by omega)
    refine ⟨(.int .i64 x, .lit (.int .i64 1)), List.mem_filter.2 ⟨(hmem _).2 ⟨x, 1, rfl, hwf x hxm, ?_⟩, rfl⟩, rfl⟩
    unfold cntF
    rw [if_neg (by omega), hx]
    rfl
end Go.Proofs.Ytcahbcminonfbaa
