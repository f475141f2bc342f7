/- seam.Ends, walked (2). No condition but sizes. -/
import Derived.Test.YtcahbcminonfbaaEndA
import Derived.Test.YtcahbcminonfbaaEdges8
namespace Go.Proofs.Ytcahbcminonfbaa
open Go.RowKit Go.Maps Go.Sort Go.Shelf

set_option linter.unusedSimpArgs false
set_option linter.unusedVariables false
theorem keysI_any (mb : Option Nat) (W : World) :
    Calls Try.prog 51 #[.map mb] W fun e w' => e = .returned (.func (.func 72) #[] #[.pointer (some ⟨W.heap.size, 0, none⟩)]) ∧ w' = W.alloc (.cells #[.map mb] 85) :=
  (callsIn_wide (n := 5)).1 (AnyZI.keys_in Try.keysI Fence.wide 5 trivial rfl mb W)
theorem sortsI (m : Nat) : AnyZI.SortsIn Try.prog Try.sortedI_ren Fence.wide m :=
  ⟨fun blk off cap ss W hH hblk hsz => callsIn_wide.2 (AnyM.slices_Sort_int Try.sortIM blk off cap ss W hH hblk hsz),
   fun p cap W => callsIn_wide.2 (AnyM.slices_Sort_int_none Try.sortIM p cap W)⟩
set_option maxHeartbeats 2000000 in
theorem sortedD_any (b n : Nat) (D : DataW Unit) (L : List Int) (w : World) (hown : w.ownsMap Try.prog 3 intR b n D) (hnd : (intKeys D).Nodup) (hn : n ≤ 1000000) (hL : L.Pairwise (· < ·)) (hLm : ∀ x, x ∈ L ↔ x ∈ intKeys D) :
    Calls Try.prog 50 #[.func (.func 72) #[] #[.pointer (some ⟨w.heap.size, 0, none⟩)]] (w.alloc (.cells #[.map (some b)] 85)) fun e w' => ∃ A c, e = .returned (.slice A L.length c) ∧ w'.ownsRow (w.alloc (.cells #[.map (some b)] 85)).heap.size 3 1 (.slice A L.length c) L.length (ZL L) ∧ Below (w.alloc (.cells #[.map (some b)] 85)).heap.size (w.alloc (.cells #[.map (some b)] 85)) w' := by
  have hsz : Maps.size D ≤ n := hown.size_le
  have hbl := hown.lt
  have hseq : SeqGives Fence.wide 2 Try.prog 72 #[.pointer (some ⟨w.heap.size, 0, none⟩)] encZ (fun ss => ss.Perm (intKeys D)) (Maps.size D) (w.alloc (.cells #[.map (some b)] 85)) :=
    AnyZI.keys_gives (ρ := Try.keysI_ren) { Try.keysI with } Fence.wide _ trivial rfl (by omega) w.heap.size b n D _ (by simp) (by simp) (by
      obtain ⟨es, clock, hb, Ft, hs, hD⟩ := hown
      exact ⟨es, clock, (Below.heap_alloc _ _ b hbl).trans hb, Ft, hs, hD⟩)
  have hcon := AnyZI.sorted_in Try.sortedI Fence.wide 5 trivial trivial trivial trivial rfl (by omega) (sortsI _) (enters_of Try.func71 (by kernel_rfl) rfl) 72 #[.pointer (some ⟨w.heap.size, 0, none⟩)] trivial (enters_of Try.func72 (by kernel_rfl) rfl) _ _ (by simp only [maxLen]; omega) (by omega) _ hseq
  change CallsIn _ _ Try.prog 50 _ _ _ at hcon
  refine ((callsIn_wide (n := 5)).1 hcon).mono ?_
  rintro e w' ⟨v, ss, rfl, hS, hrow, _, hb⟩
  have hLs : ss.mergeSort (fun x y => decide (x ≤ y)) = L := by
    have hp := List.mergeSort_perm ss (fun x y => decide (x ≤ y))
    refine sorted_ext (r := fun x y : Int => x < y) (fun x y z h h' => Int.lt_trans h h') (fun x => Int.lt_irrefl x) ?_ hL fun x => ?_
    · have h1 := List.pairwise_mergeSort (le := fun x y : Int => decide (x ≤ y)) (fun a b c h h' => by simp only [decide_eq_true_eq] at *; omega) (fun a b => by simp only [Bool.or_eq_true, decide_eq_true_eq]; omega) ss
      have h2 : (ss.mergeSort (fun x y => decide (x ≤ y))).Nodup := hp.nodup_iff.2 (hS.nodup_iff.2 hnd)
      refine (h1.and h2).imp ?_
      rintro a c ⟨h, h'⟩
      simp only [decide_eq_true_eq] at h
      omega
    · rw [hp.mem_iff, hS.mem_iff, hLm]
  have hlen : ss.length = L.length := by rw [← hLs]; exact (List.length_mergeSort _).symm
  rw [hLs, hlen] at hrow
  have hrow : w'.ownsRow (w.alloc (.cells #[.map (some b)] 85)).heap.size 3 1 v L.length (ZL L) := hrow
  obtain ⟨A', c', rfl, _⟩ := own_form hrow
  exact ⟨A', c', rfl, hrow, hb⟩
theorem ir_base {w : World} {B B' c : Nat} {A : Option Addr} {L : List Int} (h : w.ownsRow B 3 1 (.slice A L.length c) L.length (ZL L)) (hB : B' ≤ B) : IR w B' A c L := by
  obtain ⟨h1, h2⟩ := h
  refine ⟨h1, ?_⟩
  rcases h2 with h2 | ⟨g, cap, cur, hv, hb, hr⟩
  · exact .inl h2
  · exact .inr ⟨g, cap, cur, hv, Nat.le_trans hB hb, hr⟩
theorem flatE_len (l : List (Int × Int)) (k : Nat) (hk : k ≤ 1000) : (flatE (l.take k)).length ≤ 2000 := by
  have h : ∀ m : List (Int × Int), (flatE m).length = 2 * m.length := fun m => by
    induction m with
    | nil => rfl
    | cons e m ih => unfold flatE at ih ⊢; rw [List.flatMap_cons, List.length_append, ih]; simp; omega
  rw [h, List.length_take]
  omega
theorem MapI.putS {P : Program} {k : TypeId} {w : World} {b n : Nat} {f : Int → Option Value} (h : MapI P k w b n f) (hk : P.underlying k = some (.int .i64)) {t e : TypeId} (ht : P.underlying t = some (.map k e)) (hn : n < maxLen) {x : Int} (hx : (Lit.int .i64 x).wf = true) (v : Value) :
    ∃ w' n', (Instr.mapUpdate t (.map (some b)) (.int .i64 x) v).run P w = .ok () w' ∧ MapI P k w' b n' (fun y => if y = x then some v else f y) ∧ SetM b w w' ∧ n' ≤ n + 1 := by
  obtain ⟨es', clock', hst, hm'⟩ := h.store hk ht hn hx v
  exact ⟨_, _, hst, hm', ⟨_, rfl⟩, by split <;> omega⟩
attribute [local irreducible] Blk LRow World.alloc World.setCell World.cell? World.frozen? MapV ERow MapI
set_option maxRecDepth 100000 in
set_option maxHeartbeats 8000000 in
theorem ends_any (A : Option Addr) (c : Nat) (l : List (Int × Int)) (L : List Int) (w : World) (hl : l.length ≤ 1000) (hwf : ∀ e ∈ l, (Lit.int .i64 e.1).wf = true ∧ (Lit.int .i64 e.2).wf = true) (he : ES w A l) (hL : L.Pairwise (· < ·)) (hLm : ∀ x, x ∈ L ↔ (flatE l).count x = 1) :
    Calls Try.prog 20 #[.slice A l.length c] w (fun e w' => ∃ A' c', e = .returned (.slice A' L.length c') ∧ IR w' w.heap.size A' c' L ∧ Below w.heap.size w w') := by
  have HE := Lib.hid he
  have HWF := Lib.hid hwf
  have HLP := Lib.hid hL
  have HLM := Lib.hid hLm
  clear he hwf hL hLm
  have hmm := @run_makeMap Try.prog
  go_enter Try.func20, Try.ntmps20
  go_wp2_with fail
  clear hmm
  obtain ⟨V, hV⟩ : ∃ V, V = w.alloc (.map #[] 0) := ⟨_, rfl⟩
  have HM0 : Hid (MapI Try.prog 3 V w.heap.size 0 (cntF (flatE (l.take 0)))) := by
    subst hV
    exact Lib.hid ((MapI.made_ Try.prog 3 rfl).congr (fun x => by simp [cntF, flatE]))
  have HB0 : Hid (Below w.heap.size w V) := by subst hV; exact Lib.hid (bw_alloc (Below.refl _ _) _)
  rw [← hV]
  obtain ⟨gm, hgm⟩ : ∃ g, g = w.heap.size := ⟨_, rfl⟩
  have HGM : Hid (w.heap.size ≤ gm) := Lib.hid (by omega)
  rw [← hgm] at HM0
  simp only [← hgm]
  clear hV hgm
  go_loopw [9] (fun iv wr => ∃ k n1 : Nat, k ≤ l.length ∧ n1 ≤ 2 * k ∧ iv = .int .i64 k ∧ Hid (MapI Try.prog 3 wr gm n1 (cntF (flatE (l.take k)))) ∧ Hid (Below w.heap.size w wr)) (fun iv _ => l.length - (intOf iv).toNat)
  case atStart => exact ⟨0, 0, by omega, by omega, rfl, HM0, HB0⟩
  case round =>
    obtain ⟨k, n1, hk, hn1, rfl, HMk, HBk⟩ := hrel
    obtain ⟨wB, hwB⟩ : ∃ wB : World, wB = wr := ⟨_, rfl⟩
    rw [← hwB] at HMk HBk ⊢
    clear hwB HM0 HB0
    by_cases hlt : k < l.length
    rotate_left
    · obtain rfl : k = l.length := by omega
      rw [List.take_length] at HMk
      have HDC := Lib.hid (del_any gm n1 (flatE l) wB HMk.out (fun x hx => by
        unfold flatE at hx
        obtain ⟨e, he, hx⟩ := List.mem_flatMap.1 hx
        have h1 := HWF.out e he
        simp at hx
        rcases hx with rfl | rfl
        · exact h1.1
        · exact h1.2))
      go_wp2_with fail
      refine HDC.out.mono ?_
      rintro e w2 ⟨rfl, hg, D, hown, hnd, hmem⟩
      have HB2 : Hid (Below w.heap.size w w2) := Lib.hid (bw_grow HBk.out hg (fun q hq => by injection hq with hq; have := HGM.out; omega))
      have HS := Lib.hid (sortedD_any gm n1 D L w2 hown hnd (by omega) HLP.out (fun x => (HLM.out x).trans (hmem x).symm))
      clear hg hown hnd hmem HDC HMk HBk
      go_wp2_with fail
      refine (keysI_any (some gm) w2).mono ?_
      rintro e w3 ⟨rfl, rfl⟩
      go_wp2_with fail
      refine HS.out.mono ?_
      rintro e w4 ⟨A', c', rfl, hrow, hb⟩
      have HR : Hid (IR w4 w.heap.size A' c' L) := Lib.hid (ir_base hrow (by have := HB2.out.size; simp; omega))
      have HB4 : Hid (Below w.heap.size w w4) := Lib.hid ((bw_alloc HB2.out _).trans (hb.mono (by have := HB2.out.size; simp; omega)))
      clear hrow hb
      go_wp2_with fail
      go_ret
      exact ⟨A', c', rfl, HR.out, HB4.out⟩
    have hki : (k : Int) < (l.length : Int) := by omega
    have hje := List.getElem?_eq_getElem hlt
    obtain ⟨ad, hAd, hadb, heq⟩ := (HE.out.below HBk.out).at_ hje
    subst hAd
    have hw2 := HWF.out _ (List.getElem_mem hlt)
    have HFS := Lib.hid (flatE_step hje)
    obtain ⟨d0, d1, d2, d3⟩ := heq
    clear hje
    generalize l[k] = e at *
    obtain ⟨x, y⟩ := e
    simp only at d0 d1 d2 d3 hw2 HFS
    obtain ⟨w4, hw4⟩ : ∃ W, W = wB.alloc (.cells #[.int .i64 x, .int .i64 y] 38) := ⟨_, rfl⟩
    have GE4 : Hid (Blk w4 wB.heap.size 38 #[.int .i64 x, .int .i64 y]) := by subst hw4; exact Lib.hid (Blk.new _ _ _)
    have HM4 : Hid (MapI Try.prog 3 w4 gm n1 (cntF (flatE (l.take k)))) := by subst hw4; exact Lib.hid (HMk.out.alloc _)
    have HB4 : Hid (Below w.heap.size w w4) := by subst hw4; exact Lib.hid (bw_alloc HBk.out _)
    have HNE : Hid (wB.heap.size ≠ gm) := Lib.hid (by have := HMk.out.lt; omega)
    go_upto_region 5 with (fail)
    rw [← hw4]
    generalize wB.heap.size = gb at *
    clear hw4 d0 d1 d2 d3 HMk HBk hadb
    obtain ⟨S0, HS0⟩ : ∃ S0, Hid (flatE (l.take k) = S0) := ⟨_, Lib.hid rfl⟩
    rw [HS0.out] at HM4 HFS
    have hsl : S0.length ≤ 2000 := by rw [← HS0.out]; exact flatE_len l k (by omega)
    have hlk := HM4.out.look Try.underlying3 Try.underlying85 (z := .int .i64 0) (by kernel_rfl) hw2.1 false
    simp only [Bool.false_eq_true, if_false] at hlk
    rw [cntF_get] at hlk
    have hc1 : S0.count x ≤ 2000 := Nat.le_trans List.count_le_length hsl
    have hwr : IntKind.i64.wrap ((S0.count x : Int) + 1) = (S0.count x : Int) + 1 := IntWalk.i64_in _ (by omega)
    obtain ⟨w5, n5, hst, hm5, hset, hn5⟩ := HM4.out.putS Try.underlying3 Try.underlying85 (by simp only [maxLen]; omega) hw2.1 (.int .i64 ((S0.count x : Int) + 1))
    rw [cntF_snoc] at hm5
    have HM5 := Lib.hid hm5
    have GE5 := Lib.hid (hset.blk GE4.out HNE.out)
    have HB5 : Hid (Below w.heap.size w w5) := Lib.hid (hset.below HB4.out HGM.out)
    have e0 := GE4.out.cell 0
    simp only [List.getElem?_toArray, List.getElem?_cons_zero] at e0
    clear hm5 hset HM4 GE4 HB4
    generalize S0.count x = cx at *
    go_upto_region 6 with (fail)
    clear hlk hst hwr e0 hc1
    have hlk := HM5.out.look Try.underlying3 Try.underlying85 (z := .int .i64 0) (by kernel_rfl) hw2.2 false
    simp only [Bool.false_eq_true, if_false] at hlk
    rw [cntF_get] at hlk
    have hc1 : (S0 ++ [x]).count y ≤ 2001 := Nat.le_trans List.count_le_length (by simp; omega)
    have hwr : IntKind.i64.wrap (((S0 ++ [x]).count y : Int) + 1) = ((S0 ++ [x]).count y : Int) + 1 := IntWalk.i64_in _ (by omega)
    obtain ⟨w6, n6, hst, hm6, hset, hn6⟩ := HM5.out.putS Try.underlying3 Try.underlying85 (by simp only [maxLen]; omega) hw2.2 (.int .i64 (((S0 ++ [x]).count y : Int) + 1))
    rw [cntF_snoc, ← HFS.out] at hm6
    have HM6 := Lib.hid hm6
    have HB6 : Hid (Below w.heap.size w w6) := Lib.hid (hset.below HB5.out HGM.out)
    have e1 := GE5.out.cell 1
    simp only [List.getElem?_toArray, List.getElem?_cons_zero, List.getElem?_cons_succ] at e1
    clear hm6 hset HM5 HB5
    generalize (S0 ++ [x]).count y = cy at *
    go_wp2_with fail
    exact ⟨⟨k + 1, n6, by omega, by omega, by go_num, HM6, HB6⟩, by simp [intOf]; omega⟩
end Go.Proofs.Ytcahbcminonfbaa
