/- slices.Sorted(maps.Keys(m)) at a map keyed by int: its keys, sorted. No condition. -/
import Derived.Test.YtmmjonpkpeanpaaMapK8
import Derived.Test.YtmmjonpkpeanpaaSoup8
import Derived.Test.YtmmjonpkpeanpaaShelf8
import Derived.Test.YtmmjonpkpeanpaaPick8
namespace Go.Proofs.Ytmmjonpkpeanpaa
open Go.RowKit Go.Maps Go.Sort Go.Shelf

theorem keysI_any (mb : Option Nat) (W : World) :
    Calls Try.prog 35 #[.map mb] W fun e w' => e = .returned (.func (.func 51) #[] #[.pointer (some ⟨W.heap.size, 0, none⟩)]) ∧ w' = W.alloc (.cells #[.map mb] 57) :=
  (callsIn_wide (n := 5)).1 (AnyZI.keys_in Try.keysI Fence.wide 5 trivial rfl mb W)
theorem sortsI (m : Nat) : AnyZI.SortsIn Try.prog Try.sortedI_ren Fence.wide m :=
  ⟨fun blk off cap ss W hH hblk hsz => callsIn_wide.2 (AnyM.slices_Sort_int Try.sortI blk off cap ss W hH hblk hsz),
   fun p cap W => callsIn_wide.2 (AnyM.slices_Sort_int_none Try.sortI p cap W)⟩
set_option maxHeartbeats 2000000 in
theorem sortedI_any (b n : Nat) (f : Int → Option Value) (L : List Int) (w : World) (hm : MapI Try.prog 3 w b n f) (hn : n ≤ 1000000) (hL : L.Pairwise (· < ·)) (hLm : ∀ x, x ∈ L ↔ (Lit.int .i64 x).wf = true ∧ (f x).isSome = true) :
    Calls Try.prog 34 #[.func (.func 51) #[] #[.pointer (some ⟨w.heap.size, 0, none⟩)]] (w.alloc (.cells #[.map (some b)] 57)) fun e w' => ∃ A c, e = .returned (.slice A L.length c) ∧ w'.ownsRow (w.alloc (.cells #[.map (some b)] 57)).heap.size 3 1 (.slice A L.length c) L.length (ZL L) ∧ Below (w.alloc (.cells #[.map (some b)] 57)).heap.size (w.alloc (.cells #[.map (some b)] 57)) w' := by
  obtain ⟨D, hown, hnd, hmem, hsz⟩ := hm.data Try.underlying3
  have hbl := hown.lt
  have hseq : SeqGives Fence.wide 2 Try.prog 51 #[.pointer (some ⟨w.heap.size, 0, none⟩)] encZ (fun ss => ss.Perm (intKeys D)) (Maps.size D) (w.alloc (.cells #[.map (some b)] 57)) :=
    AnyZI.keys_gives (ρ := Try.keysI_ren) { Try.keysI with } Fence.wide _ trivial rfl (by omega) w.heap.size b n D _ (by simp) (by simp) (by
      obtain ⟨es, clock, hb, Ft, hs, hD⟩ := hown
      exact ⟨es, clock, (Below.heap_alloc _ _ b hbl).trans hb, Ft, hs, hD⟩)
  have hcon := AnyZI.sorted_in Try.sortedI Fence.wide 5 trivial trivial trivial trivial rfl (by omega) (sortsI _) (enters_of Try.func50 (by kernel_rfl) rfl) 51 #[.pointer (some ⟨w.heap.size, 0, none⟩)] trivial (enters_of Try.func51 (by kernel_rfl) rfl) _ _ (by simp only [maxLen]; omega) (by omega) _ hseq
  change CallsIn _ _ Try.prog 34 _ _ _ at hcon
  refine ((callsIn_wide (n := 5)).1 hcon).mono ?_
  rintro e w' ⟨v, ss, rfl, hS, hrow, _, hb⟩
  have hLs : ss.mergeSort (fun x y => decide (x ≤ y)) = L := by
    have hp := List.mergeSort_perm ss (fun x y => decide (x ≤ y))
    refine sorted_ext (r := fun x y : Int => x < y) (fun x y z h h' => Int.lt_trans h h') (fun x => Int.lt_irrefl x) ?_ hL fun x => ?_
    · have h1 := List.pairwise_mergeSort (le := fun x y : Int => decide (x ≤ y)) (fun a b c h h' => by simp only [decide_eq_true_eq] at *; omega) (fun a b => by simp only [Bool.or_eq_true, decide_eq_true_eq]; omega) ss
      have h2 : (ss.mergeSort (fun x y => decide (x ≤ y))).Nodup := hp.nodup_iff.2 (hS.nodup_iff.2 hnd)
      refine (h1.and h2).imp ?_
      rintro a c ⟨h, h'⟩
      simp only [decide_eq_true_eq] at h
      omega
    · rw [hp.mem_iff, hS.mem_iff, hmem, hLm]
  have hlen : ss.length = L.length := by rw [← hLs]; exact (List.length_mergeSort _).symm
  rw [hLs, hlen] at hrow
  have hrow : w'.ownsRow (w.alloc (.cells #[.map (some b)] 57)).heap.size 3 1 v L.length (ZL L) := hrow
  obtain ⟨A', c', rfl, _⟩ := own_form hrow
  exact ⟨A', c', rfl, hrow, hb⟩
end Go.Proofs.Ytmmjonpkpeanpaa
