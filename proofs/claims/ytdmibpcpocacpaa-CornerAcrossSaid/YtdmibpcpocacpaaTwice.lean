/- certify.twice and certify.mirrored, walked. No condition. -/
import Derived.Test.YtdmibpcpocacpaaPairs
namespace Go.Proofs.Ytdmibpcpocacpaa
open Go.RowKit

theorem triOk_wf {m : Nat} {t : Tri} (h : TriOk m t) (hm : m ≤ 4096) : (Lit.int .i64 t.a).wf = true ∧ (Lit.int .i64 t.b).wf = true ∧ (Lit.int .i64 t.c).wf = true := by
  obtain ⟨a, b, c, d, e, f, _, _, _⟩ := h
  exact ⟨WalkArith.wf_i64 (by omega), WalkArith.wf_i64 (by omega), WalkArith.wf_i64 (by omega)⟩
theorem keys2_wf {m : Nat} {t : Tri} (h : TriOk m t) (hm : m ≤ 4096) : ∀ k ∈ keys2 t, (Lit.int .i64 k.1).wf = true ∧ (Lit.int .i64 k.2.1).wf = true ∧ (Lit.int .i64 k.2.2).wf = true := by
  obtain ⟨w1, w2, w3⟩ := triOk_wf h hm
  have w0 : (Lit.int .i64 0).wf = true := by decide
  intro k hk
  simp [keys2] at hk
  rcases hk with rfl | rfl | rfl
  · exact ⟨w1, w2, w0⟩
  · exact ⟨w2, w3, w0⟩
  · exact ⟨w3, w1, w0⟩
theorem sort3_mem (t : Tri) : ∀ x, x ∈ [(sort3 t).1, (sort3 t).2.1, (sort3 t).2.2] ↔ x ∈ [t.a, t.b, t.c] := by
  intro x
  rw [← sort3_list]
  exact (List.mergeSort_perm _ _).mem_iff
theorem keys3_wf {m : Nat} {t : Tri} (h : TriOk m t) (hm : m ≤ 4096) : ∀ k ∈ keys3 t, (Lit.int .i64 k.1).wf = true ∧ (Lit.int .i64 k.2.1).wf = true ∧ (Lit.int .i64 k.2.2).wf = true := by
  obtain ⟨w1, w2, w3⟩ := triOk_wf h hm
  have hx : ∀ x ∈ [(sort3 t).1, (sort3 t).2.1, (sort3 t).2.2], (Lit.int .i64 x).wf = true := by
    intro x hx
    rw [sort3_mem] at hx
    simp at hx
    rcases hx with rfl | rfl | rfl <;> assumption
  intro k hk
  simp [keys3] at hk
  subst hk
  exact ⟨hx _ (by simp), hx _ (by simp), hx _ (by simp)⟩

theorem twice_any (m : Nat) (A : Option Addr) (n c : Nat) (T : List Tri) (w : World) (hm : m ≤ 4096) (hn : n ≤ 1000) (ht : TrisAt w w.heap.size A n T) (hok : ∀ t ∈ T, TriOk m t) :
    Calls Try.prog 48 #[.agg #[.int .i64 m, .slice A n c]] w (WitPost w (outW 3 (PS.to keys2 T n).out)) := by
  have hb : Below w.heap.size w (w.alloc (.cells #[.int .i64 m, .slice A n c] 24)) := (Below.refl _ _).alloc (Nat.le_refl _) _
  have hc := pairs_any 3 60 (enters_of Try.func60 (by kernel_rfl) rfl) keys2 (fun _ => Nat.le_refl _) m A n c T _ hn ((ht.below hb).more hb.size) (fun t _ w => keys2_any t w) (fun t htm => keys2_wf (hok t htm) hm)
  have HC := Lib.hid hc
  have HB := Lib.hid hb
  clear hc hb
  go_enter Try.func48, Try.ntmps48
  go_wp2_with fail
  refine HC.out.mono ?_
  rintro e w1 ⟨A1, c1, rfl, hr, hb1⟩
  go_wp2_with fail
  go_ret
  exact ⟨A1, c1, rfl, own_mono hr HB.out.size, HB.out.trans (hb1.mono HB.out.size)⟩
theorem mirrored_any (m : Nat) (A : Option Addr) (n c : Nat) (T : List Tri) (w : World) (hm : m ≤ 4096) (hn : n ≤ 1000) (ht : TrisAt w w.heap.size A n T) (hok : ∀ t ∈ T, TriOk m t) :
    Calls Try.prog 49 #[.agg #[.int .i64 m, .slice A n c]] w (WitPost w (outW 4 (PS.to keys3 T n).out)) := by
  have hb : Below w.heap.size w (w.alloc (.cells #[.int .i64 m, .slice A n c] 24)) := (Below.refl _ _).alloc (Nat.le_refl _) _
  have hc := pairs_any 4 61 (enters_of Try.func61 (by kernel_rfl) rfl) keys3 (fun t => by simp [keys3]) m A n c T _ hn ((ht.below hb).more hb.size) (fun t _ w => keys3_any t w) (fun t htm => keys3_wf (hok t htm) hm)
  have HC := Lib.hid hc
  have HB := Lib.hid hb
  clear hc hb
  go_enter Try.func49, Try.ntmps49
  go_wp2_with fail
  refine HC.out.mono ?_
  rintro e w1 ⟨A1, c1, rfl, hr, hb1⟩
  go_wp2_with fail
  go_ret
  exact ⟨A1, c1, rfl, own_mono hr HB.out.size, HB.out.trans (hb1.mono HB.out.size)⟩
end Go.Proofs.Ytdmibpcpocacpaa
