/- A row of triangles cloned. No condition but its size. -/
import Derived.Test.YtdmibpcpocacpaaCorM
import Derived.Laws.MakeOwn
namespace Go.Proofs.Ytdmibpcpocacpaa
open Go.RowKit

set_option linter.unusedSimpArgs false
set_option linter.unusedVariables false
theorem tris_one8 (T : List Tri) : ∀ u ∈ T.flatMap Tri.cells, u.oneCell' = true := by
  intro u hu
  obtain ⟨t, _, ht⟩ := List.mem_flatMap.1 hu
  simp [Tri.cells] at ht
  rcases ht with rfl | rfl | rfl <;> rfl
theorem run_nil_yes (n c : Nat) (w : World) : (binOp .eql 22 (.slice none n c) (.slice none 0 0)).run Try.prog w = .ok (.bool true) w := by kernel_rfl
theorem run_nil_no (ad : Addr) (n c : Nat) (w : World) : (binOp .eql 22 (.slice (some ad) n c) (.slice none 0 0)).run Try.prog w = .ok (.bool false) w := by kernel_rfl
def RowPost (w : World) (n : Nat) (T : List Tri) (e : Ending) (w' : World) : Prop := ∃ A c, e = .returned (.slice A n c) ∧ LRow w' w.heap.size A c T ∧ Below w.heap.size w w'
attribute [local irreducible] Blk LRow World.alloc World.setCell World.cell? World.frozen? MapV
set_option maxRecDepth 100000 in
set_option maxHeartbeats 4000000 in
theorem clone_any (A : Option Addr) (c : Nat) (T : List Tri) (w : World) (hn : T.length ≤ 8192) (ht : TrisAt w w.heap.size A T.length T) :
    Calls Try.prog 40 #[.slice A T.length c] w (RowPost w T.length T) := by
  obtain ⟨i0, hi0, hz0, hz1, hz2⟩ := info_parts ltri_info
  have HT := Lib.hid ht
  clear ht
  cases A with
  | none =>
    have hT : T = [] := by
      cases T with
      | nil => rfl
      | cons t T =>
        obtain ⟨ad, e, _⟩ := HT.out.row.2 (by simp)
        cases e
    subst hT
    have hnil := fun w => run_nil_yes 0 c w
    go_enter Try.func40, Try.ntmps40
    go_wp2_with fail
    go_ret
    exact ⟨none, 0, rfl, LRow.nil _ _, Below.refl _ _⟩
  | some ad =>
    have hnil := fun w => run_nil_no ad T.length c w
    have HB : Hid (Below w.heap.size w (w.alloc (.cells #[] 50))) := Lib.hid (bw_alloc (Below.refl _ _) _)
    go_enter Try.func40, Try.ntmps40
    go_wp2_with (at_builtin; go_must (refine wpList_append_sl _ rfl (.tmp 5) (.tmp 6) _ rfl w.heap.size 50 i0 _ 3 24 Try.underlying22 hi0 hz0 hz1 hz2 rfl (by omega) (.slice (some ⟨w.heap.size, 0, none⟩) 0 0) 0 [] rfl (own_at (Blk.new _ _ _) (Nat.le_refl _)) w.heap.size (some ad) T.length c (T.flatMap Tri.cells) rfl (HT.out.row.below HB.out) (tris_one8 T) (by simp only [maxLen]; omega) (by omega) HB.out.size ?_); intro A5 c5 w4 hown5 hg5 hat5)
    have hB : Below w.heap.size w w4 := bw_grow HB.out hg5 (fun k hk => by simp [Value.ownBlock] at hk; omega)
    go_ret
    simp only [Nat.zero_add, List.nil_append] at hown5 ⊢
    exact ⟨A5, c5, rfl, lrow_of hown5 rfl rfl, hB⟩
end Go.Proofs.Ytdmibpcpocacpaa
