/- predict.over, walked; a table stays while a row of its own is written. No condition but sizes. -/
import Derived.Test.YtcpfolojfdnojaaKnA
import Derived.Test.YtcpfolojfdnojaaCornerB
namespace Go.Proofs.Ytcpfolojfdnojaa
open Go.RowKit

set_option linter.unusedSimpArgs false
set_option linter.unusedVariables false
theorem vertexI_le {m : Nat} {T : List Tri} (hok : ∀ t ∈ T, TriOk m t) (c : Int) : -1 ≤ vertexI T c ∧ vertexI T c < m ∨ vertexI T c = -1 := by
  unfold vertexI
  split
  · rename_i h
    have := cv_ok hok (c := c.toNat) (by have h1 := h.1; have h2 := h.2; omega)
    exact .inl ⟨by omega, by omega⟩
  · exact .inr rfl
theorem overI_le {m : Nat} {T : List Tri} (hok : ∀ t ∈ T, TriOk m t) (a b v : Int) : -1 ≤ overI T a b v ∧ (overI T a b v < m ∨ overI T a b v = -1) := by
  unfold overI
  split
  · exact ⟨by omega, .inr rfl⟩
  · rcases vertexI_le hok (facingI T (a, b)) with h | h
    · exact ⟨h.1, .inl h.2⟩
    · exact ⟨by omega, .inr h⟩
theorem TabAt.setAr {w : World} {B g gs k : Nat} {N : Int} {T : List Tri} {cs : Array Value} (h : TabAt w B g N T) (hs : Blk w gs 32 cs) (hk : k < cs.size) (u : Value) : TabAt (w.setCell ⟨gs, k, none⟩ u) B g N T := by
  obtain ⟨A, c, b', n', gf, m, L, h1, h2, h3, h4, h5, h6, h7, h8, h9, h10⟩ := h.at_
  exact ⟨A, c, b', n', gf, m, L, h1.far (h1.ne_ hs (by decide)) _, h2, h3, h4, own_same h5 fun k hk => by
    obtain ⟨ds, hd⟩ := own_blk h5 hk
    exact Below.heap_setCell _ _ _ _ (hd.ne_ hs (by decide)), MapV.setCell h6 ((hs.cell k).trans (Array.getElem?_eq_getElem hk)) _, h7.far (h7.ne_ hs (by decide)) _, h8, h9, h10⟩
attribute [local irreducible] Blk LRow World.alloc World.setCell World.cell? World.frozen? MapV
set_option maxHeartbeats 2000000 in
theorem over_any (g B : Nat) (N : Int) (T : List Tri) (a b v : Int) (w : World) (hT : T.length ≤ 8192) (hw : wfE (a, b)) (h : TabAt w B g N T) :
    Calls Try.prog 23 #[.pointer (some ⟨g, 0, none⟩), .int .i64 a, .int .i64 b, .int .i64 v] w (IntPost w (overI T a b v)) := by
  have HW := Lib.hid hw
  have HT := Lib.hid h
  clear hw h
  unfold overI
  obtain ⟨r, HR⟩ : ∃ r, Hid (facingI T (a, b) = r) := ⟨_, Lib.hid rfl⟩
  have HF := Lib.hid (facing_any g B N T a b w hT HW.out HT.out)
  rw [HR.out] at HF ⊢
  by_cases h0 : r < 0
  · rw [if_pos (.inl h0)]
    go_enter Try.func23, Try.ntmps23
    go_wp2_with fail
    refine HF.out.mono ?_
    rintro e w1 ⟨rfl, hb⟩
    have HB := Lib.hid hb
    clear hb
    go_wp2_with fail
    go_ret
    exact ⟨rfl, HB.out⟩
  have h0' : 0 ≤ r := by omega
  obtain ⟨q, HQ⟩ : ∃ q, Hid (vertexI T r = q) := ⟨_, Lib.hid rfl⟩
  rw [HQ.out]
  by_cases h1 : v ≤ q
  · rw [if_pos (.inr h1)]
    go_enter Try.func23, Try.ntmps23
    go_wp2_with fail
    refine HF.out.mono ?_
    rintro e w1 ⟨rfl, hb⟩
    have HB := Lib.hid hb
    have HT1 := Lib.hid (HT.out.below hb)
    clear hb HF
    go_wp2_with fail
    refine (vertex_any g B N T r w1 hT HT1.out.s).mono ?_
    rw [HQ.out]
    rintro e w2 ⟨rfl, hw2⟩
    replace hw2 := hw2.symm
    subst hw2
    go_wp2_with fail
    go_ret
    exact ⟨rfl, HB.out⟩
  rw [if_neg (by omega)]
  have h1' : q < v := by omega
  go_enter Try.func23, Try.ntmps23
  go_wp2_with fail
  refine HF.out.mono ?_
  rintro e w1 ⟨rfl, hb⟩
  have HB := Lib.hid hb
  have HT1 := Lib.hid (HT.out.below hb)
  clear hb HF
  go_wp2_with fail
  refine (vertex_any g B N T r w1 hT HT1.out.s).mono ?_
  rw [HQ.out]
  rintro e w2 ⟨rfl, hw2⟩
  replace hw2 := hw2.symm
  subst hw2
  go_wp2_with fail
  refine (vertex_any g B N T r w1 hT HT1.out.s).mono ?_
  rw [HQ.out]
  rintro e w2 ⟨rfl, hw2⟩
  replace hw2 := hw2.symm
  subst hw2
  go_wp2_with fail
  go_ret
  exact ⟨rfl, HB.out⟩
end Go.Proofs.Ytcpfolojfdnojaa
