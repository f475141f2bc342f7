/- ring.Degree, walked. No condition. -/
import Derived.Test.YtdpgbccgngdapaaRingW
namespace Go.Proofs.Ytdpgbccgngdapaa
open Go.RowKit Go.Shelf

set_option linter.unusedSimpArgs false
set_option linter.unusedVariables false
attribute [local go_sem] Oper.semAt_some
attribute [local irreducible] Blk LRow World.alloc World.setCell World.cell? World.frozen? MapV
theorem arAt_new {w W : World} {g m : Nat} {T : List Tri} {v : Int} {p : Value} (h : TabN w g m T) (hb : Below w.heap.size w W) {t1 t2 : TypeId} :
    ArAt ((W.alloc (.cells #[.pointer (some ⟨g, 0, none⟩)] t1)).alloc (.cells #[.int .i64 v] t2)) w.heap.size W.heap.size (W.heap.size + 1) g m T v :=
  ⟨⟨w, rfl, h, bw_alloc (bw_alloc hb _) _⟩, ((Blk.new W t1 #[.pointer (some ⟨g, 0, none⟩)]).alloc _).cell 0, (Blk.new_ (by simp) t2 #[.int .i64 v]).cell 0, by simp; omega, by simp⟩
theorem blk_own {β : Type} {B g : Nat} {t : TypeId} (f : List β → Array Value) : OwnFrom B (fun pre W => Blk W g t (f pre)) := fun pre X Y row h hg hr => h.grown hg fun e => by
  obtain ⟨_, o, ho, hc⟩ := hr g e.symm
  unfold Blk at h
  rw [h] at ho
  cases ho
  cases hc
end Go.Proofs.Ytdpgbccgngdapaa
