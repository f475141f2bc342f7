/- Three rows of points of the call's own, apart from each other. No condition. -/
import Derived.Test.YtcpfolojfdnojaaMovP
import Derived.Test.YtcpfolojfdnojaaPtO
namespace Go.Proofs.Ytcpfolojfdnojaa
open Go.RowKit

theorem pt_info : (Try.prog.info? 36).map (fun i => (i.zero, i.size, i.bytes)) = some (some (.agg #[.int .i64 0, .int .i64 0, .int .i64 0]), 3, 24) := by kernel_rfl
def PR (w : World) (B n : Nat) (A : Option Addr) (c : Nat) (L : List Tri) : Prop := w.ownsRow B 36 3 (.slice A n c) n (L.flatMap Tri.cells)
structure P3 (w : World) (B no : Nat) (Ao : Option Addr) (co : Nat) (O : List Tri) (nq : Nat) (Aq : Option Addr) (cq : Nat) (Q : List Tri) (nm : Nat) (Am : Option Addr) (cm : Nat) (M : List Tri) : Prop where
  o : PR w B no Ao co O
  q : PR w B nq Aq cq Q
  m : PR w B nm Am cm M
  oq : ∀ k, (Value.slice Ao no co).ownBlock = some k → (Value.slice Aq nq cq).ownBlock ≠ some k
  om : ∀ k, (Value.slice Ao no co).ownBlock = some k → (Value.slice Am nm cm).ownBlock ≠ some k
  qm : ∀ k, (Value.slice Aq nq cq).ownBlock = some k → (Value.slice Am nm cm).ownBlock ≠ some k
/-- A point that was just laid, apart from the three rows. -/
structure PB (w : World) (g : Nat) (t : Tri) (vo vq vm : Value) : Prop where
  b : Blk w g 36 #[.int .i64 t.a, .int .i64 t.b, .int .i64 t.c]
  o : some g ≠ vo.ownBlock
  q : some g ≠ vq.ownBlock
  m : some g ≠ vm.ownBlock
theorem PR.same {w w' : World} {B n : Nat} {A : Option Addr} {c : Nat} {L : List Tri} (h : PR w B n A c L) (hk : ∀ k, (Value.slice A n c).ownBlock = some k → k < w.heap.size → w'.heap[k]? = w.heap[k]?) : PR w' B n A c L := own_same h fun k e => hk k e (World.ownsRow.lt h k e).2
theorem PR.lt_ {w : World} {B n : Nat} {A : Option Addr} {c : Nat} {L : List Tri} (h : PR w B n A c L) : ∀ k, (Value.slice A n c).ownBlock = some k → B ≤ k ∧ k < w.heap.size := World.ownsRow.lt h
theorem PR.tris {w : World} {B n : Nat} {A : Option Addr} {c : Nat} {L : List Tri} (h : PR w B n A c L) : TrisAt w w.heap.size A n L := TrisAt.mk_ (Reads.of_own h)
theorem PR.nil (w : World) (B : Nat) : PR w B 0 none 0 [] := World.ownsRow_nil _ _ _ _
section
variable {w w' : World} {B no : Nat} {Ao : Option Addr} {co : Nat} {O : List Tri} {nq : Nat} {Aq : Option Addr} {cq : Nat} {Q : List Tri} {nm : Nat} {Am : Option Addr} {cm : Nat} {M : List Tri}
theorem P3.nil (w : World) (B : Nat) : P3 w B 0 none 0 [] 0 none 0 [] 0 none 0 [] := ⟨PR.nil _ _, PR.nil _ _, PR.nil _ _, fun _ h => by simp [Value.ownBlock] at h, fun _ h => by simp [Value.ownBlock] at h, fun _ h => by simp [Value.ownBlock] at h⟩
theorem P3.same (h : P3 w B no Ao co O nq Aq cq Q nm Am cm M) (hk : ∀ k, k < w.heap.size → B ≤ k → w'.heap[k]? = w.heap[k]?) : P3 w' B no Ao co O nq Aq cq Q nm Am cm M :=
  ⟨h.o.same fun k e hl => hk k hl (h.o.lt_ k e).1, h.q.same fun k e hl => hk k hl (h.q.lt_ k e).1, h.m.same fun k e hl => hk k hl (h.m.lt_ k e).1, h.oq, h.om, h.qm⟩
theorem P3.below (h : P3 w B no Ao co O nq Aq cq Q nm Am cm M) (hb : Below w.heap.size w w') : P3 w' B no Ao co O nq Aq cq Q nm Am cm M := h.same fun k hl _ => hb.block k hl
theorem P3.drew (h : P3 w B no Ao co O nq Aq cq Q nm Am cm M) : P3 w.drew B no Ao co O nq Aq cq Q nm Am cm M := h.same fun _ _ _ => rfl
theorem P3.drewN (h : P3 w B no Ao co O nq Aq cq Q nm Am cm M) (n : Nat) : P3 (w.drewN n) B no Ao co O nq Aq cq Q nm Am cm M := h.same fun _ _ _ => rfl
theorem P3.alloc (h : P3 w B no Ao co O nq Aq cq Q nm Am cm M) (o : Obj) : P3 (w.alloc o) B no Ao co O nq Aq cq Q nm Am cm M := h.below ((Below.refl _ _).alloc (Nat.le_refl _) _)
theorem P3.appO {A' : Option Addr} {c' : Nat} {t : Tri} (h : P3 w B no Ao co O nq Aq cq Q nm Am cm M) (ho : w'.ownsRow B 36 3 (.slice A' (no + 1) c') (no + 1) (O.flatMap Tri.cells ++ [.int .i64 t.a, .int .i64 t.b, .int .i64 t.c]))
    (hg : w.grownBy w' (Value.slice Ao no co).ownBlock) (h4 : (Value.slice A' (no + 1) c').ownBlock = (Value.slice Ao no co).ownBlock ∨ (Value.slice A' (no + 1) c').ownBlock = some w.heap.size) : P3 w' B (no + 1) A' c' (O ++ [t]) nq Aq cq Q nm Am cm M :=
  ⟨by unfold PR; rw [List.flatMap_append]; exact ho, h.q.same fun k e hl => hg.block k hl fun e' => h.oq k e'.symm e, h.m.same fun k e hl => hg.block k hl fun e' => h.om k e'.symm e,
    fun k e e' => by
      rcases h4 with h4 | h4
      · exact h.oq k (h4.symm.trans e) e'
      · rw [h4] at e; injection e with e; have := (h.q.lt_ k e').2; omega,
    fun k e e' => by
      rcases h4 with h4 | h4
      · exact h.om k (h4.symm.trans e) e'
      · rw [h4] at e; injection e with e; have := (h.m.lt_ k e').2; omega, h.qm⟩
theorem P3.appQ {A' : Option Addr} {c' : Nat} {t : Tri} (h : P3 w B no Ao co O nq Aq cq Q nm Am cm M) (ho : w'.ownsRow B 36 3 (.slice A' (nq + 1) c') (nq + 1) (Q.flatMap Tri.cells ++ [.int .i64 t.a, .int .i64 t.b, .int .i64 t.c]))
    (hg : w.grownBy w' (Value.slice Aq nq cq).ownBlock) (h4 : (Value.slice A' (nq + 1) c').ownBlock = (Value.slice Aq nq cq).ownBlock ∨ (Value.slice A' (nq + 1) c').ownBlock = some w.heap.size) : P3 w' B no Ao co O (nq + 1) A' c' (Q ++ [t]) nm Am cm M :=
  ⟨h.o.same fun k e hl => hg.block k hl fun e' => h.oq k e e'.symm, by unfold PR; rw [List.flatMap_append]; exact ho, h.m.same fun k e hl => hg.block k hl fun e' => h.qm k e'.symm e,
    fun k e e' => by
      rcases h4 with h4 | h4
      · exact h.oq k e (h4.symm.trans e')
      · rw [h4] at e'; injection e' with e'; have := (h.o.lt_ k e).2; omega, h.om,
    fun k e e' => by
      rcases h4 with h4 | h4
      · exact h.qm k (h4.symm.trans e) e'
      · rw [h4] at e; injection e with e; have := (h.m.lt_ k e').2; omega⟩
theorem P3.appM {A' : Option Addr} {c' : Nat} {t : Tri} (h : P3 w B no Ao co O nq Aq cq Q nm Am cm M) (ho : w'.ownsRow B 36 3 (.slice A' (nm + 1) c') (nm + 1) (M.flatMap Tri.cells ++ [.int .i64 t.a, .int .i64 t.b, .int .i64 t.c]))
    (hg : w.grownBy w' (Value.slice Am nm cm).ownBlock) (h4 : (Value.slice A' (nm + 1) c').ownBlock = (Value.slice Am nm cm).ownBlock ∨ (Value.slice A' (nm + 1) c').ownBlock = some w.heap.size) : P3 w' B no Ao co O nq Aq cq Q (nm + 1) A' c' (M ++ [t]) :=
  ⟨h.o.same fun k e hl => hg.block k hl fun e' => h.om k e e'.symm, h.q.same fun k e hl => hg.block k hl fun e' => h.qm k e e'.symm, by unfold PR; rw [List.flatMap_append]; exact ho, h.oq,
    fun k e e' => by
      rcases h4 with h4 | h4
      · exact h.om k e (h4.symm.trans e')
      · rw [h4] at e'; injection e' with e'; have := (h.o.lt_ k e).2; omega,
    fun k e e' => by
      rcases h4 with h4 | h4
      · exact h.qm k e (h4.symm.trans e')
      · rw [h4] at e'; injection e' with e'; have := (h.q.lt_ k e).2; omega⟩
theorem PB.new_ (h : P3 w B no Ao co O nq Aq cq Q nm Am cm M) (t : Tri) : PB (w.alloc (.cells #[.int .i64 t.a, .int .i64 t.b, .int .i64 t.c] 36)) w.heap.size t (.slice Ao no co) (.slice Aq nq cq) (.slice Am nm cm) :=
  ⟨Blk.new _ _ _, fun e => by have := (h.o.lt_ _ e.symm).2; omega, fun e => by have := (h.q.lt_ _ e.symm).2; omega, fun e => by have := (h.m.lt_ _ e.symm).2; omega⟩
end
section
variable {w w' : World} {g : Nat} {t : Tri} {vo vq vm v' : Value}
theorem PB.alloc (h : PB w g t vo vq vm) (o : Obj) : PB (w.alloc o) g t vo vq vm := ⟨h.b.alloc o, h.o, h.q, h.m⟩
theorem PB.drew (h : PB w g t vo vq vm) : PB w.drew g t vo vq vm := ⟨h.b, h.o, h.q, h.m⟩
theorem PB.appO (h : PB w g t vo vq vm) (hg : w.grownBy w' vo.ownBlock) (h4 : v'.ownBlock = vo.ownBlock ∨ v'.ownBlock = some w.heap.size) : PB w' g t v' vq vm :=
  ⟨h.b.grown hg h.o, fun e => by
    rcases h4 with h4 | h4
    · exact h.o (e.trans h4)
    · rw [h4] at e; injection e with e; have := h.b.lt; omega, h.q, h.m⟩
theorem PB.appQ (h : PB w g t vo vq vm) (hg : w.grownBy w' vq.ownBlock) (h4 : v'.ownBlock = vq.ownBlock ∨ v'.ownBlock = some w.heap.size) : PB w' g t vo v' vm :=
  ⟨h.b.grown hg h.q, h.o, fun e => by
    rcases h4 with h4 | h4
    · exact h.q (e.trans h4)
    · rw [h4] at e; injection e with e; have := h.b.lt; omega, h.m⟩
theorem PB.reads (h : PB w g t vo vq vm) : Reads w (g + 1) 3 (some ⟨g, 0, none⟩) 1 [.int .i64 t.a, .int .i64 t.b, .int .i64 t.c] := reads_blk (size := 3) (n := 1) h.b rfl
end
end Go.Proofs.Ytcpfolojfdnojaa
