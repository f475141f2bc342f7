/- PredictMoves: words for the walk. No condition. -/
import Derived.Test.YtcpfolojfdnojaaMovR
import Derived.Test.YtcpfolojfdnojaaWake28
import Derived.Test.YtcpfolojfdnojaaPointC
import Derived.Test.YtcpfolojfdnojaaIr
namespace Go.Proofs.Ytcpfolojfdnojaa
open Go.RowKit

set_option linter.unusedSimpArgs false
set_option linter.unusedVariables false
theorem tmod_le5 (x : Int) : -499 ≤ Int.tmod x 500 ∧ Int.tmod x 500 ≤ 499 := ⟨by have := Int.lt_tmod_of_pos x (b := 500) (by omega); omega, by have := Int.tmod_lt_of_pos x (b := 500) (by omega); omega⟩
/-- Points, moved, and mirrored. -/
structure MovAll (n : Nat) (O Q M : List Tri) (s0 s1 s2 : Int) : Prop where
  o : O.length = n
  q : Q.length = n
  m : M.length = n
  p : ∀ v, v < n → ∃ e0 e1 e2 : Int, (-499 ≤ e0 ∧ e0 ≤ 499) ∧ (-499 ≤ e1 ∧ e1 ≤ 499) ∧ (-499 ≤ e2 ∧ e2 ≤ 499) ∧ tri O v = ⟨2 * e0, 2 * e1, 2 * e2⟩ ∧ tri Q v = ⟨2 * e0 + s0, 2 * e1 + s1, 2 * e2 + s2⟩ ∧ tri M v = ⟨-(2 * e0), -(2 * e1), -(2 * e2)⟩
theorem MovAll.nil (s0 s1 s2 : Int) : MovAll 0 [] [] [] s0 s1 s2 := ⟨rfl, rfl, rfl, fun v h => absurd h (by omega)⟩
theorem tri_snoc {L : List Tri} {t : Tri} {v n : Nat} (hn : L.length = n) (hv : v < n + 1) : tri (L ++ [t]) v = if v = n then t else tri L v := by
  unfold tri
  rw [List.getD_eq_getElem?_getD, List.getD_eq_getElem?_getD]
  by_cases h : v = n
  · rw [if_pos h, List.getElem?_append_right (by omega), show v - L.length = 0 by omega]
    rfl
  · rw [if_neg h, List.getElem?_append_left (by omega)]
theorem MovAll.snoc {n : Nat} {O Q M : List Tri} {s0 s1 s2 e0 e1 e2 : Int} (h : MovAll n O Q M s0 s1 s2) (h0 : -499 ≤ e0 ∧ e0 ≤ 499) (h1 : -499 ≤ e1 ∧ e1 ≤ 499) (h2 : -499 ≤ e2 ∧ e2 ≤ 499) :
    MovAll (n + 1) (O ++ [⟨2 * e0, 2 * e1, 2 * e2⟩]) (Q ++ [⟨2 * e0 + s0, 2 * e1 + s1, 2 * e2 + s2⟩]) (M ++ [⟨-(2 * e0), -(2 * e1), -(2 * e2)⟩]) s0 s1 s2 :=
  ⟨by simp [h.o], by simp [h.q], by simp [h.m], fun v hv => by
    rw [tri_snoc h.o hv, tri_snoc h.q hv, tri_snoc h.m hv]
    by_cases e : v = n
    · rw [if_pos e, if_pos e, if_pos e]
      exact ⟨e0, e1, e2, h0, h1, h2, rfl, rfl, rfl⟩
    · rw [if_neg e, if_neg e, if_neg e]
      exact h.p v (by omega)⟩
theorem MovAll.mov {n : Nat} {O Q M : List Tri} {t0 t1 t2 : Int} (h : MovAll n O Q M (2 * t0) (2 * t1) (2 * t2)) (h0 : -499 ≤ t0 ∧ t0 ≤ 499) (h1 : -499 ≤ t1 ∧ t1 ≤ 499) (h2 : -499 ≤ t2 ∧ t2 ≤ 499) :
    Mov n O Q M 0 (2 * t0) ∧ Mov n O Q M 1 (2 * t1) ∧ Mov n O Q M 2 (2 * t2) := by
  refine ⟨⟨h.o, h.q, h.m, ⟨t0, rfl, h0.1, h0.2⟩, fun v hv => ?_⟩, ⟨h.o, h.q, h.m, ⟨t1, rfl, h1.1, h1.2⟩, fun v hv => ?_⟩, ⟨h.o, h.q, h.m, ⟨t2, rfl, h2.1, h2.2⟩, fun v hv => ?_⟩⟩
  all_goals
    obtain ⟨e0, e1, e2, b0, b1, b2, p0, p1, p2⟩ := h.p v hv
    rw [p0, p1, p2]
  · exact ⟨e0, b0.1, b0.2, rfl, rfl, rfl⟩
  · exact ⟨e1, b1.1, b1.2, rfl, rfl, rfl⟩
  · exact ⟨e2, b2.1, b2.2, rfl, rfl, rfl⟩
theorem PR.own {w : World} {B n : Nat} {A : Option Addr} {c : Nat} {L : List Tri} (h : PR w B n A c L) : w.ownsRow B 36 3 (.slice A n c) n (L.flatMap Tri.cells) := h
theorem PB.appM {w w' : World} {g : Nat} {t : Tri} {vo vq vm v' : Value} (h : PB w g t vo vq vm) (hg : w.grownBy w' vm.ownBlock) (h4 : v'.ownBlock = vm.ownBlock ∨ v'.ownBlock = some w.heap.size) : PB w' g t vo vq v' :=
  ⟨h.b.grown hg h.m, h.o, h.q, fun e => by
    rcases h4 with h4 | h4
    · exact h.m (e.trans h4)
    · rw [h4] at e; injection e with e; have := h.b.lt; omega⟩
theorem PB.old {w w' : World} {B : Nat} {no : Nat} {Ao : Option Addr} {co : Nat} {O : List Tri} {nq : Nat} {Aq : Option Addr} {cq : Nat} {Q : List Tri} {nm : Nat} {Am : Option Addr} {cm : Nat} {M : List Tri} {g : Nat} (h : P3 w B no Ao co O nq Aq cq Q nm Am cm M) (hg : w.heap.size ≤ g) (t : Tri) (hb : Blk w' g 36 #[.int .i64 t.a, .int .i64 t.b, .int .i64 t.c]) : PB w' g t (.slice Ao no co) (.slice Aq nq cq) (.slice Am nm cm) :=
  ⟨hb, fun e => by have := (h.o.lt_ _ e.symm).2; omega, fun e => by have := (h.q.lt_ _ e.symm).2; omega, fun e => by have := (h.m.lt_ _ e.symm).2; omega⟩
theorem step_le (q : Int) (A : Ar) (k : Nat) (t : Int) : (stepM q A k (2 * t) = 0 ∨ stepM q A k (2 * t) = 2 * t) := by
  unfold stepM
  split
  · exact .inl rfl
  · split
    · exact .inl rfl
    · exact .inr rfl
theorem share0 {G : World → Prop} {R : Prop} (F : World → Prop) (use : (∀ W, F W → G W) → R) (pf : ∀ W, F W → G W) : R := use pf
theorem share1 {G : World → Nat → Prop} {R : Prop} (F : World → Nat → Prop) (use : (∀ W a, F W a → G W a) → R) (pf : ∀ W a, F W a → G W a) : R := use pf
theorem share2 {G : World → Nat → Nat → Prop} {R : Prop} (F : World → Nat → Nat → Prop) (use : (∀ W a b, F W a b → G W a b) → R) (pf : ∀ W a b, F W a b → G W a b) : R := use pf
theorem share3 {G : World → Nat → Nat → Nat → Prop} {R : Prop} (F : World → Nat → Nat → Nat → Prop) (use : (∀ W a b c, F W a b c → G W a b c) → R) (pf : ∀ W a b c, F W a b c → G W a b c) : R := use pf
theorem PB.below {w w' : World} {g : Nat} {t : Tri} {vo vq vm : Value} (h : PB w g t vo vq vm) (hb : Below w.heap.size w w') : PB w' g t vo vq vm := ⟨h.b.below hb h.b.lt, h.o, h.q, h.m⟩
theorem PB.far_ {w : World} {g g' : Nat} {t : Tri} {vo vq vm : Value} (h : PB w g t vo vq vm) (hne : g ≠ g') (i : Nat) (u : Value) : PB (w.setCell ⟨g', i, none⟩ u) g t vo vq vm := ⟨h.b.far hne _, h.o, h.q, h.m⟩
theorem P3.far_ {w : World} {B : Nat} {no : Nat} {Ao : Option Addr} {co : Nat} {O : List Tri} {nq : Nat} {Aq : Option Addr} {cq : Nat} {Q : List Tri} {nm : Nat} {Am : Option Addr} {cm : Nat} {M : List Tri} {g : Nat} {t : Tri} (h : P3 w B no Ao co O nq Aq cq Q nm Am cm M) (hb : PB w g t (.slice Ao no co) (.slice Aq nq cq) (.slice Am nm cm)) (i : Nat) (u : Value) : P3 (w.setCell ⟨g, i, none⟩ u) B no Ao co O nq Aq cq Q nm Am cm M :=
  ⟨h.o.same fun k e _ => Below.heap_setCell _ _ _ _ (fun e' => hb.o (by rw [e]; exact congrArg some e'.symm)), h.q.same fun k e _ => Below.heap_setCell _ _ _ _ (fun e' => hb.q (by rw [e]; exact congrArg some e'.symm)), h.m.same fun k e _ => Below.heap_setCell _ _ _ _ (fun e' => hb.m (by rw [e]; exact congrArg some e'.symm)), h.oq, h.om, h.qm⟩
def st3 (w : World) (g : Nat) (a b c : Int) : World := ((w.setCell ⟨g, 0, none⟩ (.int .i64 a)).setCell ⟨g, 1, none⟩ (.int .i64 b)).setCell ⟨g, 2, none⟩ (.int .i64 c)
theorem PB.st {w : World} {g : Nat} {t : Tri} {vo vq vm : Value} (h : PB w g t vo vq vm) (a b c : Int) : PB (st3 w g a b c) g ⟨a, b, c⟩ vo vq vm := ⟨((h.b.set_ 0 _).set_ 1 _).set_ 2 _, h.o, h.q, h.m⟩
theorem PB.stf {w : World} {g g' : Nat} {t : Tri} {vo vq vm : Value} (h : PB w g t vo vq vm) (hne : g ≠ g') (a b c : Int) : PB (st3 w g' a b c) g t vo vq vm := ((h.far_ hne 0 _).far_ hne 1 _).far_ hne 2 _
/-- What stays in a round. -/
structure BS (w W : World) (B k : Nat) (Ao : Option Addr) (co : Nat) (O : List Tri) (Aq : Option Addr) (cq : Nat) (Q : List Tri) (Am : Option Addr) (cm : Nat) (M : List Tri) (ga gb : Nat) (ca cb : Array Value) : Prop where
  p : P3 W B k Ao co O k Aq cq Q k Am cm M
  a : Blk W ga 32 ca
  b : Blk W gb 36 cb
  h : Below w.heap.size w W
  hB : w.heap.size ≤ B
section
variable {w W W' : World} {B k : Nat} {Ao : Option Addr} {co : Nat} {O : List Tri} {Aq : Option Addr} {cq : Nat} {Q : List Tri} {Am : Option Addr} {cm : Nat} {M : List Tri} {ga gb : Nat} {ca cb : Array Value}
theorem BS.alloc (h : BS w W B k Ao co O Aq cq Q Am cm M ga gb ca cb) (o : Obj) : BS w (W.alloc o) B k Ao co O Aq cq Q Am cm M ga gb ca cb := ⟨h.p.alloc o, h.a.alloc o, h.b.alloc o, bw_alloc h.h o, h.hB⟩
theorem BS.drew (h : BS w W B k Ao co O Aq cq Q Am cm M ga gb ca cb) : BS w W.drew B k Ao co O Aq cq Q Am cm M ga gb ca cb := ⟨h.p.drew, h.a, h.b, bw_drew h.h, h.hB⟩
theorem BS.below (h : BS w W B k Ao co O Aq cq Q Am cm M ga gb ca cb) (hb : Below W.heap.size W W') : BS w W' B k Ao co O Aq cq Q Am cm M ga gb ca cb := ⟨h.p.below hb, h.a.below hb h.a.lt, h.b.below hb h.b.lt, bw_call h.h hb, h.hB⟩
theorem BS.st {g : Nat} {t : Tri} (h : BS w W B k Ao co O Aq cq Q Am cm M ga gb ca cb) (hb : PB W g t (.slice Ao k co) (.slice Aq k cq) (.slice Am k cm)) (hg : B ≤ g) (h1 : ga ≠ g) (h2 : gb ≠ g) (a b c : Int) : BS w (st3 W g a b c) B k Ao co O Aq cq Q Am cm M ga gb ca cb :=
  have hb1 : PB (W.setCell ⟨g, 0, none⟩ (.int .i64 a)) g ⟨a, t.b, t.c⟩ (.slice Ao k co) (.slice Aq k cq) (.slice Am k cm) := ⟨hb.b.set_ 0 _, hb.o, hb.q, hb.m⟩
  have hb2 : PB ((W.setCell ⟨g, 0, none⟩ (.int .i64 a)).setCell ⟨g, 1, none⟩ (.int .i64 b)) g ⟨a, b, t.c⟩ (.slice Ao k co) (.slice Aq k cq) (.slice Am k cm) := ⟨hb1.b.set_ 1 _, hb.o, hb.q, hb.m⟩
  have hg' : w.heap.size ≤ g := Nat.le_trans h.hB hg
  ⟨((h.p.far_ hb 0 _).far_ hb1 1 _).far_ hb2 2 _, ((h.a.far h1 _).far h1 _).far h1 _, ((h.b.far h2 _).far h2 _).far h2 _, bw_set (bw_set (bw_set h.h hg' _) hg' _) hg' _, h.hB⟩
end
end Go.Proofs.Ytcpfolojfdnojaa
