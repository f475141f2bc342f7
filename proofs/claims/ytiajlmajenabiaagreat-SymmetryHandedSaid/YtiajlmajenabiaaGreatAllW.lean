/- symmetry.All's closure, walked. No condition but sizes. -/
import Derived.Test.YtiajlmajenabiaaGreatAllP
set_option maxRecDepth 100000
set_option maxHeartbeats 16000000
set_option linter.all false
namespace Go.Proofs.YtiajlmajenabiaaGreat
open Go.RowKit
structure GoC (w0 : World) (bl bo bt bu bg gt gu m : Nat) (A : Option Addr) (c : Nat) (ks : List KindV) : Prop where
 l : Blk w0 bl 73 #[.slice A ks.length c]
 o : ∃ v, Blk w0 bo 33 #[v]
 t : Blk w0 bt 25 #[.slice (some ⟨gt, 0, none⟩) m m]
 u : Blk w0 bu 72 #[.slice (some ⟨gu, 0, none⟩) ks.length ks.length]
 g : Blk w0 bg 88 #[.func (.func 52) #[] #[.pointer (some ⟨bl, 0, none⟩), .pointer (some ⟨bo, 0, none⟩), .pointer (some ⟨bt, 0, none⟩), .pointer (some ⟨bu, 0, none⟩), .pointer (some ⟨bg, 0, none⟩)]]
 ft : ∃ cs, Blk w0 gt 3 cs
 fu : ∃ cs, Blk w0 gu 4 cs
 ks : ∃ (w00 : World) (B : Nat), KindsAt w00 B A c ks ∧ Below w00.heap.size w00 w0 ∧ w00.heap.size ≤ bo ∧ w00.heap.size ≤ gt ∧ w00.heap.size ≤ gu
 m : m ≤ 4096
def GF (bo gt gu k : Nat) : Prop := k = bo ∨ k = gt ∨ k = gu
structure GAt (w0 : World) (bo gt gu m K : Nat) (used : Nat → Bool) (s : GSt) (W : World) : Prop where
 o : Only (GF bo gt gu) w0 W
 out : ∃ (Ao : Option Addr) (co : Nat), Blk W bo 33 #[.slice Ao s.1.length co] ∧ WaysAt W w0.heap.size Ao co s.1
 t : Blk W gt 3 (intsA s.2)
 tl : s.2.length = m
 u : Blk W gu 4 (boolA K used)
section
variable {w0 W W' : World} {bl bo bt bu bg gt gu m c : Nat} {A : Option Addr} {ks : List KindV} {used : Nat → Bool} {s : GSt}
theorem GoC.nel (h : GoC w0 bl bo bt bu bg gt gu m A c ks) : (¬ GF bo gt gu bl) ∧ (¬ GF bo gt gu bt) ∧ (¬ GF bo gt gu bu) ∧ ¬ GF bo gt gu bg := by
 obtain ⟨vo, ho⟩ := h.o
 obtain ⟨ct, ht⟩ := h.ft
 obtain ⟨cu, hu⟩ := h.fu
 refine ⟨?_, ?_, ?_, ?_⟩ <;> rintro (e | e | e)
 · exact h.l.ne_ ho (by decide) e
 · exact h.l.ne_ ht (by decide) e
 · exact h.l.ne_ hu (by decide) e
 · exact h.t.ne_ ho (by decide) e
 · exact h.t.ne_ ht (by decide) e
 · exact h.t.ne_ hu (by decide) e
 · exact h.u.ne_ ho (by decide) e
 · exact h.u.ne_ ht (by decide) e
 · exact h.u.ne_ hu (by decide) e
 · exact h.g.ne_ ho (by decide) e
 · exact h.g.ne_ ht (by decide) e
 · exact h.g.ne_ hu (by decide) e
theorem GAt.hl (h : GAt w0 bo gt gu m ks.length used s W) (hc : GoC w0 bl bo bt bu bg gt gu m A c ks) : Blk W bl 73 #[.slice A ks.length c] := hc.l.only h.o hc.nel.1
theorem GAt.ht (h : GAt w0 bo gt gu m ks.length used s W) (hc : GoC w0 bl bo bt bu bg gt gu m A c ks) : Blk W bt 25 #[.slice (some ⟨gt, 0, none⟩) m m] := hc.t.only h.o hc.nel.2.1
theorem GAt.hu (h : GAt w0 bo gt gu m ks.length used s W) (hc : GoC w0 bl bo bt bu bg gt gu m A c ks) : Blk W bu 72 #[.slice (some ⟨gu, 0, none⟩) ks.length ks.length] := hc.u.only h.o hc.nel.2.2.1
theorem GAt.hg (h : GAt w0 bo gt gu m ks.length used s W) (hc : GoC w0 bl bo bt bu bg gt gu m A c ks) : Blk W bg 88 #[.func (.func 52) #[] #[.pointer (some ⟨bl, 0, none⟩), .pointer (some ⟨bo, 0, none⟩), .pointer (some ⟨bt, 0, none⟩), .pointer (some ⟨bu, 0, none⟩), .pointer (some ⟨bg, 0, none⟩)]] := hc.g.only h.o hc.nel.2.2.2
theorem GAt.hks (h : GAt w0 bo gt gu m ks.length used s W) (hc : GoC w0 bl bo bt bu bg gt gu m A c ks) : ∃ (w00 : World) (B : Nat), KindsAt W B A c ks ∧ w00.heap.size ≤ W.heap.size := by
 obtain ⟨w00, B, h1, h2, h3, h4, h5⟩ := hc.ks
 have hb : Below w00.heap.size w00 W := h2.trans (h.o.below h2.size fun k hk hf => by rcases hf with e | e | e <;> omega)
 exact ⟨w00, B, h1.below hb, hb.size⟩
theorem GAt.below (h : GAt w0 bo gt gu m ks.length used s W) (hb : Below W.heap.size W W') : GAt w0 bo gt gu m ks.length used s W' := by
 obtain ⟨Ao, co, h1, h2⟩ := h.out
 exact ⟨h.o.trans (Only.of_below hb _), ⟨Ao, co, h1.below hb h1.lt, h2.below hb⟩, h.t.below hb h.t.lt, h.tl, h.u.below hb h.u.lt⟩
theorem GAt.alloc (h : GAt w0 bo gt gu m ks.length used s W) (o : Obj) : GAt w0 bo gt gu m ks.length used s (W.alloc o) := h.below (bw_alloc (Below.refl _ _) o)
theorem GAt.drew (h : GAt w0 bo gt gu m ks.length used s W) : GAt w0 bo gt gu m ks.length used s W.drew := h.below (bw_drew (Below.refl _ _))
end
attribute [local irreducible] Blk World.alloc World.setCell World.cell? World.frozen? MapV MapI
theorem GoC.kind {w0 : World} {bl bo bt bu bg gt gu m c gk : Nat} {ks : List KindV} (hc : GoC w0 bl bo bt bu bg gt gu m (some ⟨gk, 0, none⟩) c ks) {j : Nat} (hj : j < ks.length) :
  ∃ (B : Nat) (At Aw : Option Addr) (ct cw : Nat) (k : KindV), ks[j]? = some k ∧ (∀ (used : Nat → Bool) (s : GSt) (W : World), GAt w0 bo gt gu m ks.length used s W →
   CellQ W ⟨gk, j * 3, none⟩ (.int .i64 k.M) ∧ CellQ W ⟨gk, j * 3 + 1, none⟩ (.slice At k.L.length ct) ∧ CellQ W ⟨gk, j * 3 + 2, none⟩ (.slice Aw k.ws.length cw) ∧ LRow W B At ct k.L) ∧
   ∀ p, p < k.ws.length → ∃ (gw : Nat) (Ap : Option Addr) (cp : Nat), Aw = some ⟨gw, 0, none⟩ ∧ ∀ (used : Nat → Bool) (s : GSt) (W : World), GAt w0 bo gt gu m ks.length used s W → CellQ W ⟨gw, p, none⟩ (.slice Ap (k.ws.getD p []).length cp) ∧ IR W B Ap cp (k.ws.getD p []) := by
 obtain ⟨w00, B, h1, h2, h3, h4, h5⟩ := hc.ks
 obtain ⟨g1, At, Aw, ct, cw, k, hA, hk, y0, y1, y2, hl, hw⟩ := h1.at_ hj
 injection hA with hA
 injection hA with hA
 subst hA
 have hlt : gk < w00.heap.size := World.block_lt_of_cell? w00 _ y0
 have hbel : ∀ (used : Nat → Bool) (s : GSt) (W : World), GAt w0 bo gt gu m ks.length used s W → Below w00.heap.size w00 W := fun used s W h => h2.trans (h.o.below h2.size fun k hk hf => by rcases hf with e | e | e <;> omega)
 refine ⟨B, At, Aw, ct, cw, k, hk, fun used s W h => ?_, fun p hp => ?_⟩
 · have hb := hbel used s W h
   have hlt2 : gk < W.heap.size := Nat.lt_of_lt_of_le hlt hb.size
   exact ⟨⟨(hb.cell (p := ⟨gk, _, none⟩) hlt).trans y0, hlt2⟩, ⟨(hb.cell (p := ⟨gk, _, none⟩) hlt).trans y1, hlt2⟩, ⟨(hb.cell (p := ⟨gk, _, none⟩) hlt).trans y2, hlt2⟩, LRow.below hl hb⟩
 · obtain ⟨gw, Ap, cp, hA, hcell, hir⟩ := hw.at_ hp
   have hlw : gw < w00.heap.size := World.block_lt_of_cell? w00 _ hcell
   refine ⟨gw, Ap, cp, hA, fun used s W h => ?_⟩
   have hb := hbel used s W h
   exact ⟨⟨(hb.cell (p := ⟨gw, _, none⟩) hlw).trans hcell, Nat.lt_of_lt_of_le hlw hb.size⟩, hir.below hb⟩
end Go.Proofs.YtiajlmajenabiaaGreat
