/- gypsumref15.Copy, walked. No condition but sizes. -/
import Derived.Test.YtcpfolojfdnojaaTurn8
namespace Go.Proofs.Ytcpfolojfdnojaa
open Go.RowKit

set_option linter.unusedSimpArgs false
set_option linter.unusedVariables false
theorem tri_infoC : (Try.prog.info? 47).map (fun i => (i.zero, i.size, i.bytes)) = some (some (.agg #[.int .i64 0, .int .i64 0, .int .i64 0]), 3, 24) := by kernel_rfl
structure Keep2 (w : World) (ga B : Nat) (cs : Array Value) (w' : World) : Prop where
  b : Blk w' ga 24 cs
  h : Below B w w'
  s : B = w.heap.size
section
variable {w w' : World} {ga B : Nat} {cs : Array Value}
theorem Keep2.alloc (h : Keep2 w ga B cs w') (o : Obj) : Keep2 w ga B cs (w'.alloc o) := ⟨h.b.alloc _, by have := h.s; subst this; exact bw_alloc h.h _, h.s⟩
theorem Keep2.drew (h : Keep2 w ga B cs w') : Keep2 w ga B cs w'.drew := ⟨h.b.drew, by have := h.s; subst this; exact bw_drew h.h, h.s⟩
theorem Keep2.grow {row : Option Nat} (h : Keep2 w ga B cs w') {w2 : World} (hg : w'.grownBy w2 row) (hn : some ga ≠ row) (hr : ∀ k, row = some k → B ≤ k) : Keep2 w ga B cs w2 := ⟨h.b.grown hg hn, by have := h.s; subst this; exact bw_grow h.h hg hr, h.s⟩
theorem Keep2.set (h : Keep2 w ga B cs w') {g i : Nat} (hn : ga ≠ g) (hB : B ≤ g) (u : Value) : Keep2 w ga B cs (w'.setCell ⟨g, i, none⟩ u) := ⟨h.b.far hn _, by have := h.s; subst this; exact bw_set h.h hB _, h.s⟩
end
attribute [local irreducible] Blk LRow World.alloc World.setCell KeepB World.cell? World.frozen?
set_option maxRecDepth 100000 in
set_option maxHeartbeats 4000000 in
theorem copy15_any (N : Int) (A : Option Addr) (c : Nat) (T : List Tri) (w : World) (hT : T.length ≤ 1000) (ht : TrisAt w w.heap.size A T.length T) :
    Calls Try.prog 16 #[.agg #[.int .i64 N, .slice A T.length c]] w (fun e w' => ∃ A' c', e = .returned (.agg #[.int .i64 N, .slice A' T.length c']) ∧ LRow w' w.heap.size A' c' T ∧ Below w.heap.size w w') := by
  have HT := Lib.hid ht
  clear ht
  obtain ⟨i0, hi0, hz0, hz1, hz2⟩ := info_parts tri_infoC
  obtain ⟨V, hV⟩ : ∃ V, V = (w.alloc (.cells #[.int .i64 N, .slice A T.length c] 24)).alloc (.cells #[.int .i64 0, .slice none 0 0] 24) := ⟨_, rfl⟩
  have GA0 : Hid (Blk V w.heap.size 24 #[.int .i64 N, .slice A T.length c]) := by subst hV; exact Lib.hid ((Blk.new _ _ _).alloc _)
  have GZ0 : Hid (Blk V (w.heap.size + 1) 24 #[.int .i64 0, .slice none 0 0]) := by subst hV; exact Lib.hid (blk_new1 _ _ _ _)
  have HB0 : Hid (Below w.heap.size w V) := by subst hV; exact Lib.hid (bw_alloc (bw_alloc (Below.refl _ _) _) _)
  go_enter Try.func16, Try.ntmps16
  go_upto_region 1 with (fail)
  rw [← hV]
  clear hV
  obtain ⟨ga, hga⟩ : ∃ g, g = w.heap.size := ⟨_, rfl⟩
  obtain ⟨gz, hgz⟩ : ∃ g, g = w.heap.size + 1 := ⟨_, rfl⟩
  have HGA : Hid (ga = w.heap.size ∧ gz = w.heap.size + 1) := Lib.hid ⟨hga, hgz⟩
  rw [← hgz] at GZ0 ⊢
  rw [← hga] at GA0
  simp only [← hga]
  clear hga hgz
  have HK0 : Hid (Keep2 w ga w.heap.size #[.int .i64 N, .slice A T.length c] V) := Lib.hid ⟨GA0.out, HB0.out, rfl⟩
  have HS : Hid (∀ w', Keep2 w ga w.heap.size #[.int .i64 N, .slice A T.length c] w' → w'.cell? ⟨ga, 0, none⟩ = some (.int .i64 N) ∧ w'.cell? ⟨ga, 1, none⟩ = some (.slice A T.length c) ∧ Keep2 w ga w.heap.size #[.int .i64 N, .slice A T.length c] w') := Lib.hid fun w' h => ⟨(soup_facts h.b).1, (soup_facts h.b).2.1, h⟩
  have HSO : Hid (∀ w', (w'.cell? ⟨ga, 0, none⟩ = some (.int .i64 N) ∧ w'.cell? ⟨ga, 1, none⟩ = some (.slice A T.length c) ∧ Keep2 w ga w.heap.size #[.int .i64 N, .slice A T.length c] w') → Keep2 w ga w.heap.size #[.int .i64 N, .slice A T.length c] w') := Lib.hid fun w' h => h.2.2
  have HNE : Hid (ga ≠ gz ∧ w.heap.size ≤ gz) := Lib.hid (by have := HGA.out; omega)
  have HVL : Hid (ga < V.heap.size ∧ gz < V.heap.size) := Lib.hid ⟨GA0.out.lt, GZ0.out.lt⟩
  obtain ⟨s0, s1, _, _, _⟩ := soup_facts GA0.out
  obtain ⟨z0, z1, _, _, _⟩ := soup_facts GZ0.out
  go_region_held3 (fun w' => w'.cell? ⟨ga, 0, none⟩ = some (.int .i64 N) ∧ w'.cell? ⟨ga, 1, none⟩ = some (.slice A T.length c) ∧ Keep2 w ga w.heap.size #[.int .i64 N, .slice A T.length c] w')
    ((refine HS.out _ ?_; repeat (first | assumption | exact HK0.out | exact HSO.out _ (by assumption) | refine Keep2.alloc ?_ _ | refine Keep2.drew ?_ | refine Keep2.set ?_ HNE.out.1 HNE.out.2 _)))
    (first | (refine step_append_sl _ (by rfl) (.tmp 5) (.tmp 7) _ (by rfl) V.heap.size 47 i0 _ 3 24 Try.underlying22 hi0 hz0 hz1 hz2 rfl (by omega) (.slice (some ⟨V.heap.size, 0, none⟩) 0 0) 0 [] (by rfl) (by first | exact own_at ((Blk.new V 47 #[]).drew) (Nat.le_refl _) | exact own_at (Blk.new _ 47 #[]) (Nat.le_refl _)) w.heap.size A T.length c (T.flatMap Tri.cells) (by rfl) (HT.out.row.below (HSO.out _ (by assumption)).h) (tris_one T) (by simp only [maxLen]; omega) (by omega) (by first | exact bw_size (bw_drew (bw_alloc (Below.refl _ V) _)) | exact bw_size (bw_alloc (bw_drew (Below.refl _ V)) _)) ?_; intro A5 c5 w5 hown5 hg5 hat5; have hK5 := (HSO.out _ (by assumption)).grow hg5 (by simp [Value.ownBlock]; have := HVL.out.1; omega) (by simp [Value.ownBlock]; have := HB0.out.size; omega); have GZ5 := (by first | exact ((GZ0.out.alloc _).drew).grown hg5 (by simp [Value.ownBlock]; have := HVL.out.2; omega) | exact ((GZ0.out.drew).alloc _).grown hg5 (by simp [Value.ownBlock]; have := HVL.out.2; omega) : Blk w5 gz 24 #[.int .i64 0, .slice none 0 0]); obtain ⟨y0, y1, y2, y3, _⟩ := soup_facts GZ5))
  all_goals
    have hz := soup_set GZ5 (.int .i64 N) (.slice A5 T.length c5)
    have hl := (lrow_of (L := T) hown5 (by simp) (by simp)).soup_set GZ5 (.int .i64 N) (.slice A5 T.length c5)
    have hl2 := hl.base HB0.out.size
    have hb := bw_set (bw_set hK5.h HNE.out.2 (.int .i64 N) (p := ⟨gz, 0, none⟩)) HNE.out.2 (.slice A5 T.length c5) (p := ⟨gz, 1, none⟩)
    clear y0 y1 y2 y3 hK5 hown5 hg5 hat5 GZ5 hl s0 s1 z0 z1
    obtain ⟨x0, x1, _, _, _⟩ := soup_facts hz
    go_wp2_with fail
    refine bodyPost_ret (v := .agg #[.int .i64 N, .slice A5 T.length c5]) (by simp [results, Try.results16, go_sem, x0, x1]) rfl ?_
    exact ⟨A5, c5, rfl, hl2, hb⟩
end Go.Proofs.Ytcpfolojfdnojaa
