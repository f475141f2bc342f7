/- FieldMaps' closures that call closures, walked. -/
import Derived.Test.YtbdicndkkenbgaaGreatMaps16A
namespace Go.Proofs.YtbdicndkkenbgaaGreat
open Go.RowKit

set_option linter.unusedSimpArgs false
set_option linter.unusedVariables false
attribute [local irreducible] Blk LRow World.alloc World.setCell World.cell? World.frozen? MapV
set_option maxHeartbeats 4000000 in
theorem maps4_any (ba bo bn : Nat) (n a : Int) (k : Nat) (w : World) (hn : 0 < n) (hn5 : n ≤ 5) (hk : k < 1000000) (h1 : Blk w ba 3 #[.int .i64 (k : Int)]) (h2 : Blk w bo 37 #[.func (.func 34) #[] #[.pointer (some ⟨bn, 0, none⟩)]]) (h3 : Blk w bn 3 #[.int .i64 n]) (hne : bo ≠ ba) (hne2 : bn ≠ ba) :
    Calls Tryz.prog 37 #[.int .i64 a, .pointer (some ⟨ba, 0, none⟩), .pointer (some ⟨bo, 0, none⟩)] w
      fun e w' => e = .returned (.int .i64 (Int.tmod a n)) ∧ Blk w' ba 3 #[.int .i64 ((k : Int) + 1)] ∧ Only (fun x => x = ba) w w' := by
  obtain ⟨W, hW⟩ : ∃ W, W = w.setCell ⟨ba, 0, none⟩ (.int .i64 ((k : Int) + 1)) := ⟨_, rfl⟩
  have g1 : Hid (Blk W ba 3 #[.int .i64 ((k : Int) + 1)]) := by subst hW; exact Lib.hid (by simpa using h1.set_ 0 (.int .i64 ((k : Int) + 1)))
  have g2 : Hid (Blk W bo 37 #[.func (.func 34) #[] #[.pointer (some ⟨bn, 0, none⟩)]]) := by subst hW; exact Lib.hid (h2.far (by exact hne) _)
  have g3 : Hid (Blk W bn 3 #[.int .i64 n]) := by subst hW; exact Lib.hid (h3.far (by exact hne2) _)
  have g4 : Hid (Only (fun x => x = ba) w W) := by subst hW; exact Lib.hid ((Only.refl (fun x => x = ba) w).setCell (p := ⟨ba, 0, none⟩) (.inl rfl) _)
  have c1 := h1.cell 0
  have f1 := h1.frozen 0
  have c2 := g2.out.cell 0
  simp at c1 c2
  have hw : IntKind.i64.wrap ((k : Int) + 1) = (k : Int) + 1 := IntWalk.i64_in _ (by omega)
  clear h1 h2 h3
  go_enter Tryz.func37, Tryz.ntmps37
  go_upto_region 2 with (fail)
  rw [← hW]
  clear hW c1 f1
  go_wp2_with fail
  refine (mapsOne_any bn n a W hn hn5 (g3.out.cell 0)).mono ?_
  rintro e w' ⟨rfl, hw⟩
  replace hw := hw.symm
  subst hw
  go_wp2_with fail
  go_ret
  exact ⟨rfl, g1.out, g4.out⟩
set_option maxHeartbeats 4000000 in
theorem maps5_any (bt bo bn bm b : Nat) (n a : Int) (w : World) (hn : 0 < n) (hn5 : n ≤ 5) (hb : b < 256) (h1 : Blk w bt 63 #[.func (.func 35) #[] #[.pointer (some ⟨bm, 0, none⟩)]]) (h2 : Blk w bo 37 #[.func (.func 34) #[] #[.pointer (some ⟨bn, 0, none⟩)]]) (h3 : Blk w bn 3 #[.int .i64 n]) (h4 : Blk w bm 5 #[.int .u8 (b : Int)]) :
    Calls Tryz.prog 39 #[.int .i64 a, .pointer (some ⟨bt, 0, none⟩), .pointer (some ⟨bo, 0, none⟩)] w (fun e w' => e = .returned (.string (strOf b (Int.tmod a n))) ∧ Below w.heap.size w w') := by
  have GTw := Lib.hid h1
  have GOw := Lib.hid h2
  have GNw := Lib.hid h3
  have GMw := Lib.hid h4
  have HBw := Lib.hid (Below.refl w.heap.size w)
  clear h1 h2 h3 h4
  go_enter Tryz.func39, Tryz.ntmps39
  go_upto_region 1 with (fail)
  refine wp_region_till (S := fun w' => w'.cell? ⟨bt, 0, none⟩ = some (.func (.func 35) #[] #[.pointer (some ⟨bm, 0, none⟩)]) ∧ w'.cell? ⟨bo, 0, none⟩ = some (.func (.func 34) #[] #[.pointer (some ⟨bn, 0, none⟩)]) ∧ w'.cell? ⟨bn, 0, none⟩ = some (.int .i64 n) ∧ w'.cell? ⟨bm, 0, none⟩ = some (.int .u8 (b : Int))) 5 (by kernel_rfl) ⟨(GTw.out.drew.cell 0), (GOw.out.drew.cell 0), (GNw.out.drew.cell 0), (GMw.out.drew.cell 0)⟩ (fun hHeld => ?_)
  refine Till.take (i := 0) (v := ?vt1) rfl (by kernel_rfl) (by kernel_rfl) (by kernel_rfl) (by kernel_rfl) (fun _ _ _ h => h) (Or.inl ⟨by rfl, ?ht1⟩) (by assumption) ?restt1
  case ht1 => (intro w hSw; (try dsimp only at hSw); go_simp; try with_reducible rfl)
  (try simp only [Act.put, List.setIfInBounds_toArray, List.set_cons_zero, List.set_cons_succ])
  refine Till.take (i := 1) (v := ?vt2) rfl (by kernel_rfl) (by kernel_rfl) (by kernel_rfl) (by kernel_rfl) (fun _ _ _ h => h) (Or.inl ⟨by rfl, ?ht2⟩) (by assumption) ?restt2
  case ht2 => (intro w hSw; (try dsimp only at hSw); go_simp; try with_reducible rfl)
  (try simp only [Act.put, List.setIfInBounds_toArray, List.set_cons_zero, List.set_cons_succ])
  refine Till.take (i := 2) (v := ?vt3) rfl (by kernel_rfl) (by kernel_rfl) (by kernel_rfl) (by kernel_rfl) (fun _ _ _ h => h) (Or.inl ⟨by rfl, ?ht3⟩) (by assumption) ?restt3
  case ht3 => (intro w hSw; (try dsimp only at hSw); go_simp; try with_reducible rfl)
  (try simp only [Act.put, List.setIfInBounds_toArray, List.set_cons_zero, List.set_cons_succ])
  refine Till.ready (rs := [3]) (by kernel_rfl) (by simp) ?_
  refine TillEach.cons rfl (fun K hK => ?_) ?_
  · go_simp
    go_wp2_with (go_at_call 34; refine (((mapsOne_any bn n a w.drew hn hn5 (GNw.out.drew.cell 0)).mono fun e w' h => is_int h)).mono ?_; rintro e v11 ⟨rfl, hb⟩)
    have GTv11 := Lib.hid (blk_call GTw.out.drew hb)
    have GOv11 := Lib.hid (blk_call GOw.out.drew hb)
    have GNv11 := Lib.hid (blk_call GNw.out.drew hb)
    have GMv11 := Lib.hid (blk_call GMw.out.drew hb)
    have HBv11 := Lib.hid (bw_call (bw_drew HBw.out) hb)
    clear hb
    refine hK.out _ _ ?_ (fun hHeld => ?_)
    · exact ⟨(GTv11.out.cell 0), (GOv11.out.cell 0), (GNv11.out.cell 0), (GMv11.out.cell 0)⟩
    clear hK K
    (try simp only [Act.put, List.setIfInBounds_toArray, List.set_cons_zero, List.set_cons_succ])
    refine Till.ready (rs := [4]) (by kernel_rfl) (by simp) ?_
    refine TillEach.cons rfl (fun K hK => ?_) ?_
    · go_simp
      go_wp2_with (go_at_call 35; refine (mapsTwo_any bm b (Int.tmod a n) v11 hb (GMv11.out.cell 0)).mono ?_; rintro e v12 ⟨rfl, hb⟩)
      have GTv12 := Lib.hid (blk_call GTv11.out hb)
      have GOv12 := Lib.hid (blk_call GOv11.out hb)
      have GNv12 := Lib.hid (blk_call GNv11.out hb)
      have GMv12 := Lib.hid (blk_call GMv11.out hb)
      have HBv12 := Lib.hid (bw_call HBv11.out hb)
      clear hb GTv11 GOv11 GNv11 GMv11 HBv11
      refine hK.out _ _ ?_ (fun hHeld => ?_)
      · exact ⟨(GTv12.out.cell 0), (GOv12.out.cell 0), (GNv12.out.cell 0), (GMv12.out.cell 0)⟩
      clear hK K
      (try simp only [Act.put, List.setIfInBounds_toArray, List.set_cons_zero, List.set_cons_succ])
      refine Till.ready (rs := [5]) (by kernel_rfl) (by simp) ?_
      refine TillEach.last rfl (fun K hK => ?_)
      · go_simp
        refine hK.out _ _ ?_
        clear hK K
        (try simp only [Act.put, List.setIfInBounds_toArray, List.set_cons_zero, List.set_cons_succ])
        refine Till.done (by kernel_rfl) ?_ _
        go_wp2_with fail
        go_ret
        exact ⟨rfl, HBv12.out⟩
    exact TillEach.nil
  exact TillEach.nil
end Go.Proofs.YtbdicndkkenbgaaGreat
