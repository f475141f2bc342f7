/- SoupApart, walked. No condition. -/
import Derived.Test.YtmmjonpkpeanpaaApartA
import Derived.Deep.CutBlock
namespace Go.Proofs.Ytmmjonpkpeanpaa
open Go.RowKit

set_option linter.unusedSimpArgs false
set_option linter.unusedVariables false
theorem zl_one (L : List Int) : ∀ u ∈ ZL L, u.oneCell' = true := by
  intro u hu
  obtain ⟨x, _, rfl⟩ := List.mem_map.1 hu
  rfl
theorem int_infoA : (Try.prog.info? 3).map (fun i => (i.zero, i.size, i.bytes)) = some (some (.int .i64 0), 1, 8) := by kernel_rfl
theorem lrow_lt {w : World} {B : Nat} {A : Option Addr} {c : Nat} {L : List Tri} (h : LRow w B A c L) {k : Nat} (hk : (Value.slice A L.length c).ownBlock = some k) : k < w.heap.size := (World.ownsRow.lt h k hk).2
/-- The rows of some soups that lie in a row. -/
def Wrs (R : Array Value) (w : World) (B : Nat) : Prop := ∀ (k : Nat) (A : Option Addr) (n c : Nat), R[k * 2 + 1]? = some (.slice A n c) → Wr 51 3 w B A n
section
variable {R : Array Value} {w w' : World} {B : Nat}
theorem Wrs.below (h : Wrs R w B) (hb : Below w.heap.size w w') : Wrs R w' B := fun k A n c e => (h k A n c e).below hb
theorem Wrs.alloc (h : Wrs R w B) (o : Obj) : Wrs R (w.alloc o) B := fun k A n c e => (h k A n c e).alloc o
theorem Wrs.set (h : Wrs R w B) (b i : Nat) (u : Value) : Wrs R (w.setCell ⟨b, i, none⟩ u) B := fun k A n c e => (h k A n c e).set b i u
theorem five_at {n0 n1 n2 n3 n4 : Int} {A0 A1 A2 A3 A4 : Option Addr} {l0 l1 l2 l3 l4 c0 c1 c2 c3 c4 : Nat} (hR : R = #[.int .i64 n0, .slice A0 l0 c0, .int .i64 n1, .slice A1 l1 c1, .int .i64 n2, .slice A2 l2 c2, .int .i64 n3, .slice A3 l3 c3, .int .i64 n4, .slice A4 l4 c4])
    (h0 : l0 ≤ 40) (h1 : l1 ≤ 40) (h2 : l2 ≤ 40) (h3 : l3 ≤ 40) (h4 : l4 ≤ 40) {k : Nat} (hk : k < 5) : ∃ n A l c, R[k * 2]? = some (.int .i64 n) ∧ R[k * 2 + 1]? = some (.slice A l c) ∧ l ≤ 40 := by
  subst hR
  rcases (by omega : k = 0 ∨ k = 1 ∨ k = 2 ∨ k = 3 ∨ k = 4) with rfl | rfl | rfl | rfl | rfl
  · exact ⟨n0, A0, l0, c0, rfl, rfl, h0⟩
  · exact ⟨n1, A1, l1, c1, rfl, rfl, h1⟩
  · exact ⟨n2, A2, l2, c2, rfl, rfl, h2⟩
  · exact ⟨n3, A3, l3, c3, rfl, rfl, h3⟩
  · exact ⟨n4, A4, l4, c4, rfl, rfl, h4⟩
theorem five_wr {n0 n1 n2 n3 n4 : Int} {A0 A1 A2 A3 A4 : Option Addr} {l0 l1 l2 l3 l4 c0 c1 c2 c3 c4 : Nat} (hR : R = #[.int .i64 n0, .slice A0 l0 c0, .int .i64 n1, .slice A1 l1 c1, .int .i64 n2, .slice A2 l2 c2, .int .i64 n3, .slice A3 l3 c3, .int .i64 n4, .slice A4 l4 c4])
    (h0 : Wr 51 3 w B A0 l0) (h1 : Wr 51 3 w B A1 l1) (h2 : Wr 51 3 w B A2 l2) (h3 : Wr 51 3 w B A3 l3) (h4 : Wr 51 3 w B A4 l4) : Wrs R w B := by
  subst hR
  intro k A n c e
  by_cases hk : k < 5
  · rcases (by omega : k = 0 ∨ k = 1 ∨ k = 2 ∨ k = 3 ∨ k = 4) with rfl | rfl | rfl | rfl | rfl
    · injection e with e
      injection e with e1 e2 e3
      subst e1 e2
      exact h0
    · injection e with e
      injection e with e1 e2 e3
      subst e1 e2
      exact h1
    · injection e with e
      injection e with e1 e2 e3
      subst e1 e2
      exact h2
    · injection e with e
      injection e with e1 e2 e3
      subst e1 e2
      exact h3
    · injection e with e
      injection e with e1 e2 e3
      subst e1 e2
      exact h4
  · rw [Array.getElem?_eq_none (by simp; omega)] at e
    cases e
end
attribute [local irreducible] Blk LRow IRow ERow World.alloc World.setCell World.cell? World.frozen?
set_option maxRecDepth 100000 in
set_option maxHeartbeats 8000000 in
theorem apartLaw_any (N : Int) (A : Option Addr) (n c : Nat) (T : List Tri) (Al : Option Addr) (m cl : Nat) (l : List Int) (w : World) (ht : TrisAt w w.heap.size A n T) (hl : Reads w w.heap.size 1 Al m (ZL l)) :
    Calls Try.prog 10 #[.agg #[.int .i64 N, .slice A n c], .slice Al m cl] w (BoolPost w true) := by
  obtain rfl : n = T.length := ht.len.symm
  obtain rfl : m = l.length := by have := hl.1; simp [ZL] at this; exact this.symm
  have HT := Lib.hid ht
  have HL := Lib.hid hl
  clear ht hl
  obtain ⟨i0, hi0, hz0, hz1, hz2⟩ := info_parts ltri_info
  obtain ⟨i1, hii, hy0, hy1, hy2⟩ := info_parts int_infoA
  go_enter Try.func10, Try.ntmps10
  go_wp2_with fail
  obtain ⟨V, hV⟩ : ∃ V, V = w.alloc (.cells #[.int .i64 N, .slice A T.length c] 24) := ⟨_, rfl⟩
  have GA0 : Hid (Blk V w.heap.size 24 #[.int .i64 N, .slice A T.length c]) := by subst hV; exact Lib.hid (Blk.new _ _ _)
  have HB : Hid (Below w.heap.size w V) := by subst hV; exact Lib.hid (bw_alloc (Below.refl _ _) _)
  rw [← hV]
  clear hV
  obtain ⟨ga, hga⟩ : ∃ g, g = w.heap.size := ⟨_, rfl⟩
  rw [← hga] at GA0
  simp only [← hga]
  clear hga
  refine (awake_any _).mono ?_
  rintro e w1 ⟨rfl, hb⟩
  have GA1 := Lib.hid (blk_call GA0.out hb)
  have HB1 := Lib.hid (bw_call HB.out hb)
  clear hb GA0 HB
  obtain ⟨s0, s1, _, _, _⟩ := soup_facts GA1.out
  go_wp2_with fail
  refine (great_any _ _ _ _ _).mono ?_
  rintro e w2 ⟨rfl, hb⟩
  have GA2 := Lib.hid (blk_call GA1.out hb)
  have HB2 := Lib.hid (bw_call HB1.out hb)
  clear hb GA1 HB1 s0 s1
  obtain ⟨s0, s1, _, _, _⟩ := soup_facts GA2.out
  by_cases hg : 40 < T.length
  · rw [decide_eq_true hg]
    go_wp2_with fail
    go_ret
    exact ⟨rfl, HB2.out⟩
  rw [decide_eq_false hg]
  by_cases hm : 40 < l.length
  · have hm' : (40 : Int) < (l.length : Int) := by omega
    go_wp2_with fail
    go_ret
    exact ⟨rfl, HB2.out⟩
  have hm' : ¬ (40 : Int) < (l.length : Int) := by omega
  by_cases hN : 40 < N
  · go_wp2_with fail
    go_ret
    exact ⟨rfl, HB2.out⟩
  go_upto_region 5 with (fail)
  have hn40 : T.length ≤ 40 := by omega
  have hl40 : l.length ≤ 40 := by omega
  have hN40 : N ≤ 40 := by omega
  clear s0 s1 hg hm hm' hN
  go_cut [5] (fun pv wx => ∃ gw Aw cw, pv = .pointer (some ⟨gw, 0, none⟩) ∧ Hid (Blk wx gw 24 #[.int .i64 N, .slice Aw T.length cw]) ∧ Hid (LRow wx w.heap.size Aw cw T) ∧ Hid (Blk wx ga 24 #[.int .i64 N, .slice A T.length c]) ∧ Hid (Below w.heap.size w wx))
  case first =>
    refine wp_region_held_drew (S := fun w' => w'.cell? ⟨ga, 0, none⟩ = some (.int .i64 N) ∧ w'.cell? ⟨ga, 1, none⟩ = some (.slice A T.length c)) (by kernel_rfl) ⟨(soup_facts GA2.out.drew).1, (soup_facts GA2.out.drew).2.1⟩ (fun hHeld => ?_)
    refine held_take (i := 0) (v := ?v1) rfl (by kernel_rfl) (by kernel_rfl) (by kernel_rfl) (fun _ _ _ h => h) (Or.inl ⟨by rfl, ?hy1⟩) (by assumption) ?rest1
    case hy1 => (intro w hSw; (try dsimp only at hSw); go_simp; try with_reducible rfl)
    (try simp only [Act.put, List.setIfInBounds_toArray, List.set_cons_zero, List.set_cons_succ])
    refine held_take (i := 1) (v := ?v2) rfl (by kernel_rfl) (by kernel_rfl) (by kernel_rfl) (fun _ _ _ h => h) (Or.inl ⟨by rfl, ?hy2⟩) (by assumption) ?rest2
    case hy2 => (intro w hSw; (try dsimp only at hSw); go_simp; try with_reducible rfl)
    (try simp only [Act.put, List.setIfInBounds_toArray, List.set_cons_zero, List.set_cons_succ])
    refine held_take (i := 3) (v := ?v3) rfl (by kernel_rfl) (by kernel_rfl) (by kernel_rfl) (fun _ _ _ h => h) (Or.inl ⟨by rfl, ?hy3⟩) (by assumption) ?rest3
    case hy3 => (intro w hSw; (try dsimp only at hSw); go_simp; try with_reducible rfl)
    (try simp only [Act.put, List.setIfInBounds_toArray, List.set_cons_zero, List.set_cons_succ])
    refine held_take (i := 4) (v := ?v4) rfl (by kernel_rfl) (by kernel_rfl) (by kernel_rfl) (fun _ _ _ h => h) (Or.inl ⟨by rfl, ?hy4⟩) (by assumption) ?rest4
    case hy4 => (intro w hSw; (try dsimp only at hSw); go_simp; try with_reducible rfl)
    (try simp only [Act.put, List.setIfInBounds_toArray, List.set_cons_zero, List.set_cons_succ])
    refine wpAnyH_ready (rs := [2, 7]) (by kernel_rfl) (by simp) ?_
    refine held_cons rfl (fun K hK => ?_) ?_
    · go_simp
      refine hK.out _ _ ?_ (fun hHeld => ?_)
      · exact ⟨(soup_facts (GA2.out.alloc _).drew).1, (soup_facts (GA2.out.alloc _).drew).2.1⟩
      clear hK K
      (try simp only [Act.put, List.setIfInBounds_toArray, List.set_cons_zero, List.set_cons_succ])
      refine wpAnyH_ready (rs := [5, 7]) (by kernel_rfl) (by simp) ?_
      refine held_cons rfl (fun K hK => ?_) ?_
      · refine step_append_sl _ (by rfl) (.tmp 39) (.tmp 41) _ (by rfl) w.heap.size 51 i0 _ 3 24 Try.underlying22 hi0 hz0 hz1 hz2 rfl (by omega) (.slice (some ⟨w2.heap.size, 0, none⟩) 0 0) 0 [] (by rfl) (own0 ((Blk.new w2 51 #[]).drew) (by have := HB2.out.size; omega)) w.heap.size A T.length c (T.flatMap Tri.cells) (by rfl) (HT.out.below (bw_drew (bw_alloc HB2.out _))).row (tris_one T) (by simp only [maxLen]; omega) (by omega) (bw_size (bw_drew (bw_alloc HB2.out _))) ?_
        intro A5 c5 w5 hown5 hg5 hat5
        simp only [Nat.zero_add, List.nil_append] at hown5 ⊢
        have GA5 := ((GA2.out.alloc _).drew).grown hg5 (fun e => by simp [Value.ownBlock] at e; have := GA2.out.lt; omega)
        have HB5 : Below w.heap.size w w5 := bw_grow (bw_drew (bw_alloc HB2.out _)) hg5 (fun k hk => by simp [Value.ownBlock] at hk; have := HB2.out.size; omega)
        have R5 : LRow w5 w.heap.size A5 c5 T := lrow_of hown5 rfl rfl
        refine hK.out _ _ ?_ (fun hHeld => ?_)
        · exact ⟨(soup_facts GA5).1, (soup_facts GA5).2.1⟩
        clear hK K
        (try simp only [Act.put, List.setIfInBounds_toArray, List.set_cons_zero, List.set_cons_succ])
        refine held_take (i := 6) (v := ?v5) rfl (by kernel_rfl) (by kernel_rfl) (by kernel_rfl) (fun _ _ _ h => h) (Or.inl ⟨by rfl, ?hy5⟩) (by assumption) ?rest5
        case hy5 => (intro w hSw; (try dsimp only at hSw); go_simp; try with_reducible rfl)
        (try simp only [Act.put, List.setIfInBounds_toArray, List.set_cons_zero, List.set_cons_succ])
        refine wpAnyH_ready (rs := [7]) (by kernel_rfl) (by simp) ?_
        refine held_cons rfl (fun K hK => ?_) ?_
        · go_simp
          refine hK.out _ _ ?_ (fun hHeld => ?_)
          · exact ⟨(soup_facts (GA5.alloc _)).1, (soup_facts (GA5.alloc _)).2.1⟩
          clear hK K
          (try simp only [Act.put, List.setIfInBounds_toArray, List.set_cons_zero, List.set_cons_succ])
          refine wpAnyH_ready (rs := [8]) (by kernel_rfl) (by simp) ?_
          refine held_cons rfl (fun K hK => ?_) ?_
          · go_simp
            refine hK.out _ _ ?_ (fun hHeld => ?_)
            · exact ⟨(soup_facts (GA5.alloc _)).1, (soup_facts (GA5.alloc _)).2.1⟩
            clear hK K
            (try simp only [Act.put, List.setIfInBounds_toArray, List.set_cons_zero, List.set_cons_succ])
            refine wpAnyH_done (by kernel_rfl) ?_ _
            go_wp2_with fail
            go_meet
            exact ⟨w5.heap.size, A5, c5, rfl, Lib.hid (Blk.new _ _ _), Lib.hid (R5.alloc _), Lib.hid (GA5.alloc _), Lib.hid (bw_alloc HB5 _)⟩
          exact AllReadyH.nil
        exact AllReadyH.nil
      refine held_cons rfl (fun K hK => ?_) ?_
      · go_simp
        refine hK.out _ _ ?_ (fun hHeld => ?_)
        · exact ⟨(soup_facts ((GA2.out.alloc _).alloc _).drew).1, (soup_facts ((GA2.out.alloc _).alloc _).drew).2.1⟩
        clear hK K
        (try simp only [Act.put, List.setIfInBounds_toArray, List.set_cons_zero, List.set_cons_succ])
        refine wpAnyH_ready (rs := [5]) (by kernel_rfl) (by simp) ?_
        refine held_cons rfl (fun K hK => ?_) ?_
        · refine step_append_sl _ (by rfl) (.tmp 39) (.tmp 41) _ (by rfl) w.heap.size 51 i0 _ 3 24 Try.underlying22 hi0 hz0 hz1 hz2 rfl (by omega) (.slice (some ⟨w2.heap.size, 0, none⟩) 0 0) 0 [] (by rfl) (own0 (((Blk.new w2 51 #[]).alloc _).drew) (by have := HB2.out.size; omega)) w.heap.size A T.length c (T.flatMap Tri.cells) (by rfl) (HT.out.below (bw_drew (bw_alloc (bw_alloc HB2.out _) _))).row (tris_one T) (by simp only [maxLen]; omega) (by omega) (bw_size (bw_drew (bw_alloc (bw_alloc HB2.out _) _))) ?_
          intro A5 c5 w5 hown5 hg5 hat5
          simp only [Nat.zero_add, List.nil_append] at hown5 ⊢
          have GA5 := (((GA2.out.alloc _).alloc _).drew).grown hg5 (fun e => by simp [Value.ownBlock] at e; have := GA2.out.lt; omega)
          have HB5 : Below w.heap.size w w5 := bw_grow (bw_drew (bw_alloc (bw_alloc HB2.out _) _)) hg5 (fun k hk => by simp [Value.ownBlock] at hk; have := HB2.out.size; omega)
          have R5 : LRow w5 w.heap.size A5 c5 T := lrow_of hown5 rfl rfl
          have GW5 : Blk w5 (w2.heap.size + 1) 24 #[.int .i64 0, .slice none 0 0] := ((blk_new1 w2 _ _ _).drew).grown hg5 (fun e => by simp [Value.ownBlock] at e)
          refine hK.out _ _ ?_ (fun hHeld => ?_)
          · exact ⟨(soup_facts GA5).1, (soup_facts GA5).2.1⟩
          clear hK K
          (try simp only [Act.put, List.setIfInBounds_toArray, List.set_cons_zero, List.set_cons_succ])
          refine held_take (i := 6) (v := ?v6) rfl (by kernel_rfl) (by kernel_rfl) (by kernel_rfl) (fun _ _ _ h => h) (Or.inl ⟨by rfl, ?hy6⟩) (by assumption) ?rest6
          case hy6 => (intro w hSw; (try dsimp only at hSw); go_simp; try with_reducible rfl)
          (try simp only [Act.put, List.setIfInBounds_toArray, List.set_cons_zero, List.set_cons_succ])
          obtain ⟨z0, z1, z2, z3, _⟩ := soup_facts GW5
          refine wpAnyH_ready (rs := [8]) (by kernel_rfl) (by simp) ?_
          refine held_cons rfl (fun K hK => ?_) ?_
          · go_simp
            refine hK.out _ _ ?_ (fun hHeld => ?_)
            · exact ⟨(soup_facts ((GA5.far (show ga ≠ w2.heap.size + 1 by have := GA2.out.lt; omega) _).far (show ga ≠ w2.heap.size + 1 by have := GA2.out.lt; omega) _)).1, (soup_facts ((GA5.far (show ga ≠ w2.heap.size + 1 by have := GA2.out.lt; omega) _).far (show ga ≠ w2.heap.size + 1 by have := GA2.out.lt; omega) _)).2.1⟩
            clear hK K
            (try simp only [Act.put, List.setIfInBounds_toArray, List.set_cons_zero, List.set_cons_succ])
            refine wpAnyH_done (by kernel_rfl) ?_ _
            go_wp2_with fail
            go_meet
            exact ⟨w2.heap.size + 1, A5, c5, rfl, Lib.hid (soup_set0 GW5 _ _), Lib.hid (R5.soup_set0 GW5 _ _), Lib.hid ((GA5.far (show ga ≠ w2.heap.size + 1 by have := GA2.out.lt; omega) _).far (show ga ≠ w2.heap.size + 1 by have := GA2.out.lt; omega) _), Lib.hid (bw_set (bw_set HB5 (show w.heap.size ≤ w2.heap.size + 1 by have := HB2.out.size; omega) _) (show w.heap.size ≤ w2.heap.size + 1 by have := HB2.out.size; omega) _)⟩
          exact AllReadyH.nil
        exact AllReadyH.nil
      exact AllReadyH.nil
    refine held_cons rfl (fun K hK => ?_) ?_
    · go_simp
      refine hK.out _ _ ?_ (fun hHeld => ?_)
      · exact ⟨(soup_facts (GA2.out.alloc _).drew).1, (soup_facts (GA2.out.alloc _).drew).2.1⟩
      clear hK K
      (try simp only [Act.put, List.setIfInBounds_toArray, List.set_cons_zero, List.set_cons_succ])
      refine wpAnyH_ready (rs := [2]) (by kernel_rfl) (by simp) ?_
      refine held_cons rfl (fun K hK => ?_) ?_
      · go_simp
        refine hK.out _ _ ?_ (fun hHeld => ?_)
        · exact ⟨(soup_facts ((GA2.out.alloc _).alloc _).drew).1, (soup_facts ((GA2.out.alloc _).alloc _).drew).2.1⟩
        clear hK K
        (try simp only [Act.put, List.setIfInBounds_toArray, List.set_cons_zero, List.set_cons_succ])
        refine wpAnyH_ready (rs := [5]) (by kernel_rfl) (by simp) ?_
        refine held_cons rfl (fun K hK => ?_) ?_
        · refine step_append_sl _ (by rfl) (.tmp 39) (.tmp 41) _ (by rfl) w.heap.size 51 i0 _ 3 24 Try.underlying22 hi0 hz0 hz1 hz2 rfl (by omega) (.slice (some ⟨w2.heap.size + 1, 0, none⟩) 0 0) 0 [] (by rfl) (own0 ((blk_new1 w2 _ 51 #[]).drew) (by have := HB2.out.size; omega)) w.heap.size A T.length c (T.flatMap Tri.cells) (by rfl) (HT.out.below (bw_drew (bw_alloc (bw_alloc HB2.out _) _))).row (tris_one T) (by simp only [maxLen]; omega) (by omega) (bw_size (bw_drew (bw_alloc (bw_alloc HB2.out _) _))) ?_
          intro A5 c5 w5 hown5 hg5 hat5
          simp only [Nat.zero_add, List.nil_append] at hown5 ⊢
          have GA5 := (((GA2.out.alloc _).alloc _).drew).grown hg5 (fun e => by simp [Value.ownBlock] at e; have := GA2.out.lt; omega)
          have HB5 : Below w.heap.size w w5 := bw_grow (bw_drew (bw_alloc (bw_alloc HB2.out _) _)) hg5 (fun k hk => by simp [Value.ownBlock] at hk; have := HB2.out.size; omega)
          have R5 : LRow w5 w.heap.size A5 c5 T := lrow_of hown5 rfl rfl
          have GW5 : Blk w5 w2.heap.size 24 #[.int .i64 0, .slice none 0 0] := (((Blk.new w2 _ _).alloc _).drew).grown hg5 (fun e => by simp [Value.ownBlock] at e)
          refine hK.out _ _ ?_ (fun hHeld => ?_)
          · exact ⟨(soup_facts GA5).1, (soup_facts GA5).2.1⟩
          clear hK K
          (try simp only [Act.put, List.setIfInBounds_toArray, List.set_cons_zero, List.set_cons_succ])
          refine held_take (i := 6) (v := ?v7) rfl (by kernel_rfl) (by kernel_rfl) (by kernel_rfl) (fun _ _ _ h => h) (Or.inl ⟨by rfl, ?hy7⟩) (by assumption) ?rest7
          case hy7 => (intro w hSw; (try dsimp only at hSw); go_simp; try with_reducible rfl)
          (try simp only [Act.put, List.setIfInBounds_toArray, List.set_cons_zero, List.set_cons_succ])
          obtain ⟨z0, z1, z2, z3, _⟩ := soup_facts GW5
          refine wpAnyH_ready (rs := [8]) (by kernel_rfl) (by simp) ?_
          refine held_cons rfl (fun K hK => ?_) ?_
          · go_simp
            refine hK.out _ _ ?_ (fun hHeld => ?_)
            · exact ⟨(soup_facts ((GA5.far (Nat.ne_of_lt GA2.out.lt) _).far (Nat.ne_of_lt GA2.out.lt) _)).1, (soup_facts ((GA5.far (Nat.ne_of_lt GA2.out.lt) _).far (Nat.ne_of_lt GA2.out.lt) _)).2.1⟩
            clear hK K
            (try simp only [Act.put, List.setIfInBounds_toArray, List.set_cons_zero, List.set_cons_succ])
            refine wpAnyH_done (by kernel_rfl) ?_ _
            go_wp2_with fail
            go_meet
            exact ⟨w2.heap.size, A5, c5, rfl, Lib.hid (soup_set0 GW5 _ _), Lib.hid (R5.soup_set0 GW5 _ _), Lib.hid ((GA5.far (Nat.ne_of_lt GA2.out.lt) _).far (Nat.ne_of_lt GA2.out.lt) _), Lib.hid (bw_set (bw_set HB5 HB2.out.size _) HB2.out.size _)⟩
          exact AllReadyH.nil
        exact AllReadyH.nil
      exact AllReadyH.nil
    exact AllReadyH.nil
  case rest =>
    obtain ⟨gw, Aw, cw, rfl, GW3, RW3, GA3, HB3⟩ := hcut
    obtain ⟨w3, hw3⟩ : ∃ w3 : World, w3 = wc := ⟨_, rfl⟩
    rw [← hw3] at GW3 RW3 GA3 HB3 ⊢
    clear hw3 GA2 HB2
    obtain ⟨s0, s1, _, _, _⟩ := soup_facts GA3.out
    go_upto_region 7 with (at_builtin; go_must (refine wpList_append_sl _ rfl (.tmp 44) (.tmp 45) _ rfl w.heap.size 3 i1 _ 1 8 Try.underlying25 hii hy0 hy1 hy2 rfl (by omega) (.slice (some ⟨w3.heap.size, 0, none⟩) 0 0) 0 [] rfl (own_at (Blk.new _ _ _) HB3.out.size) w.heap.size Al l.length cl (ZL l) rfl (HL.out.below (bw_alloc HB3.out _)) (zl_one l) (by simp only [maxLen]; omega) (by omega) (bw_size (bw_alloc HB3.out (.cells #[] 3))) ?_); intro A5 c5 w4 hown5 hg5 hat5)
    simp only [Nat.zero_add, List.nil_append] at hown5 ⊢
    have hne3 : ∀ k, k < w3.heap.size → some k ≠ (Value.slice (some ⟨w3.heap.size, 0, none⟩) 0 0).ownBlock := fun k hk e => by
      simp [Value.ownBlock] at e
      omega
    have GA4 : Hid (Blk w4 ga 24 #[.int .i64 N, .slice A T.length c]) := Lib.hid ((GA3.out.alloc _).grown hg5 (hne3 _ GA3.out.lt))
    have GW4 : Hid (Blk w4 gw 24 #[.int .i64 N, .slice Aw T.length cw]) := Lib.hid ((GW3.out.alloc _).grown hg5 (hne3 _ GW3.out.lt))
    have RW4 : Hid (LRow w4 0 Aw cw T) := Lib.hid (((RW3.out.alloc _).grown hg5 (fun k hk => hne3 k (lrow_lt RW3.out hk))).base (Nat.zero_le _))
    have IN4 : Hid (IRow w4 0 A5 c5 l) := Lib.hid (IRow.base (irow_of hown5) (Nat.zero_le _))
    have HBw4 : Hid (Below w.heap.size w w4) := Lib.hid (bw_grow (bw_alloc HB3.out _) hg5 (fun k hk => by simp [Value.ownBlock] at hk; have := HB3.out.size; omega))
    have HCw4 : Hid (Below w4.heap.size w4 w4) := Lib.hid (Below.refl _ _)
    have HB4 := HBw4
    clear hown5 hg5 hat5 hne3 GA3 GW3 RW3 HB3 s0 s1
    obtain ⟨s0, s1, _, _, _⟩ := soup_facts (blk_call GA4.out HCw4.out)
    go_wp2_with fail
    refine (rename_any N A T.length c T Al l.length cl l w4 (by omega) (by omega) ((HT.out.below HBw4.out).more HBw4.out.size) ((HL.out.below HBw4.out).more HBw4.out.size)).mono ?_
    rintro e w5 ⟨Aa, ca, rfl, hr, hb⟩
    have HBw5 : Hid (Below w.heap.size w w5) := Lib.hid (bw_call HBw4.out hb)
    have HCw5 : Hid (Below w4.heap.size w4 w5) := Lib.hid (bw_call HCw4.out hb)
    have Waw5 : Hid (Wr 51 3 w5 w4.heap.size Aa ((renL N T l).2.1).length) := Lib.hid ((wr_tri hr).base HCw4.out.size)
    clear HBw4 HCw4 s0 s1 hb hr
    have hlea := renL_le N T l
    generalize (renL N T l) = ra at *
    obtain ⟨na, al, ea⟩ := ra
    simp only at hlea Waw5 ⊢
    obtain ⟨w6, hw6⟩ : ∃ w6, w6 = w5.alloc (.cells #[.int .i64 na, .slice Aa al.length ca] 24) := ⟨_, rfl⟩
    have HBw6 : Hid (Below w.heap.size w w6) := by subst hw6; exact Lib.hid (bw_alloc HBw5.out _)
    have HCw6 : Hid (Below w4.heap.size w4 w6) := by subst hw6; exact Lib.hid (bw_alloc HCw5.out _)
    have Waw6 : Hid (Wr 51 3 w6 w4.heap.size Aa al.length) := by subst hw6; exact Lib.hid (Waw5.out.alloc _)
    have Gaw6 : Hid (Blk w6 w5.heap.size 24 #[.int .i64 na, .slice Aa al.length ca]) := by subst hw6; exact Lib.hid (Blk.new _ _ _)
    go_upto_region 8 with (fail)
    rw [← hw6]
    generalize w5.heap.size = g1 at *
    clear HBw5 HCw5 Waw5 hw6
    obtain ⟨s0, s1, _, _, _⟩ := soup_facts (blk_call GA4.out HCw6.out)
    go_wp2_with fail
    refine (pick_any N A T.length c T Al l.length cl l w6 (by omega) (by omega) ((HT.out.below HBw6.out).more HBw6.out.size) ((HL.out.below HBw6.out).more HBw6.out.size)).mono ?_
    rintro e w7 ⟨Ab, cb, rfl, hr, hb⟩
    have HBw7 : Hid (Below w.heap.size w w7) := Lib.hid (bw_call HBw6.out hb)
    have HCw7 : Hid (Below w4.heap.size w4 w7) := Lib.hid (bw_call HCw6.out hb)
    have Waw7 : Hid (Wr 51 3 w7 w4.heap.size Aa al.length) := Lib.hid (Waw6.out.below hb)
    have Gaw7 : Hid (Blk w7 g1 24 #[.int .i64 na, .slice Aa al.length ca]) := Lib.hid (blk_call Gaw6.out hb)
    have Wbw7 : Hid (Wr 51 3 w7 w4.heap.size Ab ((pickL N T l).2.1).length) := Lib.hid ((wr_tri hr).base HCw6.out.size)
    clear HBw6 HCw6 Waw6 Gaw6 s0 s1 hb hr
    have hleb := pickL_le N T l
    generalize (pickL N T l) = rb at *
    obtain ⟨nb, bl, eb⟩ := rb
    simp only at hleb Wbw7 ⊢
    obtain ⟨w8, hw8⟩ : ∃ w8, w8 = w7.alloc (.cells #[.int .i64 nb, .slice Ab bl.length cb] 24) := ⟨_, rfl⟩
    have HBw8 : Hid (Below w.heap.size w w8) := by subst hw8; exact Lib.hid (bw_alloc HBw7.out _)
    have HCw8 : Hid (Below w4.heap.size w4 w8) := by subst hw8; exact Lib.hid (bw_alloc HCw7.out _)
    have Waw8 : Hid (Wr 51 3 w8 w4.heap.size Aa al.length) := by subst hw8; exact Lib.hid (Waw7.out.alloc _)
    have Gaw8 : Hid (Blk w8 g1 24 #[.int .i64 na, .slice Aa al.length ca]) := by subst hw8; exact Lib.hid (Gaw7.out.alloc _)
    have Wbw8 : Hid (Wr 51 3 w8 w4.heap.size Ab bl.length) := by subst hw8; exact Lib.hid (Wbw7.out.alloc _)
    have Gbw8 : Hid (Blk w8 w7.heap.size 24 #[.int .i64 nb, .slice Ab bl.length cb]) := by subst hw8; exact Lib.hid (Blk.new _ _ _)
    go_upto_region 9 with (fail)
    rw [← hw8]
    generalize w7.heap.size = g2 at *
    clear HBw7 HCw7 Waw7 Gaw7 Wbw7 hw8
    obtain ⟨s0, s1, _, _, _⟩ := soup_facts (blk_call GA4.out HCw8.out)
    go_wp2_with fail
    refine (part_any N A T.length c T Al l.length cl l w8 (by omega) (by omega) ((HT.out.below HBw8.out).more HBw8.out.size) ((HL.out.below HBw8.out).more HBw8.out.size)).mono ?_
    rintro e w9 ⟨Ap, cp, Ao, co, rfl, hr, hi, hb⟩
    have HBw9 : Hid (Below w.heap.size w w9) := Lib.hid (bw_call HBw8.out hb)
    have HCw9 : Hid (Below w4.heap.size w4 w9) := Lib.hid (bw_call HCw8.out hb)
    have Waw9 : Hid (Wr 51 3 w9 w4.heap.size Aa al.length) := Lib.hid (Waw8.out.below hb)
    have Gaw9 : Hid (Blk w9 g1 24 #[.int .i64 na, .slice Aa al.length ca]) := Lib.hid (blk_call Gaw8.out hb)
    have Wbw9 : Hid (Wr 51 3 w9 w4.heap.size Ab bl.length) := Lib.hid (Wbw8.out.below hb)
    have Gbw9 : Hid (Blk w9 g2 24 #[.int .i64 nb, .slice Ab bl.length cb]) := Lib.hid (blk_call Gbw8.out hb)
    have Wpw9 : Hid (Wr 51 3 w9 w4.heap.size Ap (partL N T l).1.2.length) := Lib.hid ((wr_tri hr).base HCw8.out.size)
    have Wow9 : Hid (Wr 3 1 w9 w4.heap.size Ao (partL N T l).2.1.length) := Lib.hid ((wr_int hi).base HCw8.out.size)
    clear HBw8 HCw8 Waw8 Gaw8 Wbw8 Gbw8 s0 s1 hb hr hi
    have hlep := partL_le N T l
    generalize (partL N T l) = rp at *
    obtain ⟨⟨np, pl⟩, ol, ep⟩ := rp
    simp only at hlep Wpw9 Wow9 ⊢
    obtain ⟨w10, hw10⟩ : ∃ w10, w10 = w9.alloc (.cells #[.int .i64 np, .slice Ap pl.length cp] 24) := ⟨_, rfl⟩
    have HBw10 : Hid (Below w.heap.size w w10) := by subst hw10; exact Lib.hid (bw_alloc HBw9.out _)
    have HCw10 : Hid (Below w4.heap.size w4 w10) := by subst hw10; exact Lib.hid (bw_alloc HCw9.out _)
    have Waw10 : Hid (Wr 51 3 w10 w4.heap.size Aa al.length) := by subst hw10; exact Lib.hid (Waw9.out.alloc _)
    have Gaw10 : Hid (Blk w10 g1 24 #[.int .i64 na, .slice Aa al.length ca]) := by subst hw10; exact Lib.hid (Gaw9.out.alloc _)
    have Wbw10 : Hid (Wr 51 3 w10 w4.heap.size Ab bl.length) := by subst hw10; exact Lib.hid (Wbw9.out.alloc _)
    have Gbw10 : Hid (Blk w10 g2 24 #[.int .i64 nb, .slice Ab bl.length cb]) := by subst hw10; exact Lib.hid (Gbw9.out.alloc _)
    have Wpw10 : Hid (Wr 51 3 w10 w4.heap.size Ap pl.length) := by subst hw10; exact Lib.hid (Wpw9.out.alloc _)
    have Wow10 : Hid (Wr 3 1 w10 w4.heap.size Ao ol.length) := by subst hw10; exact Lib.hid (Wow9.out.alloc _)
    have Gpw10 : Hid (Blk w10 w9.heap.size 24 #[.int .i64 np, .slice Ap pl.length cp]) := by subst hw10; exact Lib.hid (Blk.new _ _ _)
    go_upto_region 10 with (fail)
    rw [← hw10]
    generalize w9.heap.size = g3 at *
    clear HBw9 HCw9 Waw9 Gaw9 Wbw9 Gbw9 Wpw9 Wow9 hw10
    have hgj : w10.heap.size = w10.heap.size := rfl
    obtain ⟨s0, s1, _, _, _⟩ := soup_facts (blk_call GA4.out HCw10.out)
    obtain ⟨w11, hw11⟩ : ∃ w11, w11 = w10.alloc (.cells #[.int .i64 N, .slice A T.length c] 24) := ⟨_, rfl⟩
    have HBw11 : Hid (Below w.heap.size w w11) := by subst hw11; exact Lib.hid (bw_alloc HBw10.out _)
    have HCw11 : Hid (Below w4.heap.size w4 w11) := by subst hw11; exact Lib.hid (bw_alloc HCw10.out _)
    have Waw11 : Hid (Wr 51 3 w11 w4.heap.size Aa al.length) := by subst hw11; exact Lib.hid (Waw10.out.alloc _)
    have Gaw11 : Hid (Blk w11 g1 24 #[.int .i64 na, .slice Aa al.length ca]) := by subst hw11; exact Lib.hid (Gaw10.out.alloc _)
    have Wbw11 : Hid (Wr 51 3 w11 w4.heap.size Ab bl.length) := by subst hw11; exact Lib.hid (Wbw10.out.alloc _)
    have Gbw11 : Hid (Blk w11 g2 24 #[.int .i64 nb, .slice Ab bl.length cb]) := by subst hw11; exact Lib.hid (Gbw10.out.alloc _)
    have Wpw11 : Hid (Wr 51 3 w11 w4.heap.size Ap pl.length) := by subst hw11; exact Lib.hid (Wpw10.out.alloc _)
    have Wow11 : Hid (Wr 3 1 w11 w4.heap.size Ao ol.length) := by subst hw11; exact Lib.hid (Wow10.out.alloc _)
    have Gpw11 : Hid (Blk w11 g3 24 #[.int .i64 np, .slice Ap pl.length cp]) := by subst hw11; exact Lib.hid (Gpw10.out.alloc _)
    have GRj : Hid (Blk w11 w10.heap.size 24 #[.int .i64 N, .slice A T.length c]) := by subst hw11; exact Lib.hid (Blk.new _ _ _)
    have HJ : Hid (Calls Try.prog 22 #[.slice (some ⟨w10.heap.size, 0, none⟩) 1 1] w11 (PickPost w11 (joinL [⟨N, A, c, T⟩]))) := Lib.hid (join_any (some ⟨w10.heap.size, 0, none⟩) 1 1 [⟨N, A, c, T⟩] w11 (by omega) (fun s hs => by
      obtain rfl := List.mem_singleton.1 hs
      show T.length ≤ 1000
      omega) (soups_one (a := ⟨N, A, c, T⟩) GRj.out ((HT.out.below HBw11.out).more HBw11.out.size)))
    go_wp2_with fail
    rw [← hw11]
    clear HBw10 HCw10 Waw10 Gaw10 Wbw10 Gbw10 Wpw10 Wow10 Gpw10 hgj s0 s1 GRj
    refine HJ.out.mono ?_
    clear hw11 HJ
    rintro e w12 ⟨Ad, cd, rfl, hr, hb⟩
    have HBw12 : Hid (Below w.heap.size w w12) := Lib.hid (bw_call HBw11.out hb)
    have HCw12 : Hid (Below w4.heap.size w4 w12) := Lib.hid (bw_call HCw11.out hb)
    have Waw12 : Hid (Wr 51 3 w12 w4.heap.size Aa al.length) := Lib.hid (Waw11.out.below hb)
    have Gaw12 : Hid (Blk w12 g1 24 #[.int .i64 na, .slice Aa al.length ca]) := Lib.hid (blk_call Gaw11.out hb)
    have Wbw12 : Hid (Wr 51 3 w12 w4.heap.size Ab bl.length) := Lib.hid (Wbw11.out.below hb)
    have Gbw12 : Hid (Blk w12 g2 24 #[.int .i64 nb, .slice Ab bl.length cb]) := Lib.hid (blk_call Gbw11.out hb)
    have Wpw12 : Hid (Wr 51 3 w12 w4.heap.size Ap pl.length) := Lib.hid (Wpw11.out.below hb)
    have Wow12 : Hid (Wr 3 1 w12 w4.heap.size Ao ol.length) := Lib.hid (Wow11.out.below hb)
    have Gpw12 : Hid (Blk w12 g3 24 #[.int .i64 np, .slice Ap pl.length cp]) := Lib.hid (blk_call Gpw11.out hb)
    have Wdw12 : Hid (Wr 51 3 w12 w4.heap.size Ad (joinL [⟨N, A, c, T⟩]).2.1.length) := Lib.hid ((wr_tri hr).base HCw11.out.size)
    clear HBw11 HCw11 Waw11 Gaw11 Wbw11 Gbw11 Wpw11 Wow11 Gpw11 hb hr
    have hled := joinL_le ⟨N, A, c, T⟩
    generalize (joinL [⟨N, A, c, T⟩]) = rd at *
    obtain ⟨nd, dl, ed⟩ := rd
    simp only at hled Wdw12 ⊢
    obtain ⟨w13, hw13⟩ : ∃ w13, w13 = w12.alloc (.cells #[.int .i64 nd, .slice Ad dl.length cd] 24) := ⟨_, rfl⟩
    have HBw13 : Hid (Below w.heap.size w w13) := by subst hw13; exact Lib.hid (bw_alloc HBw12.out _)
    have HCw13 : Hid (Below w4.heap.size w4 w13) := by subst hw13; exact Lib.hid (bw_alloc HCw12.out _)
    have Waw13 : Hid (Wr 51 3 w13 w4.heap.size Aa al.length) := by subst hw13; exact Lib.hid (Waw12.out.alloc _)
    have Gaw13 : Hid (Blk w13 g1 24 #[.int .i64 na, .slice Aa al.length ca]) := by subst hw13; exact Lib.hid (Gaw12.out.alloc _)
    have Wbw13 : Hid (Wr 51 3 w13 w4.heap.size Ab bl.length) := by subst hw13; exact Lib.hid (Wbw12.out.alloc _)
    have Gbw13 : Hid (Blk w13 g2 24 #[.int .i64 nb, .slice Ab bl.length cb]) := by subst hw13; exact Lib.hid (Gbw12.out.alloc _)
    have Wpw13 : Hid (Wr 51 3 w13 w4.heap.size Ap pl.length) := by subst hw13; exact Lib.hid (Wpw12.out.alloc _)
    have Wow13 : Hid (Wr 3 1 w13 w4.heap.size Ao ol.length) := by subst hw13; exact Lib.hid (Wow12.out.alloc _)
    have Gpw13 : Hid (Blk w13 g3 24 #[.int .i64 np, .slice Ap pl.length cp]) := by subst hw13; exact Lib.hid (Gpw12.out.alloc _)
    have Wdw13 : Hid (Wr 51 3 w13 w4.heap.size Ad dl.length) := by subst hw13; exact Lib.hid (Wdw12.out.alloc _)
    have Gdw13 : Hid (Blk w13 w12.heap.size 24 #[.int .i64 nd, .slice Ad dl.length cd]) := by subst hw13; exact Lib.hid (Blk.new _ _ _)
    go_upto_region 11 with (fail)
    rw [← hw13]
    generalize w12.heap.size = g4 at *
    clear HBw12 HCw12 Waw12 Gaw12 Wbw12 Gbw12 Wpw12 Wow12 Gpw12 Wdw12 hw13
    obtain ⟨s0, s1, _, _, _⟩ := soup_facts (blk_call GA4.out HCw13.out)
    go_wp2_with fail
    refine (mirror_any N A T.length c T w13 (by omega) ((HT.out.below HBw13.out).more HBw13.out.size)).mono ?_
    rintro e w14 ⟨Am, cm, rfl, hr, hb⟩
    have HBw14 : Hid (Below w.heap.size w w14) := Lib.hid (bw_call HBw13.out hb)
    have HCw14 : Hid (Below w4.heap.size w4 w14) := Lib.hid (bw_call HCw13.out hb)
    have Waw14 : Hid (Wr 51 3 w14 w4.heap.size Aa al.length) := Lib.hid (Waw13.out.below hb)
    have Gaw14 : Hid (Blk w14 g1 24 #[.int .i64 na, .slice Aa al.length ca]) := Lib.hid (blk_call Gaw13.out hb)
    have Wbw14 : Hid (Wr 51 3 w14 w4.heap.size Ab bl.length) := Lib.hid (Wbw13.out.below hb)
    have Gbw14 : Hid (Blk w14 g2 24 #[.int .i64 nb, .slice Ab bl.length cb]) := Lib.hid (blk_call Gbw13.out hb)
    have Wpw14 : Hid (Wr 51 3 w14 w4.heap.size Ap pl.length) := Lib.hid (Wpw13.out.below hb)
    have Wow14 : Hid (Wr 3 1 w14 w4.heap.size Ao ol.length) := Lib.hid (Wow13.out.below hb)
    have Gpw14 : Hid (Blk w14 g3 24 #[.int .i64 np, .slice Ap pl.length cp]) := Lib.hid (blk_call Gpw13.out hb)
    have Wdw14 : Hid (Wr 51 3 w14 w4.heap.size Ad dl.length) := Lib.hid (Wdw13.out.below hb)
    have Gdw14 : Hid (Blk w14 g4 24 #[.int .i64 nd, .slice Ad dl.length cd]) := Lib.hid (blk_call Gdw13.out hb)
    have Wmw14 : Hid (Wr 51 3 w14 w4.heap.size Am (T.map mirT).length) := Lib.hid ((wr_tri hr).base HCw13.out.size)
    clear HBw13 HCw13 Waw13 Gaw13 Wbw13 Gbw13 Wpw13 Wow13 Gpw13 Wdw13 Gdw13 s0 s1 hb hr
    have hlem : (T.map mirT).length ≤ T.length := by simp
    generalize T.map mirT = ml at *
    obtain ⟨w15, hw15⟩ : ∃ w15, w15 = w14.alloc (.cells #[.int .i64 N, .slice Am ml.length cm] 24) := ⟨_, rfl⟩
    have HBw15 : Hid (Below w.heap.size w w15) := by subst hw15; exact Lib.hid (bw_alloc HBw14.out _)
    have HCw15 : Hid (Below w4.heap.size w4 w15) := by subst hw15; exact Lib.hid (bw_alloc HCw14.out _)
    have Waw15 : Hid (Wr 51 3 w15 w4.heap.size Aa al.length) := by subst hw15; exact Lib.hid (Waw14.out.alloc _)
    have Gaw15 : Hid (Blk w15 g1 24 #[.int .i64 na, .slice Aa al.length ca]) := by subst hw15; exact Lib.hid (Gaw14.out.alloc _)
    have Wbw15 : Hid (Wr 51 3 w15 w4.heap.size Ab bl.length) := by subst hw15; exact Lib.hid (Wbw14.out.alloc _)
    have Gbw15 : Hid (Blk w15 g2 24 #[.int .i64 nb, .slice Ab bl.length cb]) := by subst hw15; exact Lib.hid (Gbw14.out.alloc _)
    have Wpw15 : Hid (Wr 51 3 w15 w4.heap.size Ap pl.length) := by subst hw15; exact Lib.hid (Wpw14.out.alloc _)
    have Wow15 : Hid (Wr 3 1 w15 w4.heap.size Ao ol.length) := by subst hw15; exact Lib.hid (Wow14.out.alloc _)
    have Gpw15 : Hid (Blk w15 g3 24 #[.int .i64 np, .slice Ap pl.length cp]) := by subst hw15; exact Lib.hid (Gpw14.out.alloc _)
    have Wdw15 : Hid (Wr 51 3 w15 w4.heap.size Ad dl.length) := by subst hw15; exact Lib.hid (Wdw14.out.alloc _)
    have Gdw15 : Hid (Blk w15 g4 24 #[.int .i64 nd, .slice Ad dl.length cd]) := by subst hw15; exact Lib.hid (Gdw14.out.alloc _)
    have Wmw15 : Hid (Wr 51 3 w15 w4.heap.size Am ml.length) := by subst hw15; exact Lib.hid (Wmw14.out.alloc _)
    have Gmw15 : Hid (Blk w15 w14.heap.size 24 #[.int .i64 N, .slice Am ml.length cm]) := by subst hw15; exact Lib.hid (Blk.new _ _ _)
    go_upto_region 12 with (fail)
    rw [← hw15]
    generalize w14.heap.size = g5 at *
    clear HBw14 HCw14 Waw14 Gaw14 Wbw14 Gbw14 Wpw14 Wow14 Gpw14 Wdw14 Gdw14 Wmw14 hw15
    obtain ⟨s0, s1, _, _, _⟩ := soup_facts (blk_call GA4.out HCw15.out)
    go_wp2_with fail
    refine (edges_any N A T.length c T w15 (by omega) ((HT.out.below HBw15.out).more HBw15.out.size)).mono ?_
    rintro e w16 ⟨Ae, ce, rfl, hr, hb⟩
    have HBw16 : Hid (Below w.heap.size w w16) := Lib.hid (bw_call HBw15.out hb)
    have HCw16 : Hid (Below w4.heap.size w4 w16) := Lib.hid (bw_call HCw15.out hb)
    have Waw16 : Hid (Wr 51 3 w16 w4.heap.size Aa al.length) := Lib.hid (Waw15.out.below hb)
    have Gaw16 : Hid (Blk w16 g1 24 #[.int .i64 na, .slice Aa al.length ca]) := Lib.hid (blk_call Gaw15.out hb)
    have Wbw16 : Hid (Wr 51 3 w16 w4.heap.size Ab bl.length) := Lib.hid (Wbw15.out.below hb)
    have Gbw16 : Hid (Blk w16 g2 24 #[.int .i64 nb, .slice Ab bl.length cb]) := Lib.hid (blk_call Gbw15.out hb)
    have Wpw16 : Hid (Wr 51 3 w16 w4.heap.size Ap pl.length) := Lib.hid (Wpw15.out.below hb)
    have Wow16 : Hid (Wr 3 1 w16 w4.heap.size Ao ol.length) := Lib.hid (Wow15.out.below hb)
    have Gpw16 : Hid (Blk w16 g3 24 #[.int .i64 np, .slice Ap pl.length cp]) := Lib.hid (blk_call Gpw15.out hb)
    have Wdw16 : Hid (Wr 51 3 w16 w4.heap.size Ad dl.length) := Lib.hid (Wdw15.out.below hb)
    have Gdw16 : Hid (Blk w16 g4 24 #[.int .i64 nd, .slice Ad dl.length cd]) := Lib.hid (blk_call Gdw15.out hb)
    have Wmw16 : Hid (Wr 51 3 w16 w4.heap.size Am ml.length) := Lib.hid (Wmw15.out.below hb)
    have Gmw16 : Hid (Blk w16 g5 24 #[.int .i64 N, .slice Am ml.length cm]) := Lib.hid (blk_call Gmw15.out hb)
    have Wew16 : Hid (Wr 54 2 w16 w4.heap.size Ae (edgesL N T).length) := Lib.hid ((wr_edge hr).base HCw15.out.size)
    clear HBw15 HCw15 Waw15 Gaw15 Wbw15 Gbw15 Wpw15 Wow15 Gpw15 Wdw15 Gdw15 Wmw15 Gmw15 s0 s1 hb hr
    have hlee := edgesL_len N T
    obtain ⟨en, hen⟩ : ∃ en, en = (edgesL N T).length := ⟨_, rfl⟩
    rw [← hen] at hlee Wew16 ⊢
    clear hen
    obtain ⟨b1, d1, _, _, _⟩ := soup_facts Gaw16.out
    obtain ⟨b2, d2, _, _, _⟩ := soup_facts Gbw16.out
    obtain ⟨b3, d3, _, _, _⟩ := soup_facts Gpw16.out
    obtain ⟨b4, d4, _, _, _⟩ := soup_facts Gdw16.out
    obtain ⟨b5, d5, _, _, _⟩ := soup_facts Gmw16.out
    obtain ⟨R, hR⟩ : ∃ R : Array Value, R = #[.int .i64 na, .slice Aa al.length ca, .int .i64 nb, .slice Ab bl.length cb, .int .i64 np, .slice Ap pl.length cp, .int .i64 nd, .slice Ad dl.length cd, .int .i64 N, .slice Am ml.length cm] := ⟨_, rfl⟩
    have HR5 := Lib.hid (fun k (hk : k < 5) => five_at hR (by omega) (by omega) (by omega) (by omega) (by omega) hk)
    obtain ⟨w17, hw17⟩ : ∃ w17, w17 = w16.alloc (.cells R 24) := ⟨_, rfl⟩
    have HBw17 : Hid (Below w.heap.size w w17) := by subst hw17; exact Lib.hid (bw_alloc HBw16.out _)
    have HCw17 : Hid (Below w4.heap.size w4 w17) := by subst hw17; exact Lib.hid (bw_alloc HCw16.out _)
    have WSw17 : Hid (Wrs R w17 w4.heap.size) := by subst hw17; exact Lib.hid ((five_wr hR Waw16.out Wbw16.out Wpw16.out Wdw16.out Wmw16.out).alloc _)
    have Wow17 : Hid (Wr 3 1 w17 w4.heap.size Ao ol.length) := by subst hw17; exact Lib.hid (Wow16.out.alloc _)
    have Wew17 : Hid (Wr 54 2 w17 w4.heap.size Ae en) := by subst hw17; exact Lib.hid (Wew16.out.alloc _)
    have GRw17 : Hid (Blk w17 w16.heap.size 24 R) := by subst hw17; exact Lib.hid (Blk.new _ _ _)
    go_wp2_with fail
    rw [← hR, ← hw17]
    generalize w16.heap.size = gr at *
    clear HBw16 HCw16 Waw16 Gaw16 Wbw16 Gbw16 Wpw16 Wow16 Gpw16 Wdw16 Gdw16 Wmw16 Gmw16 Wew16 hR hw17 b1 d1 b2 d2 b3 d3 b4 d4 b5 d5
    go_loopw [83] (fun kv wr => ∃ k : Nat, k ≤ 5 ∧ kv = .int .i64 k ∧ Hid (Blk wr gr 24 R) ∧ Hid (Wrs R wr w4.heap.size) ∧ Hid (Wr 3 1 wr w4.heap.size Ao ol.length) ∧ Hid (Wr 54 2 wr w4.heap.size Ae en) ∧ Hid (Below w4.heap.size w4 wr)) (fun kv _ => 5 - (intOf kv).toNat)
    case atStart => exact ⟨0, by omega, rfl, GRw17, WSw17, Wow17, Wew17, HCw17⟩
    case round =>
      obtain ⟨k, hk, rfl, GRk, WSk, Wok, Wek, HCk⟩ := hrel
      obtain ⟨wB, hwB⟩ : ∃ wB : World, wB = wr := ⟨_, rfl⟩
      rw [← hwB] at GRk WSk Wok Wek HCk ⊢
      clear hwB GRw17 WSw17 Wow17 Wew17 HCw17 HBw17
      by_cases hk5 : k < 5
      · obtain ⟨nx, Ax, lx, cx, q0, q1, hlx⟩ := HR5.out k hk5
        have r0 := GRk.out.cell (k * 2)
        have r1 := GRk.out.cell (k * 2 + 1)
        rw [q0] at r0
        rw [q1] at r1
        have WXk := Lib.hid (WSk.out k _ _ _ q1)
        have hki : (k : Int) < 5 := by omega
        clear q0 q1
        obtain ⟨w18, hw18⟩ : ∃ w18, w18 = wB.alloc (.cells #[.int .i64 nx, .slice Ax lx cx] 24) := ⟨_, rfl⟩
        have GX18 : Hid (Blk w18 wB.heap.size 24 #[.int .i64 nx, .slice Ax lx cx]) := by subst hw18; exact Lib.hid (Blk.new _ _ _)
        have GR18 : Hid (Blk w18 gr 24 R) := by subst hw18; exact Lib.hid (GRk.out.alloc _)
        have WS18 : Hid (Wrs R w18 w4.heap.size) := by subst hw18; exact Lib.hid (WSk.out.alloc _)
        have WX18 : Hid (Wr 51 3 w18 w4.heap.size Ax lx) := by subst hw18; exact Lib.hid (WXk.out.alloc _)
        have Wo18 : Hid (Wr 3 1 w18 w4.heap.size Ao ol.length) := by subst hw18; exact Lib.hid (Wok.out.alloc _)
        have We18 : Hid (Wr 54 2 w18 w4.heap.size Ae en) := by subst hw18; exact Lib.hid (Wek.out.alloc _)
        have HC18 : Hid (Below w4.heap.size w4 w18) := by subst hw18; exact Lib.hid (bw_alloc HCk.out _)
        go_wp2_with fail
        rw [← hw18]
        generalize wB.heap.size = gx at *
        clear hw18 GRk WSk WXk Wok Wek HCk r0 r1
        go_loopw [20] (fun iv wr => ∃ i : Nat, i ≤ lx ∧ iv = .int .i64 i ∧ Hid (Blk wr gx 24 #[.int .i64 nx, .slice Ax lx cx]) ∧ Hid (Blk wr gr 24 R) ∧ Hid (Wrs R wr w4.heap.size) ∧ Hid (Wr 51 3 wr w4.heap.size Ax lx) ∧ Hid (Wr 3 1 wr w4.heap.size Ao ol.length) ∧ Hid (Wr 54 2 wr w4.heap.size Ae en) ∧ Hid (Below w4.heap.size w4 wr)) (fun iv _ => lx - (intOf iv).toNat)
        case atStart => exact ⟨0, by omega, rfl, GX18, GR18, WS18, WX18, Wo18, We18, HC18⟩
        case round =>
          obtain ⟨i, hi, rfl, GXi, GRi, WSi, WXi, Woi, Wei, HCi⟩ := hrel
          obtain ⟨wC, hwC⟩ : ∃ wC : World, wC = wr := ⟨_, rfl⟩
          rw [← hwC] at GXi GRi WSi WXi Woi Wei HCi ⊢
          clear hwC GX18 GR18 WS18 WX18 Wo18 We18 HC18
          obtain ⟨x0, x1, _, _, _⟩ := soup_facts GXi.out
          by_cases hlt : i < lx
          · obtain ⟨g, eA, hBg, ⟨cs, hgs⟩, hcells, hfr⟩ := WXi.out.at_ hlt
            obtain ⟨u0, e0⟩ := hcells 0 (by omega)
            obtain ⟨u1, e1⟩ := hcells 1 (by omega)
            obtain ⟨u2, e2⟩ := hcells 2 (by omega)
            rw [Nat.add_zero] at e0
            have f0 := hfr (i * 3)
            have f1 := hfr (i * 3 + 1)
            have f2 := hfr (i * 3 + 2)
            have HNX := Lib.hid (GXi.out.ne_ hgs (by decide))
            have HNR := Lib.hid (GRi.out.ne_ hgs (by decide))
            have hii0 : (0 : Int) ≤ (i : Int) := by omega
            have hii1 : (i : Int) < (lx : Int) := by omega
            clear hcells hfr hgs
            subst eA
            go_wp2_with fail
            exact ⟨⟨i + 1, by omega, by go_num, Lib.hid (((GXi.out.far HNX.out _).far HNX.out _).far HNX.out _), Lib.hid (((GRi.out.far HNR.out _).far HNR.out _).far HNR.out _), Lib.hid (((WSi.out.set _ _ _).set _ _ _).set _ _ _), Lib.hid (((WXi.out.set _ _ _).set _ _ _).set _ _ _), Lib.hid (((Woi.out.set _ _ _).set _ _ _).set _ _ _), Lib.hid (((Wei.out.set _ _ _).set _ _ _).set _ _ _), Lib.hid (bw_set (bw_set (bw_set HCi.out hBg _) hBg _) hBg _)⟩, by simp [intOf]; omega⟩
          · obtain rfl : i = lx := by omega
            go_wp2_with fail
            exact ⟨⟨k + 1, by omega, by go_num, GRi, WSi, Woi, Wei, HCi⟩, by simp [intOf]; omega⟩
      · obtain rfl : k = 5 := by omega
        go_wp2_with fail
        go_loopw [21] (fun iv wr => ∃ i : Nat, i ≤ ol.length ∧ iv = .int .i64 i ∧ Hid (Wr 3 1 wr w4.heap.size Ao ol.length) ∧ Hid (Wr 54 2 wr w4.heap.size Ae en) ∧ Hid (Below w4.heap.size w4 wr)) (fun iv _ => ol.length - (intOf iv).toNat)
        case atStart => exact ⟨0, by omega, rfl, Wok, Wek, HCk⟩
        case round =>
          obtain ⟨i, hi, rfl, Woi, Wei, HCi⟩ := hrel
          obtain ⟨wC, hwC⟩ : ∃ wC : World, wC = wr := ⟨_, rfl⟩
          rw [← hwC] at Woi Wei HCi ⊢
          clear hwC GRk WSk Wok Wek HCk
          by_cases hlt : i < ol.length
          · obtain ⟨g, eA, hBg, ⟨cs, hgs⟩, hcells, hfr⟩ := Woi.out.at_ hlt
            obtain ⟨u0, e0⟩ := hcells 0 (by omega)
            rw [Nat.add_zero, Nat.mul_one] at e0
            have f0 := hfr i
            have hii0 : (0 : Int) ≤ (i : Int) := by omega
            have hii1 : (i : Int) < (ol.length : Int) := by omega
            clear hcells hfr hgs
            subst eA
            go_wp2_with fail
            exact ⟨⟨i + 1, by omega, by go_num, Lib.hid (Woi.out.set _ _ _), Lib.hid (Wei.out.set _ _ _), Lib.hid (bw_set HCi.out hBg _)⟩, by simp [intOf]; omega⟩
          · obtain rfl : i = ol.length := by omega
            go_wp2_with fail
            go_loopw [22] (fun iv wr => ∃ i : Nat, i ≤ en ∧ iv = .int .i64 i ∧ Hid (Wr 54 2 wr w4.heap.size Ae en) ∧ Hid (Below w4.heap.size w4 wr)) (fun iv _ => en - (intOf iv).toNat)
            case atStart => exact ⟨0, by omega, rfl, Wei, HCi⟩
            case round =>
              obtain ⟨j, hj, rfl, Wej, HCj⟩ := hrel
              obtain ⟨wD, hwD⟩ : ∃ wD : World, wD = wr := ⟨_, rfl⟩
              rw [← hwD] at Wej HCj ⊢
              clear hwD Woi Wei HCi
              by_cases hlt : j < en
              · obtain ⟨g, eA, hBg, ⟨cs, hgs⟩, hcells, hfr⟩ := Wej.out.at_ hlt
                obtain ⟨u0, e0⟩ := hcells 0 (by omega)
                obtain ⟨u1, e1⟩ := hcells 1 (by omega)
                rw [Nat.add_zero] at e0
                have f0 := hfr (j * 2)
                have f1 := hfr (j * 2 + 1)
                have hii0 : (0 : Int) ≤ (j : Int) := by omega
                have hii1 : (j : Int) < (en : Int) := by omega
                clear hcells hfr hgs
                subst eA
                go_wp2_with fail
                exact ⟨⟨j + 1, by omega, by go_num, Lib.hid ((Wej.out.set _ _ _).set _ _ _), Lib.hid (bw_set (bw_set HCj.out hBg _) hBg _)⟩, by simp [intOf]; omega⟩
              · obtain rfl : j = en := by omega
                go_upto_region 29 with (fail)
                have GAE := Lib.hid (blk_call GA4.out HCj.out)
                have GWE := Lib.hid (blk_call GW4.out HCj.out)
                have RWE := Lib.hid (RW4.out.below HCj.out)
                have INE := Lib.hid (IN4.out.below HCj.out)
                have HBE := Lib.hid (bw_call HB4.out HCj.out)
                obtain ⟨wE, hwE⟩ : ∃ wE : World, wE = wD := ⟨_, rfl⟩
                rw [← hwE] at GAE GWE RWE INE HBE ⊢
                clear hwE Wej HCj GA4 GW4 RW4 IN4 HB4
                have HEL : Hid ((edgesL N T).length ≤ 1000000) := Lib.hid (by have h1 := edgesL_len N T; omega)
                have HC1 : Hid (∀ (W : World) (A1 : Option Addr) (c1 : Nat) (hr : LRow W 0 A1 c1 T) (h : Below w.heap.size w W), Calls Try.prog 17 #[.agg #[.int .i64 N, .slice A T.length c], .agg #[.int .i64 N, .slice A1 T.length c1]] W (BoolPost W true)) := Lib.hid fun W A1 c1 hr h => refSame_any N T A A1 T.length c c1 W (by omega) ((HT.out.below h).more h.size) hr.tris
                have HC2 : Hid (∀ (W : World) (A1 : Option Addr) (c1 : Nat) (hr : IRow W 0 A1 c1 l) (h : Below w.heap.size w W), Calls Try.prog 18 #[.slice Al l.length cl, .slice A1 l.length c1] W (BoolPost W true)) := Lib.hid fun W A1 c1 hr h => refInts_any l Al A1 l.length cl c1 W (by omega) ((HL.out.below h).more h.size) hr.reads
                have HC3 : Hid (∀ (W : World) (h : Below w.heap.size w W), Calls Try.prog 20 #[.agg #[.int .i64 N, .slice A T.length c]] W (EPost W (edgesL N T))) := Lib.hid fun W h => edges_any N A T.length c T W (by omega) ((HT.out.below h).more h.size)
                have HC4 : Hid (∀ (W : World) (h : Below w.heap.size w W), Calls Try.prog 21 #[.agg #[.int .i64 N, .slice A T.length c]] W (EPost W (edgesL N T))) := Lib.hid fun W h => refEdges_any N A T.length c T W (by omega) ((HT.out.below h).more h.size)
                have HC5 : Hid (∀ {W : World} {A1 A2 : Option Addr} {c1 c2 : Nat} (h1 : ERow W 0 A1 c1 (edgesL N T)) (h2 : ERow W 0 A2 c2 (edgesL N T)), Calls Try.prog 19 #[.slice A1 (edgesL N T).length c1, .slice A2 (edgesL N T).length c2] W (BoolPost W true)) := Lib.hid fun h1 h2 => alike_true HEL.out h1 h2
                generalize edgesL N T = E at *
                refine wp_region_till (S := fun w' => w'.cell? ⟨ga, 0, none⟩ = some (.int .i64 N) ∧ w'.cell? ⟨ga, 1, none⟩ = some (.slice A T.length c) ∧ w'.cell? ⟨gw, 0, none⟩ = some (.int .i64 N) ∧ w'.cell? ⟨gw, 1, none⟩ = some (.slice Aw T.length cw)) 15 (by kernel_rfl) ⟨(soup_facts GAE.out.drew).1, (soup_facts GAE.out.drew).2.1, (soup_facts GWE.out.drew).1, (soup_facts GWE.out.drew).2.1⟩ (fun hHeld => ?_)
                refine Till.take (i := 0) (v := ?vt1) rfl (by kernel_rfl) (by kernel_rfl) (by kernel_rfl) (by kernel_rfl) (fun _ _ _ h => h) (Or.inl ⟨by rfl, ?ht1⟩) (by assumption) ?restt1
                case ht1 => (intro w hSw; (try dsimp only at hSw); go_simp; try with_reducible rfl)
                (try simp only [Act.put, List.setIfInBounds_toArray, List.set_cons_zero, List.set_cons_succ])
                refine Till.take (i := 1) (v := ?vt2) rfl (by kernel_rfl) (by kernel_rfl) (by kernel_rfl) (by kernel_rfl) (fun _ _ _ h => h) (Or.inl ⟨by rfl, ?ht2⟩) (by assumption) ?restt2
                case ht2 => (intro w hSw; (try dsimp only at hSw); go_simp; try with_reducible rfl)
                (try simp only [Act.put, List.setIfInBounds_toArray, List.set_cons_zero, List.set_cons_succ])
                refine Till.ready (rs := [2]) (by kernel_rfl) (by simp) ?_
                refine TillEach.cons rfl (fun K hK => ?_) ?_
                · go_simp
                  go_wp2_with (go_at_call 17; refine (HC1.out _ _ _ (RWE.out.drew) (bw_drew HBE.out)).mono ?_; rintro e v20 ⟨rfl, hb⟩)
                  have GAv20 := Lib.hid (blk_call GAE.out.drew hb)
                  have GWv20 := Lib.hid (blk_call GWE.out.drew hb)
                  have RWv20 := Lib.hid (RWE.out.drew.below hb)
                  have INv20 := Lib.hid (INE.out.drew.below hb)
                  have HBv20 := Lib.hid (bw_call (bw_drew HBE.out) hb)
                  clear hb
                  refine hK.out _ _ ?_ (fun hHeld => ?_)
                  · exact ⟨(soup_facts GAv20.out).1, (soup_facts GAv20.out).2.1, (soup_facts GWv20.out).1, (soup_facts GWv20.out).2.1⟩
                  clear hK K
                  (try simp only [Act.put, List.setIfInBounds_toArray, List.set_cons_zero, List.set_cons_succ])
                  refine Till.take (i := 3) (v := ?vt3) rfl (by kernel_rfl) (by kernel_rfl) (by kernel_rfl) (by kernel_rfl) (fun _ _ _ h => h) (Or.inl ⟨by rfl, ?ht3⟩) (by assumption) ?restt3
                  case ht3 => (intro w hSw; (try dsimp only at hSw); go_simp; try with_reducible rfl)
                  (try simp only [Act.put, List.setIfInBounds_toArray, List.set_cons_zero, List.set_cons_succ])
                  refine Till.take (i := 4) (v := ?vt4) rfl (by kernel_rfl) (by kernel_rfl) (by kernel_rfl) (by kernel_rfl) (fun _ _ _ h => h) (Or.inl ⟨by rfl, ?ht4⟩) (by assumption) ?restt4
                  case ht4 => (intro w hSw; (try dsimp only at hSw); go_simp; try with_reducible rfl)
                  (try simp only [Act.put, List.setIfInBounds_toArray, List.set_cons_zero, List.set_cons_succ])
                  refine Till.take (i := 5) (v := ?vt5) rfl (by kernel_rfl) (by kernel_rfl) (by kernel_rfl) (by kernel_rfl) (fun _ _ _ h => h) (Or.inl ⟨by rfl, ?ht5⟩) (by assumption) ?restt5
                  case ht5 => (intro w hSw; (try dsimp only at hSw); go_simp; try with_reducible rfl)
                  (try simp only [Act.put, List.setIfInBounds_toArray, List.set_cons_zero, List.set_cons_succ])
                  refine Till.ready (rs := [6]) (by kernel_rfl) (by simp) ?_
                  refine TillEach.cons rfl (fun K hK => ?_) ?_
                  · go_simp
                    go_wp2_with (go_at_call 18; refine (HC2.out _ _ _ INv20.out HBv20.out).mono ?_; rintro e v21 ⟨rfl, hb⟩)
                    have GAv21 := Lib.hid (blk_call GAv20.out hb)
                    have GWv21 := Lib.hid (blk_call GWv20.out hb)
                    have RWv21 := Lib.hid (RWv20.out.below hb)
                    have INv21 := Lib.hid (INv20.out.below hb)
                    have HBv21 := Lib.hid (bw_call HBv20.out hb)
                    clear hb
                    refine hK.out _ _ ?_ (fun hHeld => ?_)
                    · exact ⟨(soup_facts GAv21.out).1, (soup_facts GAv21.out).2.1, (soup_facts GWv21.out).1, (soup_facts GWv21.out).2.1⟩
                    clear hK K
                    (try simp only [Act.put, List.setIfInBounds_toArray, List.set_cons_zero, List.set_cons_succ])
                    refine Till.take (i := 7) (v := ?vt6) rfl (by kernel_rfl) (by kernel_rfl) (by kernel_rfl) (by kernel_rfl) (fun _ _ _ h => h) (Or.inl ⟨by rfl, ?ht6⟩) (by assumption) ?restt6
                    case ht6 => (intro w hSw; (try dsimp only at hSw); go_simp; try with_reducible rfl)
                    (try simp only [Act.put, List.setIfInBounds_toArray, List.set_cons_zero, List.set_cons_succ])
                    refine Till.take (i := 8) (v := ?vt7) rfl (by kernel_rfl) (by kernel_rfl) (by kernel_rfl) (by kernel_rfl) (fun _ _ _ h => h) (Or.inl ⟨by rfl, ?ht7⟩) (by assumption) ?restt7
                    case ht7 => (intro w hSw; (try dsimp only at hSw); go_simp; try with_reducible rfl)
                    (try simp only [Act.put, List.setIfInBounds_toArray, List.set_cons_zero, List.set_cons_succ])
                    refine Till.take (i := 9) (v := ?vt8) rfl (by kernel_rfl) (by kernel_rfl) (by kernel_rfl) (by kernel_rfl) (fun _ _ _ h => h) (Or.inl ⟨by rfl, ?ht8⟩) (by assumption) ?restt8
                    case ht8 => (intro w hSw; (try dsimp only at hSw); go_simp; try with_reducible rfl)
                    (try simp only [Act.put, List.setIfInBounds_toArray, List.set_cons_zero, List.set_cons_succ])
                    refine Till.take (i := 11) (v := ?vt9) rfl (by kernel_rfl) (by kernel_rfl) (by kernel_rfl) (by kernel_rfl) (fun _ _ _ h => h) (Or.inl ⟨by rfl, ?ht9⟩) (by assumption) ?restt9
                    case ht9 => (intro w hSw; (try dsimp only at hSw); go_simp; try with_reducible rfl)
                    (try simp only [Act.put, List.setIfInBounds_toArray, List.set_cons_zero, List.set_cons_succ])
                    refine Till.ready (rs := [10]) (by kernel_rfl) (by simp) ?_
                    refine TillEach.cons rfl (fun K hK => ?_) ?_
                    · go_simp
                      go_wp2_with (go_at_call 20; refine (HC3.out _ HBv21.out).mono ?_; rintro e v22 ⟨A1, c1, rfl, hr, hb⟩)
                      have GAv22 := Lib.hid (blk_call GAv21.out hb)
                      have GWv22 := Lib.hid (blk_call GWv21.out hb)
                      have RWv22 := Lib.hid (RWv21.out.below hb)
                      have INv22 := Lib.hid (INv21.out.below hb)
                      have E1v22 : Hid (ERow v22 0 A1 c1 E) := Lib.hid (ERow.base hr (Nat.zero_le _))
                      have HBv22 := Lib.hid (bw_call HBv21.out hb)
                      clear hb
                      refine hK.out _ _ ?_ (fun hHeld => ?_)
                      · exact ⟨(soup_facts GAv22.out).1, (soup_facts GAv22.out).2.1, (soup_facts GWv22.out).1, (soup_facts GWv22.out).2.1⟩
                      clear hK K
                      (try simp only [Act.put, List.setIfInBounds_toArray, List.set_cons_zero, List.set_cons_succ])
                      refine Till.ready (rs := [12]) (by kernel_rfl) (by simp) ?_
                      refine TillEach.cons rfl (fun K hK => ?_) ?_
                      · go_simp
                        go_wp2_with (go_at_call 21; refine (HC4.out _ HBv22.out).mono ?_; rintro e v23 ⟨A2, c2, rfl, hr, hb⟩)
                        have GAv23 := Lib.hid (blk_call GAv22.out hb)
                        have GWv23 := Lib.hid (blk_call GWv22.out hb)
                        have RWv23 := Lib.hid (RWv22.out.below hb)
                        have INv23 := Lib.hid (INv22.out.below hb)
                        have E1v23 := Lib.hid (E1v22.out.below hb)
                        have E2v23 : Hid (ERow v23 0 A2 c2 E) := Lib.hid (ERow.base hr (Nat.zero_le _))
                        have HBv23 := Lib.hid (bw_call HBv22.out hb)
                        clear hb
                        refine hK.out _ _ ?_ (fun hHeld => ?_)
                        · exact ⟨(soup_facts GAv23.out).1, (soup_facts GAv23.out).2.1, (soup_facts GWv23.out).1, (soup_facts GWv23.out).2.1⟩
                        clear hK K
                        (try simp only [Act.put, List.setIfInBounds_toArray, List.set_cons_zero, List.set_cons_succ])
                        refine Till.ready (rs := [13]) (by kernel_rfl) (by simp) ?_
                        refine TillEach.cons rfl (fun K hK => ?_) ?_
                        · go_simp
                          go_wp2_with (go_at_call 19; refine (HC5.out E1v23.out E2v23.out).mono ?_; rintro e v24 ⟨rfl, hb⟩)
                          have GAv24 := Lib.hid (blk_call GAv23.out hb)
                          have GWv24 := Lib.hid (blk_call GWv23.out hb)
                          have RWv24 := Lib.hid (RWv23.out.below hb)
                          have INv24 := Lib.hid (INv23.out.below hb)
                          have E1v24 := Lib.hid (E1v23.out.below hb)
                          have E2v24 := Lib.hid (E2v23.out.below hb)
                          have HBv24 := Lib.hid (bw_call HBv23.out hb)
                          clear hb
                          refine hK.out _ _ ?_ (fun hHeld => ?_)
                          · exact ⟨(soup_facts GAv24.out).1, (soup_facts GAv24.out).2.1, (soup_facts GWv24.out).1, (soup_facts GWv24.out).2.1⟩
                          clear hK K
                          (try simp only [Act.put, List.setIfInBounds_toArray, List.set_cons_zero, List.set_cons_succ])
                          refine Till.take (i := 14) (v := ?vt10) rfl (by kernel_rfl) (by kernel_rfl) (by kernel_rfl) (by kernel_rfl) (fun _ _ _ h => h) (Or.inl ⟨by rfl, ?ht10⟩) (by assumption) ?restt10
                          case ht10 => (intro w hSw; (try dsimp only at hSw); go_simp; try with_reducible rfl)
                          (try simp only [Act.put, List.setIfInBounds_toArray, List.set_cons_zero, List.set_cons_succ])
                          refine Till.ready (rs := [15]) (by kernel_rfl) (by simp) ?_
                          refine TillEach.last rfl (fun K hK => ?_)
                          · go_simp
                            refine hK.out _ _ ?_
                            clear hK K
                            (try simp only [Act.put, List.setIfInBounds_toArray, List.set_cons_zero, List.set_cons_succ])
                            refine Till.done (by kernel_rfl) ?_ _
                            go_wp2_with fail
                            go_ret
                            exact ⟨rfl, HBv24.out⟩
                        exact TillEach.nil
                      exact TillEach.nil
                    exact TillEach.nil
                  exact TillEach.nil
                exact TillEach.nil
end Go.Proofs.Ytmmjonpkpeanpaa
