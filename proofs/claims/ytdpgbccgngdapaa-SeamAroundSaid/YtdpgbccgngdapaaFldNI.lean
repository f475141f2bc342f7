/- field.New[int], walked: against whatever closure. No condition but sizes. -/
import Derived.Test.YtdpgbccgngdapaaFldA
namespace Go.Proofs.Ytdpgbccgngdapaa
open Go.RowKit

set_option linter.unusedSimpArgs false
set_option linter.unusedVariables false
def cellsI (x : Int) : List Value := [.int .i64 (x)]
theorem cellsI_len (x : Int) : (cellsI x).length = 1 := rfl
theorem run_nilfI_no (kf : Nat) (lb : Array Value) (w : World) : (binOp .eql 37 (.func (.func kf) #[] lb) Value.nilFunc).run Try.prog w = .ok (.bool false) w := by kernel_rfl
attribute [local irreducible] Blk LRow World.alloc World.setCell World.cell? World.frozen? MapV
set_option maxRecDepth 100000 in
set_option maxHeartbeats 8000000 in
theorem newI_any (kf : Nat) (lb : Array Value) (heg : ∀ args w, (callFunc kf args).run Try.prog w = .ok (.enter kf args) w) (g m : Nat) (T : List Tri) (F : Nat → Prop) (J : Nat → World → Prop) (V : Nat → Int) (w : World) (hT : T.length ≤ 1000) (h : TabN w g m T)
    (hF : ∀ k, F k → k < w.heap.size) (hJ : ∀ c W W', J c W → Below w.heap.size W W' → J c W') (h0 : J 0 w) (hof : OfC kf lb F J w (3 * T.length) fun c => (.int .i64 (V c))) :
    Calls Try.prog 12 #[.pointer (some ⟨g, 0, none⟩), .func (.func kf) #[] lb] w (NewP 70 3 1 g (3 * T.length) ((List.range (3 * T.length)).flatMap fun i => cellsI (V i)) J F w) := by
  have HT := Lib.hid h
  have HOF := Lib.hid hof
  have HJ := Lib.hid hJ
  have HF := Lib.hid hF
  clear h hof hJ hF
  obtain ⟨i0, hi0, hz0, hz1, hz2⟩ := info_parts int_infoC
  obtain ⟨gf, hgf⟩ : ∃ gf, gf = w.heap.size := ⟨_, rfl⟩
  obtain ⟨V0, hV0⟩ : ∃ V0, V0 = w.alloc (.cells #[.pointer (some ⟨g, 0, none⟩), .slice none 0 0] 70) := ⟨_, rfl⟩
  have HF0 : Hid (FAt V0 70 3 1 w.heap.size gf g none 0 0 []) := by subst hgf hV0; exact Lib.hid ⟨Blk.new _ _ _, World.ownsRow_nil _ _ _ _, Nat.le_refl _⟩
  have HB0 : Hid (Below w.heap.size w V0) := by subst hV0; exact Lib.hid (bw_alloc (Below.refl _ _) _)
  have HJ0 := Lib.hid (HJ.out 0 w V0 h0 HB0.out)
  have HO0 : Hid (Only F w V0) := Lib.hid (Only.of_below HB0.out F)
  have HT0 := Lib.hid (HT.out.below HB0.out)
  clear HT h0
  have hnf := run_nilfI_no kf lb
  go_enter Try.func12, Try.ntmps12
  go_upto_region 4 with (fail)
  rw [← hV0]
  clear hV0
  simp only [← hgf]
  clear hgf
  go_wp2_with fail
  refine (tris_any g 0 m T V0 HT0.out.t.s).mono ?_
  rintro e w' ⟨rfl, hw⟩
  replace hw := hw.symm
  subst hw
  clear HT0
  have hm3 : IntKind.i64.wrap (3 * (T.length : Int)) = 3 * (T.length : Int) := IntWalk.i64_in _ (by omega)
  go_wp2_with fail
  go_loopw [19] (fun kv wr => ∃ (k : Nat) (A : Option Addr) (c : Nat), k ≤ 3 * T.length ∧ kv = .int .i64 (k : Int) ∧ Hid (FAt wr 70 3 1 w.heap.size gf g A c k ((List.range k).flatMap fun i => cellsI (V i))) ∧ Hid (J k wr) ∧ Hid (Only F w wr)) (fun kv _ => 3 * T.length - (intOf kv).toNat)
  case atStart => exact ⟨0, none, 0, by omega, rfl, HF0, HJ0, HO0⟩
  case round =>
    obtain ⟨k, A, c, hk, rfl, HFk, HJk, HOk⟩ := hrel
    by_cases hlt : k < 3 * T.length
    rotate_left
    · obtain rfl : k = 3 * T.length := by omega
      have hki : ¬ ((3 * T.length : Nat) : Int) < 3 * (T.length : Int) := by omega
      go_wp2_with fail
      go_ret
      exact ⟨gf, A, c, rfl, HFk.out, HJk.out, HOk.out⟩
    have hki : (k : Int) < 3 * (T.length : Int) := by omega
    obtain ⟨wB, hwB⟩ : ∃ wB : World, wB = wr := ⟨_, rfl⟩
    rw [← hwB] at HFk HJk HOk ⊢
    clear hwB HF0 HJ0 HO0 HB0
    go_upto_region 7 with (fail)
    refine wp_region_till (S := fun w' => w'.cell? ⟨gf, 1, none⟩ = some (.slice A k c)) 12 (by kernel_rfl) HFk.out.drew.f1 (fun hHeld => ?_)
    refine Till.take (i := 0) (v := ?vt1) rfl (by kernel_rfl) (by kernel_rfl) (by kernel_rfl) (by kernel_rfl) (fun _ _ _ h => h) (Or.inl ⟨by rfl, ?ht1⟩) (by assumption) ?restt1
    case ht1 => (intro w hSw; (try dsimp only at hSw); go_simp; try with_reducible rfl)
    (try simp only [Act.put, List.setIfInBounds_toArray, List.set_cons_zero, List.set_cons_succ])
    refine Till.take (i := 1) (v := ?vt2) rfl (by kernel_rfl) (by kernel_rfl) (by kernel_rfl) (by kernel_rfl) (fun _ _ _ h => h) (Or.inl ⟨by rfl, ?ht2⟩) (by assumption) ?restt2
    case ht2 => (intro w hSw; (try dsimp only at hSw); go_simp; try with_reducible rfl)
    (try simp only [Act.put, List.setIfInBounds_toArray, List.set_cons_zero, List.set_cons_succ])
    refine Till.take (i := 2) (v := ?vt3) rfl (by kernel_rfl) (by kernel_rfl) (by kernel_rfl) (by kernel_rfl) (fun _ _ _ h => h) (Or.inl ⟨by rfl, ?ht3⟩) (by assumption) ?restt3
    case ht3 => (intro w hSw; (try dsimp only at hSw); go_simp; try with_reducible rfl)
    (try simp only [Act.put, List.setIfInBounds_toArray, List.set_cons_zero, List.set_cons_succ])
    refine Till.take (i := 3) (v := ?vt4) rfl (by kernel_rfl) (by kernel_rfl) (by kernel_rfl) (by kernel_rfl) (fun _ _ _ h => h) (Or.inl ⟨by rfl, ?ht4⟩) (by assumption) ?restt4
    case ht4 => (intro w hSw; (try dsimp only at hSw); go_simp; try with_reducible rfl)
    (try simp only [Act.put, List.setIfInBounds_toArray, List.set_cons_zero, List.set_cons_succ])
    refine Till.take (i := 4) (v := ?vt5) rfl (by kernel_rfl) (by kernel_rfl) (by kernel_rfl) (by kernel_rfl) (fun _ _ _ h => h) (Or.inl ⟨by rfl, ?ht5⟩) (by assumption) ?restt5
    case ht5 => (intro w hSw; (try dsimp only at hSw); go_simp; try with_reducible rfl)
    (try simp only [Act.put, List.setIfInBounds_toArray, List.set_cons_zero, List.set_cons_succ])
    refine Till.take (i := 5) (v := ?vt6) rfl (by kernel_rfl) (by kernel_rfl) (by kernel_rfl) (by kernel_rfl) (fun _ _ _ h => h) (Or.inl ⟨by rfl, ?ht6⟩) (by assumption) ?restt6
    case ht6 => (intro w hSw; (try dsimp only at hSw); go_simp; try with_reducible rfl)
    (try simp only [Act.put, List.setIfInBounds_toArray, List.set_cons_zero, List.set_cons_succ])
    refine Till.take (i := 6) (v := ?vt7) rfl (by kernel_rfl) (by kernel_rfl) (by kernel_rfl) (by kernel_rfl) (fun _ _ _ h => h) (Or.inl ⟨by rfl, ?ht7⟩) (by assumption) ?restt7
    case ht7 => (intro w hSw; (try dsimp only at hSw); go_simp; try with_reducible rfl)
    (try simp only [Act.put, List.setIfInBounds_toArray, List.set_cons_zero, List.set_cons_succ])
    refine Till.ready (rs := [7]) (by kernel_rfl) (by simp) ?_
    refine TillEach.cons rfl (fun K hK => ?_) ?_
    · go_simp
      refine (HOF.out k _ hlt (HJ.out k wB _ HJk.out (Below.refl _ _).drew) HOk.out.drew).mono ?_
      rintro e w2 ⟨rfl, hj2, ho2⟩
      have HF2 := Lib.hid (HFk.out.drew.only ho2 HF.out)
      have HO2 := Lib.hid (HOk.out.drew.trans ho2)
      have HJ2 := Lib.hid hj2
      have hs2 : w.heap.size ≤ w2.heap.size := HO2.out.size
      clear hj2 ho2
      refine hK.out _ _ ?_ (fun hHeld => ?_)
      · exact HF2.out.f1
      clear hK K
      (try simp only [Act.put, List.setIfInBounds_toArray, List.set_cons_zero, List.set_cons_succ])
      refine Till.ready (rs := [8]) (by kernel_rfl) (by simp) ?_
      refine TillEach.cons rfl (fun K hK => ?_) ?_
      · go_simp
        refine hK.out _ _ ?_ (fun hHeld => ?_)
        · exact (HF2.out.alloc _).f1
        clear hK K
        (try simp only [Act.put, List.setIfInBounds_toArray, List.set_cons_zero, List.set_cons_succ])
        refine Till.ready (rs := [9]) (by kernel_rfl) (by simp) ?_
        refine TillEach.cons rfl (fun K hK => ?_) ?_
        · refine step_append_sl _ (by rfl) (.tmp 26) (.tmp 30) _ (by rfl) w.heap.size 3 i0 _ 1 8 Try.underlying25 hi0 hz0 hz1 hz2 rfl (by omega) (.slice A k c) k ((List.range k).flatMap fun i => cellsI (V i)) (by rfl) (HF2.out.alloc _).r (w2.heap.size + 1) (some ⟨w2.heap.size, 0, none⟩) 1 1 (cellsI (V k)) (by rfl) (reads_newN _ _ _ 1 1 rfl rfl) (by simp [cellsI, Value.oneCell']) (by simp only [maxLen]; omega) (by omega) (by rw [World.size_alloc]; omega) ?_
          intro A5 c5 w5 hown5 hg5 hat5
          obtain ⟨z0, z1, z2⟩ := (HF2.out.alloc _).grownc hg5 (HF2.out.rowne (by decide))
          have HFN := Lib.hid ((HF2.out.alloc _).put (by decide) hg5 hown5)
          have HBN := Lib.hid ((((Below.refl w.heap.size w2).alloc hs2 _).grown hg5 (by rw [World.size_alloc]; omega) (fun x hx => (HF2.out.r.lt x hx).1)).setCell (p := ⟨gf, 1, none⟩) HFk.out.g0 (.slice A5 (k + 1) c5))
          clear hown5 hg5 hat5
          refine hK.out _ _ ?_ (fun hHeld => ?_)
          · exact z1
          clear hK K
          (try simp only [Act.put, List.setIfInBounds_toArray, List.set_cons_zero, List.set_cons_succ])
          refine Till.ready (rs := [10]) (by kernel_rfl) (by simp) ?_
          refine TillEach.cons rfl (fun K hK => ?_) ?_
          · go_simp
            refine hK.out _ _ ?_ (fun hHeld => ?_)
            · exact z1
            clear hK K
            (try simp only [Act.put, List.setIfInBounds_toArray, List.set_cons_zero, List.set_cons_succ])
            refine Till.take (i := 11) (v := ?vt8) rfl (by kernel_rfl) (by kernel_rfl) (by kernel_rfl) (by kernel_rfl) (fun _ _ _ h => h) (Or.inl ⟨by rfl, ?ht8⟩) (by assumption) ?restt8
            case ht8 => (intro w hSw; (try dsimp only at hSw); go_simp; try with_reducible rfl)
            (try simp only [Act.put, List.setIfInBounds_toArray, List.set_cons_zero, List.set_cons_succ])
            refine Till.ready (rs := [12]) (by kernel_rfl) (by simp) ?_
            refine TillEach.last rfl (fun K hK => ?_)
            · go_simp
              refine hK.out _ _ ?_
              clear hK K
              (try simp only [Act.put, List.setIfInBounds_toArray, List.set_cons_zero, List.set_cons_succ])
              refine Till.done (by kernel_rfl) ?_ _
              go_wp2_with fail
              exact ⟨⟨k + 1, A5, c5, by omega, by go_num, Lib.hid (flat_succ (fun i => cellsI (V i)) k ▸ HFN.out), Lib.hid (HJ.out _ _ _ HJ2.out HBN.out), Lib.hid (HO2.out.then_ HBN.out)⟩, by simp [intOf]; omega⟩
          exact TillEach.nil
        exact TillEach.nil
      exact TillEach.nil
    exact TillEach.nil

end Go.Proofs.Ytdpgbccgngdapaa
