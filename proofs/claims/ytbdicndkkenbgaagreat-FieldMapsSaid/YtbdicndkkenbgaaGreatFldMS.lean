/- field.Map, walked: against whatever closure. No condition but sizes. -/
import Derived.Test.YtbdicndkkenbgaaGreatFldMI
namespace Go.Proofs.YtbdicndkkenbgaaGreat
open Go.RowKit

set_option linter.unusedSimpArgs false
set_option linter.unusedVariables false
def cellsS (x : ByteArray) : List Value := [.string x]
theorem infoS : (Tryz.prog.info? 9).map (fun i => (i.zero, i.size, i.bytes)) = some (some (.string ⟨#[]⟩), 1, 16) := by kernel_rfl
theorem run_nilfS_no (kf : Nat) (lb : Array Value) (w : World) : (binOp .eql 63 (.func (.func kf) #[] lb) Value.nilFunc).run Tryz.prog w = .ok (.bool false) w := by kernel_rfl
attribute [local irreducible] Blk LRow World.alloc World.setCell World.cell? World.frozen? MapV
set_option maxRecDepth 100000 in
set_option maxHeartbeats 8000000 in
theorem mapS_any (kf : Nat) (lb : Array Value) (heg : ∀ args w, (callFunc kf args).run Tryz.prog w = .ok (.enter kf args) w) (gf g n B : Nat) (A : Option Addr) (c : Nat) (V : Nat → Int) (U : Nat → ByteArray) (F : Nat → Prop) (J : Nat → World → Prop) (w : World) (hn : n ≤ 100000)
    (hsrc : ∀ W, Only F w W → FAt W 91 3 1 B gf g A c n ((List.range n).flatMap fun i => cellsI (V i)))
    (hF : ∀ k, F k → k < w.heap.size) (hJ : ∀ c W W', J c W → Below w.heap.size W W' → J c W') (h0 : J 0 w) (hof : OfM kf lb F J w n V fun c => (.string (U c))) :
    Calls Tryz.prog 38 #[.pointer (some ⟨gf, 0, none⟩), .func (.func kf) #[] lb] w (NewP 99 9 1 g n ((List.range n).flatMap fun i => cellsS (U i)) J F w) := by
  have HSRC := Lib.hid hsrc
  have HOF := Lib.hid hof
  have HJ := Lib.hid hJ
  have HF := Lib.hid hF
  clear hsrc hof hJ hF
  obtain ⟨i0, hi0, hz0, hz1, hz2⟩ := info_parts infoS
  obtain ⟨go, hgo⟩ : ∃ go, go = w.heap.size := ⟨_, rfl⟩
  obtain ⟨V0, hV0⟩ : ∃ V0, V0 = w.alloc (.cells #[.pointer (some ⟨g, 0, none⟩), .slice none 0 0] 99) := ⟨_, rfl⟩
  have HF0 : Hid (FAt V0 99 9 1 w.heap.size go g none 0 0 []) := by subst hgo hV0; exact Lib.hid ⟨Blk.new _ _ _, World.ownsRow_nil _ _ _ _, Nat.le_refl _⟩
  have HB0 : Hid (Below w.heap.size w V0) := by subst hV0; exact Lib.hid (bw_alloc (Below.refl _ _) _)
  have HJ0 := Lib.hid (HJ.out 0 w V0 h0 HB0.out)
  have HO0 : Hid (Only F w V0) := Lib.hid (Only.of_below HB0.out F)
  have f0 := (HSRC.out w (Only.refl _ _)).f0
  clear h0
  have hnf := run_nilfS_no kf lb
  go_enter Tryz.func38, Tryz.ntmps38
  go_upto_region 4 with (fail)
  rw [← hV0]
  clear hV0 f0
  simp only [← hgo]
  clear hgo
  have f1 := (HSRC.out V0 HO0.out).f1
  go_wp2_with fail
  clear f1
  go_loopw [25] (fun kv wr => ∃ (k : Nat) (Ar : Option Addr) (cr : Nat), k ≤ n ∧ kv = .int .i64 (k : Int) ∧ Hid (FAt wr 99 9 1 w.heap.size go g Ar cr k ((List.range k).flatMap fun i => cellsS (U i))) ∧ Hid (J k wr) ∧ Hid (Only F w wr)) (fun kv _ => n - (intOf kv).toNat)
  case atStart => exact ⟨0, none, 0, by omega, rfl, HF0, HJ0, HO0⟩
  case round =>
    obtain ⟨k, Ar, cr, hk, rfl, HFk, HJk, HOk⟩ := hrel
    by_cases hlt : k < n
    rotate_left
    · obtain rfl : k = n := by omega
      have hki : ¬ (k : Int) < (k : Int) := by omega
      go_wp2_with fail
      go_ret
      exact ⟨go, Ar, cr, rfl, HFk.out, HJk.out, HOk.out⟩
    have hki : (k : Int) < (n : Int) := by omega
    obtain ⟨wB, hwB⟩ : ∃ wB : World, wB = wr := ⟨_, rfl⟩
    rw [← hwB] at HFk HJk HOk ⊢
    clear hwB HF0 HJ0 HO0 HB0
    obtain ⟨ad, hA, hac⟩ := readCI ((flat_atI V hlt).1 ▸ (HSRC.out wB HOk.out).reads) (flat_atI V hlt).2
    subst hA
    go_upto_region 7 with (fail)
    clear hac
    refine wp_region_till (S := fun w' => w'.cell? ⟨go, 1, none⟩ = some (.slice Ar k cr)) 12 (by kernel_rfl) HFk.out.drew.f1 (fun hHeld => ?_)
    refine Till.take (i := 0) (v := ?vt1) rfl (by kernel_rfl) (by kernel_rfl) (by kernel_rfl) (by kernel_rfl) (fun _ _ _ h => h) (Or.inl ⟨by rfl, ?ht1⟩) (by assumption) ?restt1
    case ht1 => (intro w hSw; (try dsimp only at hSw); go_simp; try with_reducible rfl)
    (try simp only [Act.put, List.setIfInBounds_toArray, List.set_cons_zero, List.set_cons_succ])
    refine Till.take (i := 1) (v := ?vt2) rfl (by kernel_rfl) (by kernel_rfl) (by kernel_rfl) (by kernel_rfl) (fun _ _ _ h => h) (Or.inl ⟨by rfl, ?ht2⟩) (by assumption) ?restt2
    case ht2 => (intro w hSw; (try dsimp only at hSw); go_simp; try with_reducible rfl)
    (try simp only [Act.put, List.setIfInBounds_toArray, List.set_cons_zero, List.set_cons_succ])
    refine Till.take (i := 2) (v := ?vt3) rfl (by kernel_rfl) (by kernel_rfl) (by kernel_rfl) (by kernel_rfl) (fun _ _ _ h => h) (Or.inl ⟨by rfl, ?ht3⟩) (by assumption) ?restt3
    case ht3 => (intro w hSw; (try dsimp only at hSw); go_simp; try with_reducible rfl)
    (try simp only [Act.put, List.setIfInBounds_toArray, List.set_cons_zero, List.set_cons_succ])
    refine Till.take (i := 3) (v := ?vt4) rfl (by kernel_rfl) (by kernel_rfl) (by kernel_rfl) (by kernel_rfl) (fun _ _ _ h => h) (Or.inl ⟨by rfl, ?ht4⟩) (by assumption) ?restt4
    case ht4 => (intro w hSw; (try dsimp only at hSw); go_simp; try with_reducible rfl)
    (try simp only [Act.put, List.setIfInBounds_toArray, List.set_cons_zero, List.set_cons_succ])
    refine Till.take (i := 4) (v := ?vt5) rfl (by kernel_rfl) (by kernel_rfl) (by kernel_rfl) (by kernel_rfl) (fun _ _ _ h => h) (Or.inl ⟨by rfl, ?ht5⟩) (by assumption) ?restt5
    case ht5 => (intro w hSw; (try dsimp only at hSw); go_simp; try with_reducible rfl)
    (try simp only [Act.put, List.setIfInBounds_toArray, List.set_cons_zero, List.set_cons_succ])
    refine Till.take (i := 5) (v := ?vt6) rfl (by kernel_rfl) (by kernel_rfl) (by kernel_rfl) (by kernel_rfl) (fun _ _ _ h => h) (Or.inl ⟨by rfl, ?ht6⟩) (by assumption) ?restt6
    case ht6 => (intro w hSw; (try dsimp only at hSw); go_simp; try with_reducible rfl)
    (try simp only [Act.put, List.setIfInBounds_toArray, List.set_cons_zero, List.set_cons_succ])
    refine Till.take (i := 6) (v := ?vt7) rfl (by kernel_rfl) (by kernel_rfl) (by kernel_rfl) (by kernel_rfl) (fun _ _ _ h => h) (Or.inl ⟨by rfl, ?ht7⟩) (by assumption) ?restt7
    case ht7 => (intro w hSw; (try dsimp only at hSw); go_simp; try with_reducible rfl)
    (try simp only [Act.put, List.setIfInBounds_toArray, List.set_cons_zero, List.set_cons_succ])
    refine Till.ready (rs := [7]) (by kernel_rfl) (by simp) ?_
    refine TillEach.cons rfl (fun K hK => ?_) ?_
    · go_simp
      refine (HOF.out k _ hlt (HJ.out k wB _ HJk.out (Below.refl _ _).drew) HOk.out.drew).mono ?_
      rintro e w2 ⟨rfl, hj2, ho2⟩
      have HF2 := Lib.hid (HFk.out.drew.only ho2 HF.out)
      have HO2 := Lib.hid (HOk.out.drew.trans ho2)
      have HJ2 := Lib.hid hj2
      have hs2 : w.heap.size ≤ w2.heap.size := HO2.out.size
      clear hj2 ho2
      refine hK.out _ _ ?_ (fun hHeld => ?_)
      · exact HF2.out.f1
      clear hK K
      (try simp only [Act.put, List.setIfInBounds_toArray, List.set_cons_zero, List.set_cons_succ])
      refine Till.ready (rs := [8]) (by kernel_rfl) (by simp) ?_
      refine TillEach.cons rfl (fun K hK => ?_) ?_
      · go_simp
        refine hK.out _ _ ?_ (fun hHeld => ?_)
        · exact (HF2.out.alloc _).f1
        clear hK K
        (try simp only [Act.put, List.setIfInBounds_toArray, List.set_cons_zero, List.set_cons_succ])
        refine Till.ready (rs := [9]) (by kernel_rfl) (by simp) ?_
        refine TillEach.cons rfl (fun K hK => ?_) ?_
        · refine step_append_sl _ (by rfl) (.tmp 33) (.tmp 37) _ (by rfl) w.heap.size 9 i0 _ 1 16 Tryz.underlying97 hi0 hz0 hz1 hz2 rfl (by omega) (.slice Ar k cr) k ((List.range k).flatMap fun i => cellsS (U i)) (by rfl) (HF2.out.alloc _).r (w2.heap.size + 1) (some ⟨w2.heap.size, 0, none⟩) 1 1 (cellsS (U k)) (by rfl) (reads_newN _ _ _ 1 1 rfl rfl) (by simp [cellsS, Value.oneCell']) (by simp only [maxLen]; omega) (by omega) (by rw [World.size_alloc]; omega) ?_
          intro A5 c5 w5 hown5 hg5 hat5
          obtain ⟨z0, z1, z2⟩ := (HF2.out.alloc _).grownc hg5 (HF2.out.rowne (by decide))
          have HFN := Lib.hid ((HF2.out.alloc _).put (by decide) hg5 hown5)
          have HBN := Lib.hid ((((Below.refl w.heap.size w2).alloc hs2 _).grown hg5 (by rw [World.size_alloc]; omega) (fun x hx => (HF2.out.r.lt x hx).1)).setCell (p := ⟨go, 1, none⟩) HFk.out.g0 (.slice A5 (k + 1) c5))
          clear hown5 hg5 hat5
          refine hK.out _ _ ?_ (fun hHeld => ?_)
          · exact z1
          clear hK K
          (try simp only [Act.put, List.setIfInBounds_toArray, List.set_cons_zero, List.set_cons_succ])
          refine Till.ready (rs := [10]) (by kernel_rfl) (by simp) ?_
          refine TillEach.cons rfl (fun K hK => ?_) ?_
          · go_simp
            refine hK.out _ _ ?_ (fun hHeld => ?_)
            · exact z1
            clear hK K
            (try simp only [Act.put, List.setIfInBounds_toArray, List.set_cons_zero, List.set_cons_succ])
            refine Till.take (i := 11) (v := ?vt8) rfl (by kernel_rfl) (by kernel_rfl) (by kernel_rfl) (by kernel_rfl) (fun _ _ _ h => h) (Or.inl ⟨by rfl, ?ht8⟩) (by assumption) ?restt8
            case ht8 => (intro w hSw; (try dsimp only at hSw); go_simp; try with_reducible rfl)
            (try simp only [Act.put, List.setIfInBounds_toArray, List.set_cons_zero, List.set_cons_succ])
            refine Till.ready (rs := [12]) (by kernel_rfl) (by simp) ?_
            refine TillEach.last rfl (fun K hK => ?_)
            · go_simp
              refine hK.out _ _ ?_
              clear hK K
              (try simp only [Act.put, List.setIfInBounds_toArray, List.set_cons_zero, List.set_cons_succ])
              refine Till.done (by kernel_rfl) ?_ _
              go_wp2_with fail
              exact ⟨⟨k + 1, A5, c5, by omega, by go_num, Lib.hid (flat_succ (fun i => cellsS (U i)) k ▸ HFN.out), Lib.hid (HJ.out _ _ _ HJ2.out HBN.out), Lib.hid (HO2.out.then_ HBN.out)⟩, by simp [intOf]; omega⟩
          exact TillEach.nil
        exact TillEach.nil
      exact TillEach.nil
    exact TillEach.nil

end Go.Proofs.YtbdicndkkenbgaaGreat
