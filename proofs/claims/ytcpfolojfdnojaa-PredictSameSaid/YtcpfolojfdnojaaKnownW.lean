/- PredictKnown, walked. -/
import Derived.Test.YtcpfolojfdnojaaKnC
import Derived.Test.YtcpfolojfdnojaaKnRefW
import Derived.Test.YtcpfolojfdnojaaWake28
namespace Go.Proofs.Ytcpfolojfdnojaa
open Go.RowKit

set_option linter.unusedSimpArgs false
set_option linter.unusedVariables false
structure KAt (w : World) (g m : Nat) (T : List Tri) : Prop where
  b : Blk w g 32 (arr m (known T))
theorem KAt.below {w w' : World} {g m : Nat} {T : List Tri} (h : KAt w g m T) (hb : Below w.heap.size w w') : KAt w' g m T := ⟨blk_call h.b hb⟩
theorem KAt.drew {w : World} {g m : Nat} {T : List Tri} (h : KAt w g m T) : KAt w.drew g m T := ⟨h.b⟩
theorem KAt.drewN {w : World} {g m : Nat} {T : List Tri} (h : KAt w g m T) (n : Nat) : KAt (w.drewN n) g m T := ⟨h.b⟩
theorem AOwn.drewN {w : World} {B c k : Nat} {A : Option Addr} {f : Nat → Ar} (h : AOwn w B A c k f) (n : Nat) : AOwn (w.drewN n) B A c k f := h
theorem bw_drewN {a w : World} (h : Below a.heap.size a w) (n : Nat) : Below a.heap.size a (w.drewN n) := below_drewN h n
theorem KAt.fld_ {w : World} {g m : Nat} {T : List Tri} (h : KAt w g m T) {v j : Nat} (hv : v < m) (hj : j < 5) : w.cell? ⟨g, v * 5 + j, none⟩ = some (.int .i64 (fld (known T v) j)) := blk_fld h.b hv hj
theorem AOwn.cell {w : World} {B c k : Nat} {A : Option Addr} {f : Nat → Ar} (h : AOwn w B A c k f) (hk : 0 < k) : ∃ g, A = some ⟨g, 0, none⟩ ∧ ∀ v j, v < k → j < 5 → w.cell? ⟨g, v * 5 + j, none⟩ = some (.int .i64 (fld (f v) j)) := by
  obtain ⟨g, cap, hv, _, hlt⟩ := World.ownsRow.form h hk
  have hA : A = some ⟨g, 0, none⟩ := by injection hv
  subst hA
  refine ⟨g, rfl, fun v j hv hj => ?_⟩
  have h1 := World.ownsRow.cells h (g := g) rfl (v * 5 + j) _ (arL_at hv hj)
  have h2 : (⟨g, 0, none⟩ : Addr).add (v * 5 + j) = ⟨g, v * 5 + j, none⟩ := by
    unfold Addr.add
    split <;> simp_all
  rwa [h2] at h1
theorem run_ne_rar (a b c d x : Int) (w : World) : (binOp .neq 31 (.agg #[.int .i64 a, .int .i64 b, .int .i64 c, .int .i64 d, .int .i64 x]) (.agg #[.int .i64 a, .int .i64 b, .int .i64 c, .int .i64 d, .int .i64 x])).run Try.prog w = .ok (.bool false) w := by
  rw [run_neq_struct]
  show ((Op.equalIn (9997 + 1 + 1 + 1) _ _ _).run _ _).andThen _ = _
  unfold Op.equalIn
  simp [go_sem, Try.underlying3, Result.andThen, List.range']
theorem known_no (N : Int) (A : Option Addr) (n c : Nat) (T : List Tri) (w : World) (hn : n ≤ 1000) (ht : TrisAt w w.heap.size A n T) (hx : checkR N T ≠ (0, 0, 0)) :
    Calls Try.prog 11 #[.agg #[.int .i64 N, .slice A n c]] w (fun e w' => e = .returned (.slice none 0 0) ∧ Below w.heap.size w w') :=
  (known_any N A n c T w hn ht).mono fun e w' h => by
    rcases h with ⟨_, h1, h2⟩ | ⟨m, g, _, h1, _⟩
    · exact ⟨h1, h2⟩
    · exact absurd h1 hx
theorem known_yes (m : Nat) (A : Option Addr) (n c : Nat) (T : List Tri) (w : World) (hn : n ≤ 1000) (ht : TrisAt w w.heap.size A n T) (hx : checkR (m : Int) T = (0, 0, 0)) :
    Calls Try.prog 11 #[.agg #[.int .i64 (m : Int), .slice A n c]] w (fun e w' => ∃ g, e = .returned (.slice (some ⟨g, 0, none⟩) m m) ∧ KAt w' g m T ∧ Below w.heap.size w w') :=
  (known_any (m : Int) A n c T w hn ht).mono fun e w' h => by
    rcases h with ⟨h1, _⟩ | ⟨m', g, hm, _, he, _, hk, hb⟩
    · exact absurd hx h1
    · obtain rfl : m = m' := by omega
      exact ⟨g, he, ⟨hk⟩, hb⟩
theorem knRef_no (N : Int) (A : Option Addr) (n c : Nat) (T : List Tri) (w : World) (hn : n ≤ 1000) (ht : TrisAt w w.heap.size A n T) (hx : checkR N T ≠ (0, 0, 0)) :
    Calls Try.prog 12 #[.agg #[.int .i64 N, .slice A n c]] w (fun e w' => e = .returned (.slice none 0 0) ∧ Below w.heap.size w w') :=
  (knRef_any N A n c T w hn ht).mono fun e w' h => by
    rcases h with ⟨_, h1, h2⟩ | ⟨m, A', c', _, h1, _⟩
    · exact ⟨h1, h2⟩
    · exact absurd h1 hx
theorem AOwn.base {w : World} {B B' c k : Nat} {A : Option Addr} {f : Nat → Ar} (h : AOwn w B A c k f) (hB : B' ≤ B) : AOwn w B' A c k f := by
  refine ⟨h.1, ?_⟩
  rcases h.2 with h1 | ⟨g, cap, cur, h1, h2, h3, h4⟩
  · exact .inl h1
  · exact .inr ⟨g, cap, cur, h1, by omega, h3, h4⟩
theorem knRef_yes (m : Nat) (A : Option Addr) (n c : Nat) (T : List Tri) (w : World) (hn : n ≤ 1000) (ht : TrisAt w w.heap.size A n T) (hx : checkR (m : Int) T = (0, 0, 0)) :
    Calls Try.prog 12 #[.agg #[.int .i64 (m : Int), .slice A n c]] w (fun e w' => ∃ A' c', e = .returned (.slice A' m c') ∧ (∀ B, B ≤ w.heap.size → AOwn w' B A' c' m (known T)) ∧ Below w.heap.size w w') :=
  (knRef_any (m : Int) A n c T w hn ht).mono fun e w' h => by
    rcases h with ⟨h1, _⟩ | ⟨m', A', c', hm, _, he, hk, hb⟩
    · exact absurd hx h1
    · obtain rfl : m = m' := by omega
      exact ⟨A', c', he, fun B hB => hk.base hB, hb⟩
attribute [local irreducible] Blk LRow World.alloc World.setCell World.cell? World.frozen? MapV AOwn
set_option maxRecDepth 100000 in
set_option maxHeartbeats 8000000 in
theorem knownLaw_any (N : Int) (A : Option Addr) (n c : Nat) (T : List Tri) (w : World) (ht : TrisAt w w.heap.size A n T) :
    Calls Try.prog 3 #[.agg #[.int .i64 N, .slice A n c]] w (BoolPost w true) := by
  obtain rfl : n = T.length := ht.len.symm
  have HT := Lib.hid ht
  clear ht
  obtain ⟨w0, hw0⟩ : ∃ u : World, u = w := ⟨_, rfl⟩
  have HBZ : Hid (∀ W : World, Below w.heap.size w W → w0.heap.size ≤ W.heap.size) := Lib.hid fun W h => by rw [hw0]; exact h.size
  obtain ⟨V, hV⟩ : ∃ V, V = w.alloc (.cells #[.int .i64 N, .slice A T.length c] 24) := ⟨_, rfl⟩
  have GA0 : Hid (Blk V w.heap.size 24 #[.int .i64 N, .slice A T.length c]) := by subst hV; exact Lib.hid (Blk.new _ _ _)
  have HB0 : Hid (Below w.heap.size w V) := by subst hV; exact Lib.hid (bw_alloc (Below.refl _ _) _)
  clear hw0
  go_enter Try.func3, Try.ntmps3
  go_upto_region 1 with (fail)
  rw [← hV]
  clear hV
  obtain ⟨ga, hga⟩ : ∃ g, g = w.heap.size := ⟨_, rfl⟩
  rw [← hga] at GA0
  simp only [← hga]
  clear hga
  go_wp2_with fail
  refine (awake_any _).mono ?_
  rintro e w1 ⟨rfl, hb⟩
  have GAw1 := Lib.hid (blk_call GA0.out hb)
  have HBw1 := Lib.hid (bw_call HB0.out hb)
  clear hb HB0 GA0
  obtain ⟨s0, s1, _, _, _⟩ := soup_facts GAw1.out
  by_cases hT40 : 40 < T.length
  · have hT40' : (40 : Int) < (T.length : Int) := by omega
    go_wp2_with fail
    go_ret
    exact ⟨rfl, HBw1.out⟩
  have hT40' : ¬ (40 : Int) < (T.length : Int) := by omega
  by_cases hN200 : 200 < N
  · go_wp2_with fail
    go_ret
    exact ⟨rfl, HBw1.out⟩
  go_upto_region 5 with (fail)
  clear s0 s1
  by_cases hck : checkR N T = (0, 0, 0)
  rotate_left
  · have HK1 : Hid (∀ (W : World), Below w.heap.size w W → Calls Try.prog 11 #[.agg #[.int .i64 N, .slice A T.length c]] W (fun e w' => e = .returned (.slice none 0 0) ∧ Below W.heap.size W w')) := Lib.hid fun W h => known_no N A T.length c T W (by omega) ((HT.out.below h).more h.size) hck
    have HK2 : Hid (∀ (W : World), Below w.heap.size w W → Calls Try.prog 12 #[.agg #[.int .i64 N, .slice A T.length c]] W (fun e w' => e = .returned (.slice none 0 0) ∧ Below W.heap.size W w')) := Lib.hid fun W h => knRef_no N A T.length c T W (by omega) ((HT.out.below h).more h.size) hck
    clear hck
    refine wp_region_till (S := fun w' => w'.cell? ⟨ga, 0, none⟩ = some (.int .i64 N) ∧ w'.cell? ⟨ga, 1, none⟩ = some (.slice A T.length c)) 5 (by kernel_rfl) ⟨(soup_facts GAw1.out.drew).1, (soup_facts GAw1.out.drew).2.1⟩ (fun hHeld => ?_)
    refine Till.take (i := 0) (v := ?vt1) rfl (by kernel_rfl) (by kernel_rfl) (by kernel_rfl) (by kernel_rfl) (fun _ _ _ h => h) (Or.inl ⟨by rfl, ?ht1⟩) (by assumption) ?restt1
    case ht1 => (intro w hSw; (try dsimp only at hSw); go_simp; try with_reducible rfl)
    (try simp only [Act.put, List.setIfInBounds_toArray, List.set_cons_zero, List.set_cons_succ])
    refine Till.take (i := 2) (v := ?vt2) rfl (by kernel_rfl) (by kernel_rfl) (by kernel_rfl) (by kernel_rfl) (fun _ _ _ h => h) (Or.inl ⟨by rfl, ?ht2⟩) (by assumption) ?restt2
    case ht2 => (intro w hSw; (try dsimp only at hSw); go_simp; try with_reducible rfl)
    (try simp only [Act.put, List.setIfInBounds_toArray, List.set_cons_zero, List.set_cons_succ])
    refine Till.ready (rs := [1]) (by kernel_rfl) (by simp) ?_
    refine TillEach.cons rfl (fun K hK => ?_) ?_
    · go_simp
      go_wp2_with (go_at_call 11; refine (HK1.out w1.drew (bw_drew HBw1.out)).mono ?_; rintro e v3 ⟨rfl, hb⟩)
      have GAv3 := Lib.hid (blk_call GAw1.out.drew hb)
      have HBv3 := Lib.hid (bw_call (bw_drew HBw1.out) hb)
      clear hb
      refine hK.out _ _ ?_ (fun hHeld => ?_)
      · exact ⟨(soup_facts GAv3.out).1, (soup_facts GAv3.out).2.1⟩
      clear hK K
      (try simp only [Act.put, List.setIfInBounds_toArray, List.set_cons_zero, List.set_cons_succ])
      refine Till.ready (rs := [3]) (by kernel_rfl) (by simp) ?_
      refine TillEach.cons rfl (fun K hK => ?_) ?_
      · go_simp
        go_wp2_with (go_at_call 12; refine (HK2.out v3 HBv3.out).mono ?_; rintro e v4 ⟨rfl, hb⟩)
        have GAv4 := Lib.hid (blk_call GAv3.out hb)
        have HBv4 := Lib.hid (bw_call HBv3.out hb)
        clear hb GAv3 HBv3
        refine hK.out _ _ ?_ (fun hHeld => ?_)
        · exact ⟨(soup_facts GAv4.out).1, (soup_facts GAv4.out).2.1⟩
        clear hK K
        (try simp only [Act.put, List.setIfInBounds_toArray, List.set_cons_zero, List.set_cons_succ])
        refine Till.take (i := 4) (v := ?vt3) rfl (by kernel_rfl) (by kernel_rfl) (by kernel_rfl) (by kernel_rfl) (fun _ _ _ h => h) (Or.inl ⟨by rfl, ?ht3⟩) (by assumption) ?restt3
        case ht3 => (intro w hSw; (try dsimp only at hSw); go_simp; try with_reducible rfl)
        (try simp only [Act.put, List.setIfInBounds_toArray, List.set_cons_zero, List.set_cons_succ])
        refine Till.ready (rs := [5]) (by kernel_rfl) (by simp) ?_
        refine TillEach.last rfl (fun K hK => ?_)
        · go_simp
          refine hK.out _ _ ?_
          clear hK K
          (try simp only [Act.put, List.setIfInBounds_toArray, List.set_cons_zero, List.set_cons_succ])
          refine Till.done (by kernel_rfl) ?_ _
          go_wp2_with fail
          go_loopw [5] (fun iv wr => iv = .int .i64 0 ∧ Hid (Below w.heap.size w wr)) (fun iv _ => 0)
          case atStart => exact ⟨rfl, HBv4⟩
          case round =>
            obtain ⟨rfl, HBr⟩ := hrel
            obtain ⟨wB, hwB⟩ : ∃ wB : World, wB = wr := ⟨_, rfl⟩
            rw [← hwB] at HBr ⊢
            clear hwB HBv4
            go_wp2_with fail
            go_ret
            exact ⟨rfl, HBr.out⟩
      exact TillEach.nil
    exact TillEach.nil
  obtain ⟨m, rfl, hse⟩ := chk_iff.1 hck
  have hm1 : m ≤ 4096 := hse.m1
  clear hse
  have HK1 : Hid (∀ (W : World), Below w.heap.size w W → Calls Try.prog 11 #[.agg #[.int .i64 (m : Int), .slice A T.length c]] W (fun e w' => ∃ g, e = .returned (.slice (some ⟨g, 0, none⟩) m m) ∧ KAt w' g m T ∧ Below W.heap.size W w')) := Lib.hid fun W h => known_yes m A T.length c T W (by omega) ((HT.out.below h).more h.size) hck
  have HK2 : Hid (∀ (W : World), Below w.heap.size w W → Calls Try.prog 12 #[.agg #[.int .i64 (m : Int), .slice A T.length c]] W (fun e w' => ∃ A' c', e = .returned (.slice A' m c') ∧ (∀ B, B ≤ W.heap.size → AOwn w' B A' c' m (known T)) ∧ Below W.heap.size W w')) := Lib.hid fun W h => knRef_yes m A T.length c T W (by omega) ((HT.out.below h).more h.size) hck
  clear hck
  refine wp_region_till (S := fun w' => w'.cell? ⟨ga, 0, none⟩ = some (.int .i64 (m : Int)) ∧ w'.cell? ⟨ga, 1, none⟩ = some (.slice A T.length c)) 5 (by kernel_rfl) ⟨(soup_facts GAw1.out.drew).1, (soup_facts GAw1.out.drew).2.1⟩ (fun hHeld => ?_)
  refine Till.take (i := 0) (v := ?vt4) rfl (by kernel_rfl) (by kernel_rfl) (by kernel_rfl) (by kernel_rfl) (fun _ _ _ h => h) (Or.inl ⟨by rfl, ?ht4⟩) (by assumption) ?restt4
  case ht4 => (intro w hSw; (try dsimp only at hSw); go_simp; try with_reducible rfl)
  (try simp only [Act.put, List.setIfInBounds_toArray, List.set_cons_zero, List.set_cons_succ])
  refine Till.take (i := 2) (v := ?vt5) rfl (by kernel_rfl) (by kernel_rfl) (by kernel_rfl) (by kernel_rfl) (fun _ _ _ h => h) (Or.inl ⟨by rfl, ?ht5⟩) (by assumption) ?restt5
  case ht5 => (intro w hSw; (try dsimp only at hSw); go_simp; try with_reducible rfl)
  (try simp only [Act.put, List.setIfInBounds_toArray, List.set_cons_zero, List.set_cons_succ])
  refine Till.ready (rs := [1]) (by kernel_rfl) (by simp) ?_
  refine TillEach.cons rfl (fun K hK => ?_) ?_
  · go_simp
    go_wp2_with (go_at_call 11; refine (HK1.out w1.drew (bw_drew HBw1.out)).mono ?_; rintro e v3 ⟨g1, rfl, hk1, hb⟩)
    have GAv3 := Lib.hid (blk_call GAw1.out.drew hb)
    have KAv3 : Hid (KAt v3 g1 m T) := Lib.hid (hk1)
    have HBv3 := Lib.hid (bw_call (bw_drew HBw1.out) hb)
    clear hb
    refine hK.out _ _ ?_ (fun hHeld => ?_)
    · exact ⟨(soup_facts GAv3.out).1, (soup_facts GAv3.out).2.1⟩
    clear hK K
    (try simp only [Act.put, List.setIfInBounds_toArray, List.set_cons_zero, List.set_cons_succ])
    refine Till.ready (rs := [3]) (by kernel_rfl) (by simp) ?_
    refine TillEach.cons rfl (fun K hK => ?_) ?_
    · go_simp
      go_wp2_with (go_at_call 12; refine (HK2.out v3 HBv3.out).mono ?_; rintro e v4 ⟨A2, c2, rfl, hk2, hb⟩)
      have GAv4 := Lib.hid (blk_call GAv3.out hb)
      have KAv4 := Lib.hid (KAv3.out.below hb)
      have HOv4 : Hid (AOwn v4 w0.heap.size A2 c2 m (known T)) := Lib.hid (hk2 _ (HBZ.out _ HBv3.out))
      have HBv4 := Lib.hid (bw_call HBv3.out hb)
      clear hb GAv3 KAv3 HBv3
      refine hK.out _ _ ?_ (fun hHeld => ?_)
      · exact ⟨(soup_facts GAv4.out).1, (soup_facts GAv4.out).2.1⟩
      clear hK K
      (try simp only [Act.put, List.setIfInBounds_toArray, List.set_cons_zero, List.set_cons_succ])
      refine Till.take (i := 4) (v := ?vt6) rfl (by kernel_rfl) (by kernel_rfl) (by kernel_rfl) (by kernel_rfl) (fun _ _ _ h => h) (Or.inl ⟨by rfl, ?ht6⟩) (by assumption) ?restt6
      case ht6 => (intro w hSw; (try dsimp only at hSw); go_simp; try with_reducible rfl)
      (try simp only [Act.put, List.setIfInBounds_toArray, List.set_cons_zero, List.set_cons_succ])
      refine Till.ready (rs := [5]) (by kernel_rfl) (by simp) ?_
      refine TillEach.last rfl (fun K hK => ?_)
      · go_simp
        refine hK.out _ _ ?_
        clear hK K
        (try simp only [Act.put, List.setIfInBounds_toArray, List.set_cons_zero, List.set_cons_succ])
        refine Till.done (by kernel_rfl) ?_ _
        go_wp2_with fail
        go_loopw [5] (fun iv wr => ∃ k : Nat, k ≤ m ∧ iv = .int .i64 k ∧ Hid (KAt wr g1 m T) ∧ Hid (AOwn wr w0.heap.size A2 c2 m (known T)) ∧ Hid (Below w.heap.size w wr)) (fun iv _ => m - (intOf iv).toNat)
        case atStart => exact ⟨0, by omega, rfl, KAv4, HOv4, HBv4⟩
        case round =>
          obtain ⟨k, hk, rfl, KAk, HOk, HBk⟩ := hrel
          obtain ⟨wB, hwB⟩ : ∃ wB : World, wB = wr := ⟨_, rfl⟩
          rw [← hwB] at KAk HOk HBk ⊢
          clear hwB KAv4 HOv4 HBv4
          by_cases hlt : k < m
          · have hki : (k : Int) < (m : Int) := by omega
            have e0 := KAk.out.fld_ hlt (j := 0) (by omega)
            have e1 := KAk.out.fld_ hlt (j := 1) (by omega)
            have e2 := KAk.out.fld_ hlt (j := 2) (by omega)
            have e3 := KAk.out.fld_ hlt (j := 3) (by omega)
            have e4 := KAk.out.fld_ hlt (j := 4) (by omega)
            obtain ⟨g2, rfl, hc2⟩ := HOk.out.cell (by omega)
            have f0 := hc2 k 0 hlt (by omega)
            have f1 := hc2 k 1 hlt (by omega)
            have f2 := hc2 k 2 hlt (by omega)
            have f3 := hc2 k 3 hlt (by omega)
            have f4 := hc2 k 4 hlt (by omega)
            rw [Nat.add_zero] at e0 f0
            clear hc2
            generalize fld (known T k) 0 = x0 at *
            generalize fld (known T k) 1 = x1 at *
            generalize fld (known T k) 2 = x2 at *
            generalize fld (known T k) 3 = x3 at *
            generalize fld (known T k) 4 = x4 at *
            have hne := run_ne_rar x0 x1 x2 x3 x4
            go_upto_region 11 with (fail)
            go_quiet (fail)
            go_wp2_with fail
            exact ⟨⟨k + 1, by omega, by go_num, Lib.hid (KAt.drewN KAk.out _), Lib.hid (AOwn.drewN HOk.out _), Lib.hid (bw_drewN HBk.out _)⟩, by simp [intOf]; omega⟩
          · obtain rfl : k = m := by omega
            go_wp2_with fail
            go_ret
            exact ⟨rfl, HBk.out⟩
    exact TillEach.nil
  exact TillEach.nil
end Go.Proofs.Ytcpfolojfdnojaa
