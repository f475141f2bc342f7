/- PredictSame, walked. -/
import Derived.Test.YtcpfolojfdnojaaKnownW
import Derived.Test.YtcpfolojfdnojaaKnTurn
import Derived.Test.YtcpfolojfdnojaaCopy15
namespace Go.Proofs.Ytcpfolojfdnojaa
open Go.RowKit

set_option linter.unusedSimpArgs false
set_option linter.unusedVariables false
theorem tri_setS {T : List Tri} {k : Nat} (hk : k < T.length) (x : Tri) (i : Nat) : tri (T.set k x) i = if i = k then x else tri T i := by
  unfold tri
  rw [List.getD_eq_getElem?_getD, List.getD_eq_getElem?_getD, List.getElem?_set]
  by_cases h : k = i
  · subst h
    rw [if_pos rfl, if_pos hk, if_pos rfl]
    rfl
  · rw [if_neg h, if_neg (fun e => h e.symm)]
theorem turn_rot (k : Nat) (t : Tri) : turnT k t = rotT k t := rfl
theorem rots_pick {T L : List Tri} (h : ∀ i, i < T.length → ∃ r, tri L i = rotT r (tri T i)) : ∃ k : Nat → Nat, (∀ i, k i < 3) ∧ ∀ i, i < T.length → tri L i = rotT (k i) (tri T i) := by
  have h1 : ∀ i, ∃ r, r < 3 ∧ (i < T.length → tri L i = rotT r (tri T i)) := fun i => by
    by_cases hi : i < T.length
    · obtain ⟨r, hr⟩ := h i hi
      by_cases h3 : r < 3
      · exact ⟨r, h3, fun _ => hr⟩
      · refine ⟨2, by omega, fun _ => ?_⟩
        rw [hr]
        unfold rotT
        rw [if_neg (by omega), if_neg (by omega), if_neg (by omega), if_neg (by omega)]
    · exact ⟨0, by omega, fun h => absurd h hi⟩
  exact ⟨fun i => Classical.choose (h1 i), fun i => (Classical.choose_spec (h1 i)).1, fun i hi => (Classical.choose_spec (h1 i)).2 hi⟩
theorem turn_step {T L : List Tri} {k : Nat} (hl : L.length = T.length) (hk : k < T.length) (h : ∀ i, i < T.length → ∃ r, tri L i = rotT r (tri T i)) (hu : tri L k = tri T k) (r : Nat) : ∀ i, i < T.length → ∃ r', tri (L.set k (rotT r (tri L k))) i = rotT r' (tri T i) := fun i hi => by
  rw [tri_setS (by omega)]
  by_cases e : i = k
  · subst e
    rw [if_pos rfl, hu]
    exact ⟨r, rfl⟩
  · rw [if_neg e]
    exact h i hi
theorem same_law {m : Nat} {T U : List Tri} (hs : SurfE m T) (hl : U.length = T.length) (h : ∀ i, i < T.length → ∃ r, tri U i = rotT r (tri T i)) : checkR (m : Int) U = (0, 0, 0) ∧ ∀ v, known U v = known T v := by
  obtain ⟨k, hk, hr⟩ := rots_pick h
  refine ⟨?_, known_phi hs hl hk hr⟩
  have h1 := alike_all (rots_alike hl k hr) (m : Int)
  have h2 : refAll (m : Int) U = [] := h1.trans (is_surf.2 ⟨m, rfl, hs⟩)
  unfold checkR
  rw [h2]
  rfl
theorem run_ne_arP (a b c d x : Int) (w : World) : (binOp .neq 32 (.agg #[.int .i64 a, .int .i64 b, .int .i64 c, .int .i64 d, .int .i64 x]) (.agg #[.int .i64 a, .int .i64 b, .int .i64 c, .int .i64 d, .int .i64 x])).run Try.prog w = .ok (.bool false) w := by
  rw [run_neq_struct]
  show ((Op.equalIn (9997 + 1 + 1 + 1) _ _ _).run _ _).andThen _ = _
  unfold Op.equalIn
  simp [go_sem, Try.underlying3, Result.andThen, List.range']
structure RT3 (w : World) (b k : Nat) (u : Tri) : Prop where
  c0 : w.cell? ⟨b, k * 3, none⟩ = some (.int .i64 u.a)
  c1 : w.cell? ⟨b, k * 3 + 1, none⟩ = some (.int .i64 u.b)
  c2 : w.cell? ⟨b, k * 3 + 2, none⟩ = some (.int .i64 u.c)
  lt : b < w.heap.size
theorem RT3.below {w w' : World} {b k : Nat} {u : Tri} (h : RT3 w b k u) (hb : Below w.heap.size w w') : RT3 w' b k u := ⟨(hb.cell (p := ⟨b, k * 3, none⟩) h.lt).trans h.c0, (hb.cell (p := ⟨b, k * 3 + 1, none⟩) h.lt).trans h.c1, (hb.cell (p := ⟨b, k * 3 + 2, none⟩) h.lt).trans h.c2, Nat.lt_of_lt_of_le h.lt hb.size⟩
theorem RT3.drew {w : World} {b k : Nat} {u : Tri} (h : RT3 w b k u) : RT3 w.drew b k u := ⟨h.c0, h.c1, h.c2, h.lt⟩
theorem LRow.rt3 {w : World} {B c b : Nat} {A : Option Addr} {L : List Tri} (h : LRow w B A c L) {k : Nat} (hk : k < L.length) : ∃ b, A = some ⟨b, 0, none⟩ ∧ B ≤ b ∧ RT3 w b k (tri L k) := by
  obtain ⟨b, hb, h1, h2, ⟨c0, c1, c2⟩, _⟩ := row_cells h (tri_at hk)
  exact ⟨b, hb, by omega, ⟨c0, c1, c2, by omega⟩⟩
theorem LRow.frz {w : World} {B c b : Nat} {L : List Tri} (h : LRow w B (some ⟨b, 0, none⟩) c L) : ∀ i, w.frozen? ⟨b, i, none⟩ = false := by
  obtain ⟨cs, hb⟩ := own_blk h (k := b) (by simp [Value.ownBlock])
  exact fun i => hb.frozen i
theorem soup_row_ne {w : World} {B c b g : Nat} {L : List Tri} {cs : Array Value} (h : LRow w B (some ⟨b, 0, none⟩) c L) (hg : Blk w g 24 cs) : g ≠ b := fun e => soup_tri_ne h hg b (by simp [Value.ownBlock]) e.symm
attribute [local irreducible] Blk LRow World.alloc World.setCell World.cell? World.frozen? MapV
set_option maxRecDepth 100000 in
set_option maxHeartbeats 8000000 in
theorem sameLaw_any (N : Int) (A : Option Addr) (n c : Nat) (T : List Tri) (Ab : Option Addr) (cb : Nat) (Y : List UInt8) (w : World) (ht : TrisAt w w.heap.size A n T) (hby : Reads w w.heap.size 1 Ab Y.length (B8 Y)) :
    Calls Try.prog 8 #[.agg #[.int .i64 N, .slice A n c], .slice Ab Y.length cb] w (BoolPost w true) := by
  obtain rfl : n = T.length := ht.len.symm
  have HT := Lib.hid ht
  have HY := Lib.hid hby
  clear ht hby
  obtain ⟨V, hV⟩ : ∃ V, V = w.alloc (.cells #[.int .i64 N, .slice A T.length c] 24) := ⟨_, rfl⟩
  have GA0 : Hid (Blk V w.heap.size 24 #[.int .i64 N, .slice A T.length c]) := by subst hV; exact Lib.hid (Blk.new _ _ _)
  have HB0 : Hid (Below w.heap.size w V) := by subst hV; exact Lib.hid (bw_alloc (Below.refl _ _) _)
  go_enter Try.func8, Try.ntmps8
  go_upto_region 1 with (fail)
  rw [← hV]
  clear hV
  obtain ⟨ga, hga⟩ : ∃ g, g = w.heap.size := ⟨_, rfl⟩
  rw [← hga] at GA0
  simp only [← hga]
  clear hga
  go_wp2_with fail
  refine (awake_any _).mono ?_
  rintro e w1 ⟨rfl, hb⟩
  have GA1 := Lib.hid (blk_call GA0.out hb)
  have HB1 := Lib.hid (bw_call HB0.out hb)
  clear hb HB0 GA0
  obtain ⟨s0, s1, _, _, _⟩ := soup_facts GA1.out
  by_cases hT40 : 40 < T.length
  · have hT40' : (40 : Int) < (T.length : Int) := by omega
    go_wp2_with fail
    go_ret
    exact ⟨rfl, HB1.out⟩
  have hT40' : ¬ (40 : Int) < (T.length : Int) := by omega
  go_wp2_with fail
  refine (is15_any N A c T w1 (by omega) ((HT.out.below HB1.out).more HB1.out.size)).mono ?_
  rintro e w2 ⟨rfl, hb⟩
  have GA2 := Lib.hid (blk_call GA1.out hb)
  have HB2 := Lib.hid (bw_call HB1.out hb)
  clear hb GA1 HB1 s0 s1
  by_cases hck : checkR N T = (0, 0, 0)
  rotate_left
  · rw [decide_eq_false hck]
    clear hck
    go_wp2_with fail
    go_ret
    exact ⟨rfl, HB2.out⟩
  rw [decide_eq_true hck]
  obtain ⟨m, rfl, hse⟩ := chk_iff.1 hck
  have HCK := Lib.hid hck
  have hm1 : m ≤ 4096 := hse.m1
  have HSE := Lib.hid hse
  clear hck hse
  obtain ⟨s0, s1, _, _, _⟩ := soup_facts GA2.out
  go_wp2_with fail
  refine (copy15_any (m : Int) A c T w2 (by omega) ((HT.out.below HB2.out).more HB2.out.size)).mono ?_
  rintro e w3 ⟨Ax, cx, rfl, hr, hb⟩
  have GA3 := Lib.hid (blk_call GA2.out hb)
  have HR3 : Hid (LRow w3 w.heap.size Ax cx T) := Lib.hid (hr.base HB2.out.size)
  have HB3 := Lib.hid (bw_call HB2.out hb)
  clear hb hr GA2 HB2 s0 s1
  obtain ⟨w4, hw4⟩ : ∃ W, W = w3.alloc (.cells #[.int .i64 (m : Int), .slice Ax T.length cx] 24) := ⟨_, rfl⟩
  have GX4 : Hid (Blk w4 w3.heap.size 24 #[.int .i64 (m : Int), .slice Ax T.length cx]) := by subst hw4; exact Lib.hid (Blk.new _ _ _)
  have GA4 : Hid (Blk w4 ga 24 #[.int .i64 (m : Int), .slice A T.length c]) := by subst hw4; exact Lib.hid (GA3.out.alloc _)
  have HR4 : Hid (LRow w4 w.heap.size Ax cx T) := by subst hw4; exact Lib.hid (HR3.out.alloc _)
  have HB4 : Hid (Below w.heap.size w w4) := by subst hw4; exact Lib.hid (bw_alloc HB3.out _)
  go_upto_region 6 with (fail)
  rw [← hw4]
  generalize w3.heap.size = gx at *
  clear hw4 GA3 HR3 HB3
  go_wp2_with fail
  go_loopw [6] (fun iv wr => ∃ (k : Nat) (X : List Tri), k ≤ T.length ∧ iv = .int .i64 k ∧ Hid (X.length = T.length) ∧ Hid (∀ i, i < T.length → ∃ r, tri X i = rotT r (tri T i)) ∧ Hid (∀ i, k ≤ i → i < T.length → tri X i = tri T i) ∧ Hid (LRow wr w.heap.size Ax cx X) ∧ Hid (Blk wr gx 24 #[.int .i64 (m : Int), .slice Ax T.length cx]) ∧ Hid (Blk wr ga 24 #[.int .i64 (m : Int), .slice A T.length c]) ∧ Hid (Below w.heap.size w wr)) (fun iv _ => T.length - (intOf iv).toNat)
  case atStart => exact ⟨0, T, by omega, rfl, Lib.hid rfl, Lib.hid (fun i _ => ⟨0, rfl⟩), Lib.hid (fun i _ _ => rfl), HR4, GX4, GA4, HB4⟩
  case round =>
    obtain ⟨k, X, hk, rfl, HXL, HT2, HE, HRwB, GXwB, GAwB, HBwB⟩ := hrel
    obtain ⟨wB, hwB⟩ : ∃ wB : World, wB = wr := ⟨_, rfl⟩
    rw [← hwB] at HRwB GXwB GAwB HBwB ⊢
    clear hwB HR4 GX4 GA4 HB4
    obtain ⟨s0, s1, _, _, _⟩ := soup_facts GXwB.out
    have hfin : ¬ (k < T.length ∧ k < Y.length) ∨ (k < T.length ∧ k < Y.length) := by omega
    rcases hfin with hno | ⟨hlt, hlty⟩
    · obtain ⟨wE, hwE⟩ : ∃ wE : World, wE = wB := ⟨_, rfl⟩
      have HRwE := HRwB
      have GXwE := GXwB
      have GAwE := GAwB
      have HBwE := HBwB
      rw [← hwE] at HRwE GXwE GAwE HBwE ⊢
      rw [← hwE] at s0 s1
      clear hwE HRwB GXwB GAwB HBwB HE
      by_cases hlt : k < T.length
      · have hlty : ¬ k < Y.length := fun h => hno ⟨hlt, h⟩
        have hki : (k : Int) < (T.length : Int) := by omega
        have hyi : ¬ (k : Int) < (Y.length : Int) := by omega
        clear hno
        have HLAW := Lib.hid (same_law HSE.out HXL.out HT2.out)
        have HCE : Hid (arr m (known X) = arr m (known T)) := Lib.hid (arr_congr fun v _ => HLAW.out.2 v)
        have HK1 : Hid (∀ (W : World), Below w.heap.size w W → Calls Try.prog 11 #[.agg #[.int .i64 (m : Int), .slice A T.length c]] W (fun e w' => ∃ g, e = .returned (.slice (some ⟨g, 0, none⟩) m m) ∧ KAt w' g m T ∧ Below W.heap.size W w')) := Lib.hid fun W h => known_yes m A T.length c T W (by omega) ((HT.out.below h).more h.size) HCK.out
        have HK2 : Hid (∀ (W : World), LRow W w.heap.size Ax cx X → Calls Try.prog 11 #[.agg #[.int .i64 (m : Int), .slice Ax T.length cx]] W (fun e w' => ∃ g, e = .returned (.slice (some ⟨g, 0, none⟩) m m) ∧ KAt w' g m T ∧ Below W.heap.size W w')) := Lib.hid fun W h => (known_yes m Ax T.length cx X W (by omega) (by have h1 := h.tris; rwa [HXL.out] at h1) HLAW.out.1).mono fun e w' h => by
          obtain ⟨g, h1, h2, h3⟩ := h
          exact ⟨g, h1, ⟨by have := h2.b; rwa [HCE.out] at this⟩, h3⟩
        clear HLAW HCE HT2 HXL HSE HY
        go_upto_region 10 with (fail)
        clear s0 s1
        refine wp_region_till (S := fun w' => w'.cell? ⟨ga, 0, none⟩ = some (.int .i64 (m : Int)) ∧ w'.cell? ⟨ga, 1, none⟩ = some (.slice A T.length c) ∧ w'.cell? ⟨gx, 0, none⟩ = some (.int .i64 (m : Int)) ∧ w'.cell? ⟨gx, 1, none⟩ = some (.slice Ax T.length cx)) 5 (by kernel_rfl) ⟨(soup_facts GAwE.out.drew).1, (soup_facts GAwE.out.drew).2.1, (soup_facts GXwE.out.drew).1, (soup_facts GXwE.out.drew).2.1⟩ (fun hHeld => ?_)
        refine Till.take (i := 0) (v := ?vt16) rfl (by kernel_rfl) (by kernel_rfl) (by kernel_rfl) (by kernel_rfl) (fun _ _ _ h => h) (Or.inl ⟨by rfl, ?ht16⟩) (by assumption) ?restt16
        case ht16 => (intro w hSw; (try dsimp only at hSw); go_simp; try with_reducible rfl)
        (try simp only [Act.put, List.setIfInBounds_toArray, List.set_cons_zero, List.set_cons_succ])
        refine Till.take (i := 2) (v := ?vt17) rfl (by kernel_rfl) (by kernel_rfl) (by kernel_rfl) (by kernel_rfl) (fun _ _ _ h => h) (Or.inl ⟨by rfl, ?ht17⟩) (by assumption) ?restt17
        case ht17 => (intro w hSw; (try dsimp only at hSw); go_simp; try with_reducible rfl)
        (try simp only [Act.put, List.setIfInBounds_toArray, List.set_cons_zero, List.set_cons_succ])
        refine Till.ready (rs := [1]) (by kernel_rfl) (by simp) ?_
        refine TillEach.cons rfl (fun K hK => ?_) ?_
        · go_simp
          go_wp2_with (go_at_call 11; refine (HK1.out wE.drew (bw_drew HBwE.out)).mono ?_; rintro e v3 ⟨g1, rfl, hk1, hb⟩)
          have GAv3 := Lib.hid (blk_call GAwE.out.drew hb)
          have GXv3 := Lib.hid (blk_call GXwE.out.drew hb)
          have HRv3 := Lib.hid (HRwE.out.drew.below hb)
          have KAv3 : Hid (KAt v3 g1 m T) := Lib.hid (hk1)
          have HBv3 := Lib.hid (bw_call (bw_drew HBwE.out) hb)
          clear hb
          refine hK.out _ _ ?_ (fun hHeld => ?_)
          · exact ⟨(soup_facts GAv3.out).1, (soup_facts GAv3.out).2.1, (soup_facts GXv3.out).1, (soup_facts GXv3.out).2.1⟩
          clear hK K
          (try simp only [Act.put, List.setIfInBounds_toArray, List.set_cons_zero, List.set_cons_succ])
          refine Till.ready (rs := [3]) (by kernel_rfl) (by simp) ?_
          refine TillEach.cons rfl (fun K hK => ?_) ?_
          · go_simp
            go_wp2_with (go_at_call 11; refine (HK2.out v3 HRv3.out).mono ?_; rintro e v4 ⟨g2, rfl, hk2, hb⟩)
            have GAv4 := Lib.hid (blk_call GAv3.out hb)
            have GXv4 := Lib.hid (blk_call GXv3.out hb)
            have HRv4 := Lib.hid (HRv3.out.below hb)
            have KAv4 := Lib.hid (KAv3.out.below hb)
            have KBv4 : Hid (KAt v4 g2 m T) := Lib.hid (hk2)
            have HBv4 := Lib.hid (bw_call HBv3.out hb)
            clear hb GAv3 GXv3 HRv3 KAv3 HBv3
            refine hK.out _ _ ?_ (fun hHeld => ?_)
            · exact ⟨(soup_facts GAv4.out).1, (soup_facts GAv4.out).2.1, (soup_facts GXv4.out).1, (soup_facts GXv4.out).2.1⟩
            clear hK K
            (try simp only [Act.put, List.setIfInBounds_toArray, List.set_cons_zero, List.set_cons_succ])
            refine Till.take (i := 4) (v := ?vt18) rfl (by kernel_rfl) (by kernel_rfl) (by kernel_rfl) (by kernel_rfl) (fun _ _ _ h => h) (Or.inl ⟨by rfl, ?ht18⟩) (by assumption) ?restt18
            case ht18 => (intro w hSw; (try dsimp only at hSw); go_simp; try with_reducible rfl)
            (try simp only [Act.put, List.setIfInBounds_toArray, List.set_cons_zero, List.set_cons_succ])
            refine Till.ready (rs := [5]) (by kernel_rfl) (by simp) ?_
            refine TillEach.last rfl (fun K hK => ?_)
            · go_simp
              refine hK.out _ _ ?_
              clear hK K
              (try simp only [Act.put, List.setIfInBounds_toArray, List.set_cons_zero, List.set_cons_succ])
              refine Till.done (by kernel_rfl) ?_ _
              go_wp2_with fail
              obtain ⟨s0, s1, _, _, _⟩ := soup_facts GAv4.out
              go_upto_region 13 with (fail)
              clear s0 s1
              go_wp2_with fail
              go_loopw [9] (fun iv wr => ∃ k : Nat, k ≤ m ∧ iv = .int .i64 k ∧ Hid (KAt wr g1 m T) ∧ Hid (KAt wr g2 m T) ∧ Hid (Blk wr ga 24 #[.int .i64 (m : Int), .slice A T.length c]) ∧ Hid (Below w.heap.size w wr)) (fun iv _ => m - (intOf iv).toNat)
              case atStart => exact ⟨0, by omega, rfl, KAv4, KBv4, GAv4, HBv4⟩
              case round =>
                obtain ⟨k, hk, rfl, KAk, KBk, GAk, HBk⟩ := hrel
                obtain ⟨wF, hwF⟩ : ∃ wF : World, wF = wr := ⟨_, rfl⟩
                rw [← hwF] at KAk KBk GAk HBk ⊢
                clear hwF KAv4 KBv4 GAv4 HBv4 HRv4 GXv4
                obtain ⟨s0, s1, _, _, _⟩ := soup_facts GAk.out
                by_cases hlt : k < m
                · have hki : (k : Int) < (m : Int) := by omega
                  have e0 := KAk.out.fld_ hlt (j := 0) (by omega)
                  have e1 := KAk.out.fld_ hlt (j := 1) (by omega)
                  have e2 := KAk.out.fld_ hlt (j := 2) (by omega)
                  have e3 := KAk.out.fld_ hlt (j := 3) (by omega)
                  have e4 := KAk.out.fld_ hlt (j := 4) (by omega)
                  have f0 := KBk.out.fld_ hlt (j := 0) (by omega)
                  have f1 := KBk.out.fld_ hlt (j := 1) (by omega)
                  have f2 := KBk.out.fld_ hlt (j := 2) (by omega)
                  have f3 := KBk.out.fld_ hlt (j := 3) (by omega)
                  have f4 := KBk.out.fld_ hlt (j := 4) (by omega)
                  rw [Nat.add_zero] at e0 f0
                  generalize fld (known T k) 0 = x0 at *
                  generalize fld (known T k) 1 = x1 at *
                  generalize fld (known T k) 2 = x2 at *
                  generalize fld (known T k) 3 = x3 at *
                  generalize fld (known T k) 4 = x4 at *
                  have hne := run_ne_arP x0 x1 x2 x3 x4
                  go_upto_region 16 with (fail)
                  go_quiet (fail)
                  go_wp2_with fail
                  exact ⟨⟨k + 1, by omega, by go_num, Lib.hid (KAt.drewN KAk.out _), Lib.hid (KAt.drewN KBk.out _), Lib.hid (GAk.out.drewN _), Lib.hid (below_drewN HBk.out _)⟩, by simp [intOf]; omega⟩
                · obtain rfl : k = m := by omega
                  go_wp2_with fail
                  go_ret
                  exact ⟨rfl, HBk.out⟩
          exact TillEach.nil
        exact TillEach.nil
      · have hki : ¬ (k : Int) < (T.length : Int) := by omega
        clear hno
        have HLAW := Lib.hid (same_law HSE.out HXL.out HT2.out)
        have HCE : Hid (arr m (known X) = arr m (known T)) := Lib.hid (arr_congr fun v _ => HLAW.out.2 v)
        have HK1 : Hid (∀ (W : World), Below w.heap.size w W → Calls Try.prog 11 #[.agg #[.int .i64 (m : Int), .slice A T.length c]] W (fun e w' => ∃ g, e = .returned (.slice (some ⟨g, 0, none⟩) m m) ∧ KAt w' g m T ∧ Below W.heap.size W w')) := Lib.hid fun W h => known_yes m A T.length c T W (by omega) ((HT.out.below h).more h.size) HCK.out
        have HK2 : Hid (∀ (W : World), LRow W w.heap.size Ax cx X → Calls Try.prog 11 #[.agg #[.int .i64 (m : Int), .slice Ax T.length cx]] W (fun e w' => ∃ g, e = .returned (.slice (some ⟨g, 0, none⟩) m m) ∧ KAt w' g m T ∧ Below W.heap.size W w')) := Lib.hid fun W h => (known_yes m Ax T.length cx X W (by omega) (by have h1 := h.tris; rwa [HXL.out] at h1) HLAW.out.1).mono fun e w' h => by
          obtain ⟨g, h1, h2, h3⟩ := h
          exact ⟨g, h1, ⟨by have := h2.b; rwa [HCE.out] at this⟩, h3⟩
        clear HLAW HCE HT2 HXL HSE HY
        go_upto_region 10 with (fail)
        clear s0 s1
        refine wp_region_till (S := fun w' => w'.cell? ⟨ga, 0, none⟩ = some (.int .i64 (m : Int)) ∧ w'.cell? ⟨ga, 1, none⟩ = some (.slice A T.length c) ∧ w'.cell? ⟨gx, 0, none⟩ = some (.int .i64 (m : Int)) ∧ w'.cell? ⟨gx, 1, none⟩ = some (.slice Ax T.length cx)) 5 (by kernel_rfl) ⟨(soup_facts GAwE.out.drew).1, (soup_facts GAwE.out.drew).2.1, (soup_facts GXwE.out.drew).1, (soup_facts GXwE.out.drew).2.1⟩ (fun hHeld => ?_)
        refine Till.take (i := 0) (v := ?vt19) rfl (by kernel_rfl) (by kernel_rfl) (by kernel_rfl) (by kernel_rfl) (fun _ _ _ h => h) (Or.inl ⟨by rfl, ?ht19⟩) (by assumption) ?restt19
        case ht19 => (intro w hSw; (try dsimp only at hSw); go_simp; try with_reducible rfl)
        (try simp only [Act.put, List.setIfInBounds_toArray, List.set_cons_zero, List.set_cons_succ])
        refine Till.take (i := 2) (v := ?vt20) rfl (by kernel_rfl) (by kernel_rfl) (by kernel_rfl) (by kernel_rfl) (fun _ _ _ h => h) (Or.inl ⟨by rfl, ?ht20⟩) (by assumption) ?restt20
        case ht20 => (intro w hSw; (try dsimp only at hSw); go_simp; try with_reducible rfl)
        (try simp only [Act.put, List.setIfInBounds_toArray, List.set_cons_zero, List.set_cons_succ])
        refine Till.ready (rs := [1]) (by kernel_rfl) (by simp) ?_
        refine TillEach.cons rfl (fun K hK => ?_) ?_
        · go_simp
          go_wp2_with (go_at_call 11; refine (HK1.out wE.drew (bw_drew HBwE.out)).mono ?_; rintro e v3 ⟨g1, rfl, hk1, hb⟩)
          have GAv3 := Lib.hid (blk_call GAwE.out.drew hb)
          have GXv3 := Lib.hid (blk_call GXwE.out.drew hb)
          have HRv3 := Lib.hid (HRwE.out.drew.below hb)
          have KAv3 : Hid (KAt v3 g1 m T) := Lib.hid (hk1)
          have HBv3 := Lib.hid (bw_call (bw_drew HBwE.out) hb)
          clear hb
          refine hK.out _ _ ?_ (fun hHeld => ?_)
          · exact ⟨(soup_facts GAv3.out).1, (soup_facts GAv3.out).2.1, (soup_facts GXv3.out).1, (soup_facts GXv3.out).2.1⟩
          clear hK K
          (try simp only [Act.put, List.setIfInBounds_toArray, List.set_cons_zero, List.set_cons_succ])
          refine Till.ready (rs := [3]) (by kernel_rfl) (by simp) ?_
          refine TillEach.cons rfl (fun K hK => ?_) ?_
          · go_simp
            go_wp2_with (go_at_call 11; refine (HK2.out v3 HRv3.out).mono ?_; rintro e v4 ⟨g2, rfl, hk2, hb⟩)
            have GAv4 := Lib.hid (blk_call GAv3.out hb)
            have GXv4 := Lib.hid (blk_call GXv3.out hb)
            have HRv4 := Lib.hid (HRv3.out.below hb)
            have KAv4 := Lib.hid (KAv3.out.below hb)
            have KBv4 : Hid (KAt v4 g2 m T) := Lib.hid (hk2)
            have HBv4 := Lib.hid (bw_call HBv3.out hb)
            clear hb GAv3 GXv3 HRv3 KAv3 HBv3
            refine hK.out _ _ ?_ (fun hHeld => ?_)
            · exact ⟨(soup_facts GAv4.out).1, (soup_facts GAv4.out).2.1, (soup_facts GXv4.out).1, (soup_facts GXv4.out).2.1⟩
            clear hK K
            (try simp only [Act.put, List.setIfInBounds_toArray, List.set_cons_zero, List.set_cons_succ])
            refine Till.take (i := 4) (v := ?vt21) rfl (by kernel_rfl) (by kernel_rfl) (by kernel_rfl) (by kernel_rfl) (fun _ _ _ h => h) (Or.inl ⟨by rfl, ?ht21⟩) (by assumption) ?restt21
            case ht21 => (intro w hSw; (try dsimp only at hSw); go_simp; try with_reducible rfl)
            (try simp only [Act.put, List.setIfInBounds_toArray, List.set_cons_zero, List.set_cons_succ])
            refine Till.ready (rs := [5]) (by kernel_rfl) (by simp) ?_
            refine TillEach.last rfl (fun K hK => ?_)
            · go_simp
              refine hK.out _ _ ?_
              clear hK K
              (try simp only [Act.put, List.setIfInBounds_toArray, List.set_cons_zero, List.set_cons_succ])
              refine Till.done (by kernel_rfl) ?_ _
              go_wp2_with fail
              obtain ⟨s0, s1, _, _, _⟩ := soup_facts GAv4.out
              go_upto_region 13 with (fail)
              clear s0 s1
              go_wp2_with fail
              go_loopw [9] (fun iv wr => ∃ k : Nat, k ≤ m ∧ iv = .int .i64 k ∧ Hid (KAt wr g1 m T) ∧ Hid (KAt wr g2 m T) ∧ Hid (Blk wr ga 24 #[.int .i64 (m : Int), .slice A T.length c]) ∧ Hid (Below w.heap.size w wr)) (fun iv _ => m - (intOf iv).toNat)
              case atStart => exact ⟨0, by omega, rfl, KAv4, KBv4, GAv4, HBv4⟩
              case round =>
                obtain ⟨k, hk, rfl, KAk, KBk, GAk, HBk⟩ := hrel
                obtain ⟨wF, hwF⟩ : ∃ wF : World, wF = wr := ⟨_, rfl⟩
                rw [← hwF] at KAk KBk GAk HBk ⊢
                clear hwF KAv4 KBv4 GAv4 HBv4 HRv4 GXv4
                obtain ⟨s0, s1, _, _, _⟩ := soup_facts GAk.out
                by_cases hlt : k < m
                · have hki : (k : Int) < (m : Int) := by omega
                  have e0 := KAk.out.fld_ hlt (j := 0) (by omega)
                  have e1 := KAk.out.fld_ hlt (j := 1) (by omega)
                  have e2 := KAk.out.fld_ hlt (j := 2) (by omega)
                  have e3 := KAk.out.fld_ hlt (j := 3) (by omega)
                  have e4 := KAk.out.fld_ hlt (j := 4) (by omega)
                  have f0 := KBk.out.fld_ hlt (j := 0) (by omega)
                  have f1 := KBk.out.fld_ hlt (j := 1) (by omega)
                  have f2 := KBk.out.fld_ hlt (j := 2) (by omega)
                  have f3 := KBk.out.fld_ hlt (j := 3) (by omega)
                  have f4 := KBk.out.fld_ hlt (j := 4) (by omega)
                  rw [Nat.add_zero] at e0 f0
                  generalize fld (known T k) 0 = x0 at *
                  generalize fld (known T k) 1 = x1 at *
                  generalize fld (known T k) 2 = x2 at *
                  generalize fld (known T k) 3 = x3 at *
                  generalize fld (known T k) 4 = x4 at *
                  have hne := run_ne_arP x0 x1 x2 x3 x4
                  go_upto_region 16 with (fail)
                  go_quiet (fail)
                  go_wp2_with fail
                  exact ⟨⟨k + 1, by omega, by go_num, Lib.hid (KAt.drewN KAk.out _), Lib.hid (KAt.drewN KBk.out _), Lib.hid (GAk.out.drewN _), Lib.hid (below_drewN HBk.out _)⟩, by simp [intOf]; omega⟩
                · obtain rfl : k = m := by omega
                  go_wp2_with fail
                  go_ret
                  exact ⟨rfl, HBk.out⟩
          exact TillEach.nil
        exact TillEach.nil
    · have hki : (k : Int) < (T.length : Int) := by omega
      have hyi : (k : Int) < (Y.length : Int) := by omega
      obtain ⟨ab, vb, rfl, hab, hvb, hcb⟩ := (HY.out.below HBwB.out).at_ hlty
      have hvb' : vb = .int .u8 (Y[k].toNat : Int) := by
        have : (B8 Y)[k]? = some (.int .u8 (Y[k].toNat : Int)) := by simp [B8, hlty]
        rw [this] at hvb
        injection hvb with hvb
        exact hvb.symm
      subst hvb'
      have hbb : Y[k].toNat < 256 := UInt8.toNat_lt _
      have CBwB : Hid (CellQ wB (ab.add k) (.int .u8 (Y[k].toNat : Int))) := Lib.hid ⟨hcb, by rw [block_of_add]; exact Nat.lt_of_lt_of_le hab HBwB.out.size⟩
      generalize Y[k].toNat = bb at CBwB hbb
      clear hvb hcb
      obtain ⟨bx, hbx, hbB, hrt⟩ := HRwB.out.rt3 (b := 0) (k := k) (by rw [HXL.out]; exact hlt)
      subst hbx
      have RTwB := Lib.hid hrt
      have HNE : Hid (gx ≠ bx ∧ ga ≠ bx ∧ w.heap.size ≤ bx) := Lib.hid ⟨soup_row_ne HRwB.out GXwB.out, soup_row_ne HRwB.out GAwB.out, hbB⟩
      have HTS : Hid (∀ r, ∀ i, i < T.length → ∃ r', tri (X.set k (turnT r (tri X k))) i = rotT r' (tri T i)) := Lib.hid fun r => turn_step HXL.out hlt HT2.out (HE.out k (Nat.le_refl _) hlt) r
      clear hrt hbB
      obtain ⟨u, HU⟩ : ∃ u, Hid (tri X k = u) := ⟨_, Lib.hid rfl⟩
      rw [HU.out] at RTwB HTS
      obtain ⟨kk, hkk⟩ : ∃ kk, bb % 3 = kk := ⟨_, rfl⟩
      have hkk3 : kk < 3 := by omega
      have e3 : Int.tmod (bb : Int) 3 = (kk : Int) := by rw [← hkk]; exact Int.ofNat_tmod bb 3
      have e4 : (bb : Int) % 3 = (kk : Int) := by omega
      have HTu : Hid (∀ (W : World), Calls Try.prog 17 #[.agg #[.int .i64 u.a, .int .i64 u.b, .int .i64 u.c], .int .i64 (kk : Int)] W fun e w' => e = .returned (.agg #[.int .i64 (turnT kk u).a, .int .i64 (turnT kk u).b, .int .i64 (turnT kk u).c]) ∧ Below W.heap.size W w') := Lib.hid fun W => refTurned_any u kk W hkk3
      have hw8 : IntKind.u8.wrap (kk : Int) = (kk : Int) := by simp [IntKind.wrap, IntKind.bits, IntKind.signed]; omega
      have hw9 : IntKind.i64.wrap (kk : Int) = (kk : Int) := IntWalk.i64_in _ (by omega)
      clear hkk hbb
      go_upto_region 9 with (fail)
      refine wp_region_till (S := fun w' => w'.cell? ⟨gx, 0, none⟩ = some (.int .i64 (m : Int)) ∧ w'.cell? ⟨gx, 1, none⟩ = some (.slice (some ⟨bx, 0, none⟩) T.length cx) ∧ w'.cell? ⟨bx, k * 3, none⟩ = some (.int .i64 u.a) ∧ w'.cell? ⟨bx, k * 3 + 1, none⟩ = some (.int .i64 u.b) ∧ w'.cell? ⟨bx, k * 3 + 2, none⟩ = some (.int .i64 u.c) ∧ w'.cell? (ab.add k) = some (.int .u8 (bb : Int))) 16 (by kernel_rfl) ⟨(soup_facts GXwB.out.drew).1, (soup_facts GXwB.out.drew).2.1, RTwB.out.drew.c0, RTwB.out.drew.c1, RTwB.out.drew.c2, CBwB.out.drew.c⟩ (fun hHeld => ?_)
      refine Till.take (i := 0) (v := ?vt1) rfl (by kernel_rfl) (by kernel_rfl) (by kernel_rfl) (by kernel_rfl) (fun _ _ _ h => h) (Or.inl ⟨by rfl, ?ht1⟩) (by assumption) ?restt1
      case ht1 => (intro w hSw; (try dsimp only at hSw); go_simp; try with_reducible rfl)
      (try simp only [Act.put, List.setIfInBounds_toArray, List.set_cons_zero, List.set_cons_succ])
      refine Till.take (i := 1) (v := ?vt2) rfl (by kernel_rfl) (by kernel_rfl) (by kernel_rfl) (by kernel_rfl) (fun _ _ _ h => h) (Or.inl ⟨by rfl, ?ht2⟩) (by assumption) ?restt2
      case ht2 => (intro w hSw; (try dsimp only at hSw); go_simp; try with_reducible rfl)
      (try simp only [Act.put, List.setIfInBounds_toArray, List.set_cons_zero, List.set_cons_succ])
      refine Till.take (i := 2) (v := ?vt3) rfl (by kernel_rfl) (by kernel_rfl) (by kernel_rfl) (by kernel_rfl) (fun _ _ _ h => h) (Or.inl ⟨by rfl, ?ht3⟩) (by assumption) ?restt3
      case ht3 => (intro w hSw; (try dsimp only at hSw); go_simp; try with_reducible rfl)
      (try simp only [Act.put, List.setIfInBounds_toArray, List.set_cons_zero, List.set_cons_succ])
      refine Till.take (i := 3) (v := ?vt4) rfl (by kernel_rfl) (by kernel_rfl) (by kernel_rfl) (by kernel_rfl) (fun _ _ _ h => h) (Or.inl ⟨by rfl, ?ht4⟩) (by assumption) ?restt4
      case ht4 => (intro w hSw; (try dsimp only at hSw); go_simp; try with_reducible rfl)
      (try simp only [Act.put, List.setIfInBounds_toArray, List.set_cons_zero, List.set_cons_succ])
      refine Till.take (i := 4) (v := ?vt5) rfl (by kernel_rfl) (by kernel_rfl) (by kernel_rfl) (by kernel_rfl) (fun _ _ _ h => h) (Or.inl ⟨by rfl, ?ht5⟩) (by assumption) ?restt5
      case ht5 => (intro w hSw; (try dsimp only at hSw); go_simp; try with_reducible rfl)
      (try simp only [Act.put, List.setIfInBounds_toArray, List.set_cons_zero, List.set_cons_succ])
      refine Till.take (i := 5) (v := ?vt6) rfl (by kernel_rfl) (by kernel_rfl) (by kernel_rfl) (by kernel_rfl) (fun _ _ _ h => h) (Or.inl ⟨by rfl, ?ht6⟩) (by assumption) ?restt6
      case ht6 => (intro w hSw; (try dsimp only at hSw); go_simp; try with_reducible rfl)
      (try simp only [Act.put, List.setIfInBounds_toArray, List.set_cons_zero, List.set_cons_succ])
      refine Till.take (i := 6) (v := ?vt7) rfl (by kernel_rfl) (by kernel_rfl) (by kernel_rfl) (by kernel_rfl) (fun _ _ _ h => h) (Or.inl ⟨by rfl, ?ht7⟩) (by assumption) ?restt7
      case ht7 => (intro w hSw; (try dsimp only at hSw); go_simp; try with_reducible rfl)
      (try simp only [Act.put, List.setIfInBounds_toArray, List.set_cons_zero, List.set_cons_succ])
      refine Till.take (i := 7) (v := ?vt8) rfl (by kernel_rfl) (by kernel_rfl) (by kernel_rfl) (by kernel_rfl) (fun _ _ _ h => h) (Or.inl ⟨by rfl, ?ht8⟩) (by assumption) ?restt8
      case ht8 => (intro w hSw; (try dsimp only at hSw); go_simp; try with_reducible rfl)
      (try simp only [Act.put, List.setIfInBounds_toArray, List.set_cons_zero, List.set_cons_succ])
      refine Till.take (i := 8) (v := ?vt9) rfl (by kernel_rfl) (by kernel_rfl) (by kernel_rfl) (by kernel_rfl) (fun _ _ _ h => h) (Or.inl ⟨by rfl, ?ht9⟩) (by assumption) ?restt9
      case ht9 => (intro w hSw; (try dsimp only at hSw); go_simp; try with_reducible rfl)
      (try simp only [Act.put, List.setIfInBounds_toArray, List.set_cons_zero, List.set_cons_succ])
      refine Till.take (i := 9) (v := ?vt10) rfl (by kernel_rfl) (by kernel_rfl) (by kernel_rfl) (by kernel_rfl) (fun _ _ _ h => h) (Or.inl ⟨by rfl, ?ht10⟩) (by assumption) ?restt10
      case ht10 => (intro w hSw; (try dsimp only at hSw); go_simp; try with_reducible rfl)
      (try simp only [Act.put, List.setIfInBounds_toArray, List.set_cons_zero, List.set_cons_succ])
      refine Till.take (i := 10) (v := ?vt11) rfl (by kernel_rfl) (by kernel_rfl) (by kernel_rfl) (by kernel_rfl) (fun _ _ _ h => h) (Or.inl ⟨by rfl, ?ht11⟩) (by assumption) ?restt11
      case ht11 => (intro w hSw; (try dsimp only at hSw); go_simp; try with_reducible rfl)
      (try simp only [Act.put, List.setIfInBounds_toArray, List.set_cons_zero, List.set_cons_succ])
      refine Till.take (i := 11) (v := ?vt12) rfl (by kernel_rfl) (by kernel_rfl) (by kernel_rfl) (by kernel_rfl) (fun _ _ _ h => h) (Or.inl ⟨by rfl, ?ht12⟩) (by assumption) ?restt12
      case ht12 => (intro w hSw; (try dsimp only at hSw); go_simp; try with_reducible rfl)
      (try simp only [Act.put, List.setIfInBounds_toArray, List.set_cons_zero, List.set_cons_succ])
      refine Till.take (i := 12) (v := ?vt13) rfl (by kernel_rfl) (by kernel_rfl) (by kernel_rfl) (by kernel_rfl) (fun _ _ _ h => h) (Or.inl ⟨by rfl, ?ht13⟩) (by assumption) ?restt13
      case ht13 => (intro w hSw; (try dsimp only at hSw); go_simp; try with_reducible rfl)
      (try simp only [Act.put, List.setIfInBounds_toArray, List.set_cons_zero, List.set_cons_succ])
      refine Till.take (i := 13) (v := ?vt14) rfl (by kernel_rfl) (by kernel_rfl) (by kernel_rfl) (by kernel_rfl) (fun _ _ _ h => h) (Or.inl ⟨by rfl, ?ht14⟩) (by assumption) ?restt14
      case ht14 => (intro w hSw; (try dsimp only at hSw); go_simp; try with_reducible rfl)
      (try simp only [Act.put, List.setIfInBounds_toArray, List.set_cons_zero, List.set_cons_succ])
      refine Till.ready (rs := [14]) (by kernel_rfl) (by simp) ?_
      refine TillEach.cons rfl (fun K hK => ?_) ?_
      · go_simp
        go_wp2_with (go_at_call 17; refine (HTu.out wB.drew).mono ?_; rintro e v3 ⟨rfl, hb⟩)
        have GXv3 := Lib.hid (blk_call GXwB.out.drew hb)
        have RTv3 := Lib.hid (RTwB.out.drew.below hb)
        have CBv3 := Lib.hid (CBwB.out.drew.below hb)
        have GAv3 := Lib.hid (blk_call GAwB.out.drew hb)
        have HRv3 := Lib.hid (HRwB.out.drew.below hb)
        have fz0 := HRv3.out.frz (k * 3)
        have fz1 := HRv3.out.frz (k * 3 + 1)
        have fz2 := HRv3.out.frz (k * 3 + 2)
        have HBv3 := Lib.hid (bw_call (bw_drew HBwB.out) hb)
        clear hb
        refine hK.out _ _ ?_ (fun hHeld => ?_)
        · exact ⟨(soup_facts GXv3.out).1, (soup_facts GXv3.out).2.1, RTv3.out.c0, RTv3.out.c1, RTv3.out.c2, CBv3.out.c⟩
        clear hK K
        (try simp only [Act.put, List.setIfInBounds_toArray, List.set_cons_zero, List.set_cons_succ])
        refine Till.take (i := 15) (v := ?vt15) rfl (by kernel_rfl) (by kernel_rfl) (by kernel_rfl) (by kernel_rfl) (fun _ _ _ h => h) (Or.inl ⟨by rfl, ?ht15⟩) (by assumption) ?restt15
        case ht15 => (intro w hSw; (try dsimp only at hSw); go_simp; try with_reducible rfl)
        (try simp only [Act.put, List.setIfInBounds_toArray, List.set_cons_zero, List.set_cons_succ])
        refine Till.ready (rs := [16]) (by kernel_rfl) (by simp) ?_
        refine TillEach.last rfl (fun K hK => ?_)
        · go_simp
          refine hK.out _ _ ?_
          clear hK K
          (try simp only [Act.put, List.setIfInBounds_toArray, List.set_cons_zero, List.set_cons_succ])
          refine Till.done (by kernel_rfl) ?_ _
          have hcu := (HRv3.out.set_ k (turnT kk u))
          have HRn : Hid (LRow (set3 v3 bx k (turnT kk u)) w.heap.size (some ⟨bx, 0, none⟩) cx (X.set k (turnT kk u))) := Lib.hid hcu
          have GXn : Hid (Blk (set3 v3 bx k (turnT kk u)) gx 24 #[.int .i64 (m : Int), .slice (some ⟨bx, 0, none⟩) T.length cx]) := Lib.hid (((GXv3.out.far HNE.out.1 _).far HNE.out.1 _).far HNE.out.1 _)
          have GAn : Hid (Blk (set3 v3 bx k (turnT kk u)) ga 24 #[.int .i64 (m : Int), .slice A T.length c]) := Lib.hid (((GAv3.out.far HNE.out.2.1 _).far HNE.out.2.1 _).far HNE.out.2.1 _)
          have HBn : Hid (Below w.heap.size w (set3 v3 bx k (turnT kk u))) := Lib.hid (bw_set (bw_set (bw_set HBv3.out HNE.out.2.2 _) HNE.out.2.2 _) HNE.out.2.2 _)
          have HTn : Hid (∀ i, i < T.length → ∃ r, tri (X.set k (turnT kk u)) i = rotT r (tri T i)) := Lib.hid (HTS.out kk)
          have HEn : Hid (∀ i, k + 1 ≤ i → i < T.length → tri (X.set k (turnT kk u)) i = tri T i) := Lib.hid fun i h1 h2 => by rw [tri_setS (by rw [HXL.out]; exact hlt), if_neg (by omega)]; exact HE.out i (by omega) h2
          have HXn : Hid ((X.set k (turnT kk u)).length = T.length) := Lib.hid (by rw [List.length_set]; exact HXL.out)
          clear hcu fz0 fz1 fz2 RTv3 CBv3 HRv3 GXv3 GAv3 HBv3 HTS HE HXL HTu HU
          unfold set3 at HRn GXn GAn HBn
          generalize X.set k (turnT kk u) = X' at *
          generalize turnT kk u = u' at *
          go_wp2_with fail
          exact ⟨⟨k + 1, X', by omega, by go_num, HXn, HTn, HEn, HRn, GXn, GAn, HBn⟩, by simp [intOf]; omega⟩
      exact TillEach.nil
end Go.Proofs.Ytcpfolojfdnojaa
