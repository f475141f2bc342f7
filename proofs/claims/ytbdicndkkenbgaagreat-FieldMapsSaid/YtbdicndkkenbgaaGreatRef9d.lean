/- The document's answer for layer 9: Pinched, walked. No condition. -/
import Derived.Test.YtbdicndkkenbgaaGreatRef9b
namespace Go.Proofs.YtbdicndkkenbgaaGreat
open Go.RowKit

theorem r9ltri_info : (Tryz.prog.info? 71).map (fun i => (i.zero, i.size, i.bytes)) = some (some (.agg #[.int .i64 0, .int .i64 0, .int .i64 0]), 3, 24) := by kernel_rfl
def r9LRow (w : World) (B : Nat) (A : Option Addr) (c : Nat) (L : List Tri) : Prop := w.ownsRow B 71 3 (.slice A L.length c) L.length (L.flatMap Tri.cells)
def r9LRel (w wr : World) (L : List Tri) (v : Value) : Prop := ∃ A c, v = .slice A L.length c ∧ Hid (r9LRow wr w.heap.size A c L) ∧ Hid (Below w.heap.size w wr)
theorem r9LRel.start0 (w : World) : r9LRel w w [] (.slice none 0 0) := ⟨none, 0, rfl, Lib.hid (World.ownsRow_nil _ _ _ _), Lib.hid (Below.refl _ _)⟩
theorem r9LRel.keep {w wr w' : World} {L : List Tri} {v : Value} (h : r9LRel w wr L v) (hb : Below wr.heap.size wr w') : r9LRel w w' L v := by
  obtain ⟨A, c, e, h1, h2⟩ := h
  exact ⟨A, c, e, Lib.hid (own_same h1.out fun k hk => hb.block k (h1.out.lt k hk).2), Lib.hid (h2.out.trans (hb.mono h2.out.size))⟩
theorem r9LRel.grow {w wr wx w1 : World} {L : List Tri} {x : Tri} {A A1 : Option Addr} {c c1 : Nat} (hO : Hid (r9LRow wr w.heap.size A c L)) (hB : Hid (Below w.heap.size w wr)) (hx : Below wr.heap.size wr wx)
    (h1 : w1.ownsRow w.heap.size 71 3 (.slice A1 (L.length + 1) c1) (L.length + 1) (L.flatMap Tri.cells ++ Tri.cells x)) (hg : wx.grownBy w1 (Value.slice A L.length c).ownBlock) : r9LRel w w1 (L ++ [x]) (.slice A1 (L.length + 1) c1) := by
  refine ⟨A1, c1, by simp, Lib.hid ?_, Lib.hid ?_⟩
  · unfold r9LRow
    rw [List.flatMap_append]
    simpa using h1
  · exact (hB.out.trans (hx.mono hB.out.size)).grown hg (Nat.le_trans hB.out.size hx.size) fun k hk => (hO.out.lt k hk).1
/-- The triangles at a vertex, of the first k. -/
def atT (T : List Tri) (k : Nat) (v : Int) : List Tri := (atL T k v).map (tri T)
theorem atT_succ (T : List Tri) (k : Nat) (v : Int) : atT T (k + 1) v = if hasB (tri T k) v then atT T k v ++ [tri T k] else atT T k v := by
  unfold atT atL
  rw [List.range_succ, List.filter_append, List.map_append]
  have e : decide (v ∈ verts (tri T k)) = hasB (tri T k) v := by rw [Bool.eq_iff_iff, hasB_iff, decide_eq_true_eq]
  by_cases h : hasB (tri T k) v <;> simp [List.filter, e, h]
theorem atT_len (T : List Tri) (k : Nat) (v : Int) : (atT T k v).length ≤ k := by
  unfold atT atL
  rw [List.length_map]
  exact Nat.le_trans (List.length_filter_le _ _) (by simp)
/-- Have two of the list a vertex but v in common? -/
def shT (L : List Tri) (v : Int) (i k : Nat) : Bool := (verts (tri L i)).any fun w => w != v && hasB (tri L k) w
theorem r9foldB_congr {sh sh' : Nat → Nat → Bool} {m : Nat} (h : ∀ i k, i < m → k < m → sh i k = sh' i k) : ∀ (l : List (Nat × Nat)) (p : Nat → Bool), (∀ x ∈ l, x.1 < m ∧ x.2 < m) → l.foldl (stepB sh) p = l.foldl (stepB sh') p
  | [], p, _ => rfl
  | x :: l, p, hl => by
    have hx := hl x (List.mem_cons_self ..)
    rw [List.foldl_cons, List.foldl_cons, r9foldB_congr h l _ fun y hy => hl y (List.mem_cons_of_mem _ hy)]
    congr 1
    unfold stepB
    rw [h x.1 x.2 hx.1 hx.2]
theorem r9passesB_congr {sh sh' : Nat → Nat → Bool} {m : Nat} (h : ∀ i k, i < m → k < m → sh i k = sh' i k) : ∀ c, passesB sh m c = passesB sh' m c
  | 0 => rfl
  | c + 1 => by
    unfold passesB passB
    rw [r9passesB_congr h c]
    exact r9foldB_congr h _ _ fun x hx => pairsB_mem.1 hx
theorem pinchedB_T (T : List Tri) (n v : Nat) : pinchedB T n v = (!(atT T n v).isEmpty && !(List.range (atT T n v).length).all (passesB (shT (atT T n v) v) (atT T n v).length (atT T n v).length)) := by
  have hl : (atT T n (v : Int)).length = (atL T n (v : Int)).length := by simp [atT]
  have he : (atT T n (v : Int)).isEmpty = (atL T n (v : Int)).isEmpty := by simp [atT]
  unfold pinchedB pinchB
  rw [hl, he]
  have hc : passesB (fun i k => shareB T v ((atL T n (v : Int)).getD i 0) ((atL T n (v : Int)).getD k 0)) (atL T n (v : Int)).length = passesB (shT (atT T n v) v) (atL T n (v : Int)).length := by
    funext c
    refine r9passesB_congr (fun i k hi hk => ?_) c
    have g : ∀ i, i < (atL T n (v : Int)).length → tri (atT T n (v : Int)) i = tri T ((atL T n (v : Int)).getD i 0) := fun i hi => by
      unfold atT
      conv => lhs; unfold tri
      rw [List.getD_eq_getElem?_getD, List.getElem?_map, List.getElem?_eq_getElem hi, List.getD_eq_getElem?_getD, List.getElem?_eq_getElem hi]
      rfl
    unfold shareB shT
    rw [g i hi, g k hk]
  rw [hc]
/-- The pairs up to one are looked at. -/
def stateB (sh : Nat → Nat → Bool) (m : Nat) (p : Nat → Bool) (i k : Nat) : Nat → Bool := (((List.range i).flatMap fun i => (List.range m).map fun k => (i, k)) ++ (List.range k).map fun k => (i, k)).foldl (stepB sh) p
theorem stateB_zero (sh : Nat → Nat → Bool) (m : Nat) (p : Nat → Bool) : stateB sh m p 0 0 = p := rfl
theorem stateB_succ (sh : Nat → Nat → Bool) (m : Nat) (p : Nat → Bool) (i k : Nat) : stateB sh m p i (k + 1) = stepB sh (stateB sh m p i k) (i, k) := by
  unfold stateB
  rw [List.range_succ (n := k), List.map_append, ← List.append_assoc, List.foldl_append]
  rfl
theorem stateB_row (sh : Nat → Nat → Bool) (m : Nat) (p : Nat → Bool) (i : Nat) : stateB sh m p i m = stateB sh m p (i + 1) 0 := by
  unfold stateB
  rw [List.range_succ, List.flatMap_append]
  simp
theorem stateB_end (sh : Nat → Nat → Bool) (m : Nat) (p : Nat → Bool) : stateB sh m p m 0 = passB sh m p := by
  unfold stateB passB pairsB
  simp
theorem any_false_of {m : Nat} {p : Nat → Bool} {i : Nat} (hi : i < m) (h : p i = false) : (List.range m).all p = false := by
  rw [List.all_eq_false]
  exact ⟨i, List.mem_range.2 hi, by rw [h]; decide⟩

set_option maxRecDepth 100000 in
set_option maxHeartbeats 8000000 in
theorem rpinched_any (v : Nat) (N : Int) (A : Option Addr) (n c : Nat) (T : List Tri) (w : World) (hn : n ≤ 1000) (ht : TrisAt w w.heap.size A n T) :
    Calls Tryz.prog 78 #[.agg #[.int .i64 N, .slice A n c], .int .i64 v] w (r9BoolPost w (pinchedB T n v)) := by
  obtain ⟨i0, hi0, hz0, hz1, hz2⟩ := info_parts r9ltri_info
  obtain ⟨i1, hi1, hy0, hy1, hy2⟩ := info_parts bool_info
  have HT := Lib.hid ht
  clear ht
  go_enter Tryz.func78, Tryz.ntmps78
  go_wp2_with fail
  obtain ⟨W, hW⟩ : ∃ W, W = w.alloc (.cells #[.int .i64 N, .slice A n c] 24) := ⟨_, rfl⟩
  have HX : Hid (Blk W w.heap.size 24 #[.int .i64 N, .slice A n c]) := by subst hW; exact Lib.hid (Blk.new _ _ _)
  have HW : Hid (Below w.heap.size w W) := by subst hW; exact Lib.hid ((Below.refl _ _).alloc (Nat.le_refl _) _)
  have hws : w.heap.size < W.heap.size := HX.out.lt
  rw [← hW]
  clear hW
  go_loopw [5, 6] (fun lv iv wr => ∃ k : Nat, k ≤ n ∧ iv = .int .i64 k ∧ r9LRel W wr (atT T k v) lv) (fun _ iv _ => n - (intOf iv).toNat)
  case atStart => exact ⟨0, by omega, rfl, r9LRel.start0 _⟩
  case round =>
    obtain ⟨k, hk, rfl, A', c', rfl, HO, HB⟩ := hrel
    have b1 := (HX.out.below HB.out hws).cell 1
    simp at b1
    by_cases hlt : k < n
    · obtain ⟨ad, t, rfl, htk, _, hadb, hc3⟩ := ((HT.out.below HW.out).below (HB.out.mono (Nat.le_of_lt hws))).at_ hlt
      have HTT : Hid (tri T k = t) := Lib.hid (by unfold tri; simp [List.getD, htk])
      have HTK := Lib.hid htk
      have c0 := hc3.c0
      have c1 := hc3.c1
      have c2 := hc3.c2
      have g0 := hc3.f0
      have g1 := hc3.f1
      have g2 := hc3.f2
      have hk0 : (0 : Int) ≤ (k : Int) := by omega
      have hkn : (k : Int) < (n : Int) := by omega
      have hlen := atT_len T k v
      have HS := Lib.hid (atT_succ T k v)
      rw [HTT.out] at HS
      clear htk hc3
      have H1 := Lib.hid fun w => r9has_any t v w
      generalize hasB t v = bt at *
      go_wp2_with fail
      refine (H1.out _).mono ?_
      rintro e w1 ⟨rfl, hb⟩
      have HB1 := Lib.hid hb
      have b1' := (HX.out.below (HB.out.trans (hb.mono HB.out.size)) hws).cell 1
      obtain ⟨ad2, t2, e', htk, _, _, hc4⟩ := ((HT.out.below HW.out).below ((HB.out.trans (hb.mono HB.out.size)).mono (Nat.le_of_lt hws))).at_ hlt
      cases e'
      rw [HTK.out] at htk
      cases htk
      simp at b1'
      clear c0 c1 c2 g0 g1 g2 b1 hb
      cases bt with
      | true =>
        have c0 := hc4.c0
        have c1 := hc4.c1
        have c2 := hc4.c2
        have g0 := hc4.f0
        have g1 := hc4.f1
        have g2 := hc4.f2
        clear hc4
        have hsz : W.heap.size ≤ w1.heap.size := Nat.le_trans HB.out.size HB1.out.size
        have HO1 : Hid (r9LRow w1 W.heap.size A' c' (atT T k v)) := Lib.hid (own_same HO.out fun i hi => HB1.out.block i (HO.out.lt i hi).2)
        go_wp2_with (at_builtin; go_must (refine wpList_append_sl _ rfl (.tmp 27) (.tmp 33) _ rfl W.heap.size 71 i0 _ 3 24 Tryz.underlying22 hi0 hz0 hz1 hz2 rfl (by omega) (.slice A' (atT T k v).length c') _ _ rfl ((show w1.ownsRow W.heap.size 71 3 (.slice A' (atT T k v).length c') (atT T k v).length ((atT T k v).flatMap Tri.cells) from HO1.out).alloc _) (w1.heap.size + 1) (some ⟨w1.heap.size, 0, none⟩) 1 1 (Tri.cells t) rfl (reads_newN _ _ _ 1 3 rfl rfl) (by simp [Tri.cells, Value.oneCell']) (by simp only [maxLen]; omega) (by omega) (by simp; omega) ?_); intro A1 c1 w2 hown1 hg1 hat1)
        refine ⟨⟨k + 1, by omega, by go_num, ?_⟩, by simp [intOf]; omega⟩
        rw [HS.out, if_pos trivial]
        exact r9LRel.grow HO HB (HB1.out.alloc HB1.out.size _) hown1 hg1
      | false =>
        go_wp2_with fail
        refine ⟨⟨k + 1, by omega, by go_num, ?_⟩, by simp [intOf]; omega⟩
        rw [HS.out, if_neg (by simp)]
        exact r9LRel.keep ⟨A', c', rfl, HO, HB⟩ HB1.out
    · obtain rfl : k = n := by omega
      have HPN := Lib.hid (pinchedB_T T k v)
      have hm := atT_len T k v
      have HBW : Hid (Below w.heap.size w wr) := Lib.hid (HW.out.trans (HB.out.mono (Nat.le_of_lt hws)))
      have HTL : Hid (TrisAt wr wr.heap.size A' (atT T k v).length (atT T k v)) := Lib.hid (TrisAt.mk_ (Reads.of_own HO.out))
      clear HO HB HT
      obtain ⟨wL, rfl⟩ : ∃ wL : World, wL = wr := ⟨_, rfl⟩
      generalize atT T k v = L at *
      generalize hLm : L.length = m at *
      have hm2 : m ≤ 1000 := by omega
      have hmk := fun W => run_make_rowN (P := Tryz.prog) 108 4 i1 (.bool false) Tryz.underlying108 hi1 hy0 .i64 .i64 m m (Nat.le_refl _) (by rw [hy2]; omega) (by omega) W
      rw [hy1, Nat.mul_one, madeBools] at hmk
      by_cases hm0 : m = 0
      · subst hm0
        have he : L.isEmpty = true := by rw [List.isEmpty_iff]; exact List.eq_nil_of_length_eq_zero hLm
        go_wp2_with fail
        go_ret
        refine ⟨?_, HBW.out⟩
        rw [HPN.out, he]
        rfl
      · have he : L.isEmpty = false := by rw [List.isEmpty_eq_false_iff]; intro e; rw [e] at hLm; exact hm0 hLm.symm
        rw [he] at HPN
        have hmz : ((m : Int) == 0) = false := by simp; omega
        have HB1 := Lib.hid (Blk.new wL 4 (bools m fun _ => false))
        have HB2 : Hid (Blk (wL.alloc (.cells ((bools m fun _ => false).setIfInBounds 0 (.bool true)) 4)) wL.heap.size 4 (bools m (passesB (shT L v) m 0))) := by
          refine Lib.hid ?_
          have := Blk.new wL 4 ((bools m fun _ => false).setIfInBounds 0 (.bool true))
          rw [bools_set] at this ⊢
          exact this
        have f1 := HB1.out.frozen 0
        have f2 := (HB1.out.cell 0).trans (bools_at _ (show 0 < m by omega))
        have hmi : (0 : Int) < (m : Int) := by omega
        go_wp2_with fail
        have HBz : Hid (Below wL.heap.size wL (wL.alloc (.cells ((bools m fun _ => false).setIfInBounds 0 (.bool true)) 4))) := Lib.hid ((Below.refl _ _).alloc (Nat.le_refl _) _)
        have HLM := Lib.hid hLm
        clear hmk f1 f2 HB1 hLm he
        generalize wL.alloc (.cells ((bools m fun _ => false).setIfInBounds 0 (.bool true)) 4) = wz at *
        obtain ⟨g, hg⟩ : ∃ g, g = wL.heap.size := ⟨_, rfl⟩
        rw [← hg] at HB2 ⊢
        have hgb : wL.heap.size ≤ g := by omega
        clear hg
        go_loopw [45] (fun iv wr => ∃ cc : Nat, cc ≤ m ∧ iv = .int .i64 cc ∧ Hid (Blk wr g 4 (bools m (passesB (shT L v) m cc))) ∧ Hid (Below wL.heap.size wL wr)) (fun iv _ => m - (intOf iv).toNat)
        case atStart => exact ⟨0, by omega, rfl, HB2, HBz⟩
        case round =>
          obtain ⟨cc, hcc, rfl, HK, HB⟩ := hrel
          by_cases hct : cc < m
          · have HPS : Hid (passesB (shT L v) m (cc + 1) = passB (shT L v) m (passesB (shT L v) m cc)) := Lib.hid rfl
            generalize passesB (shT L v) m cc = p at *
            go_wp2_with fail
            go_loopw [8] (fun iv wq => ∃ i : Nat, i ≤ m ∧ iv = .int .i64 i ∧ Hid (Blk wq g 4 (bools m (stateB (shT L v) m p i 0))) ∧ Hid (Below wL.heap.size wL wq)) (fun iv _ => m - (intOf iv).toNat)
            case atStart => exact ⟨0, by omega, rfl, by rw [stateB_zero]; exact HK, HB⟩
            case round =>
              obtain ⟨i, hi, rfl, HK2, HBi⟩ := hrel
              by_cases hit : i < m
              · go_wp2_with fail
                go_loopw [9] (fun iv wq => ∃ k : Nat, k ≤ m ∧ iv = .int .i64 k ∧ Hid (Blk wq g 4 (bools m (stateB (shT L v) m p i k))) ∧ Hid (Below wL.heap.size wL wq)) (fun iv _ => m - (intOf iv).toNat)
                case atStart => exact ⟨0, by omega, rfl, HK2, HBi⟩
                case round =>
                  obtain ⟨k2, hk2, rfl, HK3, HB3⟩ := hrel
                  by_cases hkt : k2 < m
                  · have HST := Lib.hid (stateB_succ (shT L v) m p i k2)
                    generalize stateB (shT L v) m p i k2 = q at *
                    have f1 := (HK3.out.cell i).trans (bools_at _ hit)
                    have f2 := (HK3.out.cell k2).trans (bools_at _ hkt)
                    have hi0 : (0 : Int) ≤ (i : Int) := by omega
                    have hi1 : (i : Int) < (m : Int) := by omega
                    have hk0 : (0 : Int) ≤ (k2 : Int) := by omega
                    have hk1 : (k2 : Int) < (m : Int) := by omega
                    generalize hqi : q i = bi at f1
                    generalize hqk : q k2 = bk at f2
                    have HQI := Lib.hid hqi
                    have HQK := Lib.hid hqk
                    clear hqi hqk
                    cases bi with
                    | false =>
                      go_wp2_with fail
                      refine ⟨⟨k2 + 1, by omega, by go_num, ?_, HB3⟩, by simp [intOf]; omega⟩
                      rw [HST.out, show stepB (shT L v) q (i, k2) = q by unfold stepB; simp [HQI.out]]
                      exact HK3
                    | true =>
                      cases bk with
                      | true =>
                        go_wp2_with fail
                        refine ⟨⟨k2 + 1, by omega, by go_num, ?_, HB3⟩, by simp [intOf]; omega⟩
                        rw [HST.out, show stepB (shT L v) q (i, k2) = q by unfold stepB; simp [HQK.out]]
                        exact HK3
                      | false =>
                        obtain ⟨ad, t, hA, hti, _, _, _⟩ := HTL.out.at_ hit
                        obtain ⟨ad2, u, hA2, htk, _, _, _⟩ := HTL.out.at_ hkt
                        have HSH : Hid (shT L v i k2 = (verts t).any fun x => x != (v : Int) && hasB u x) := Lib.hid (by unfold shT; rw [tri_of hti, tri_of htk])
                        have HTI := Lib.hid hti
                        have HTK := Lib.hid htk
                        clear hti htk hA2
                        subst hA
                        have HST2 : Hid (stateB (shT L v) m p i (k2 + 1) = fun z => q z || (((verts t).any fun x => x != (v : Int) && hasB u x) && z == k2)) := by
                          refine Lib.hid ?_
                          rw [HST.out, ← HSH.out]
                          unfold stepB
                          simp only [HQI.out, HQK.out]
                          cases shT L v i k2 <;> simp
                        clear HST HSH
                        have H1 := Lib.hid fun (x : Int) w => r9has_any u x w
                        obtain ⟨f, hf⟩ : ∃ f : Int → Bool, f = fun x => x != (v : Int) && hasB u x := ⟨_, rfl⟩
                        rw [← hf] at HST2
                        have HF : Hid (∀ x, f x = (x != (v : Int) && hasB u x)) := Lib.hid fun x => by rw [hf]
                        clear hf
                        go_wp2_with fail
                        go_loopw [10] (fun iv wq => ∃ j : Nat, j ≤ 3 ∧ iv = .int .i64 j ∧ Hid (Blk wq g 4 (bools m fun z => q z || (((verts t).take j).any f && z == k2))) ∧ Hid (Below wL.heap.size wL wq)) (fun iv _ => 3 - (intOf iv).toNat)
                        case atStart => exact ⟨0, by omega, rfl, by rw [show (fun z => q z || (((verts t).take 0).any f && z == k2)) = q by funext z; simp]; exact HK3, HB3⟩
                        case round =>
                          obtain ⟨j, hj, rfl, HK4, HB4⟩ := hrel
                          by_cases hjt : j < 3
                          · have hct := (HTL.out.below HB4.out).cells rfl HTI.out
                            have hcu := (HTL.out.below HB4.out).cells rfl HTK.out
                            obtain ⟨x, hx, hcx⟩ := cells3_at hct hjt
                            have HS : Hid (((verts t).take (j + 1)).any f = (((verts t).take j).any f || f x)) := Lib.hid (by rw [take_snoc_ _ _ hx, List.any_append]; simp)
                            have hj1 : (0 : Int) ≤ (j : Int) := by omega
                            have hj2 : (j : Int) < 3 := by omega
                            have hjd : decide ((j : Int) < 3) = true := decide_eq_true (by omega)
                            have c0 := hcu.c0
                            have c1 := hcu.c1
                            have c2 := hcu.c2
                            have g0 := hcu.f0
                            have g1 := hcu.f1
                            have g2 := hcu.f2
                            clear hx hct hcu
                            generalize ((verts t).take j).any f = bj at *
                            by_cases hxv : x = (v : Int)
                            · have HX0 : Hid (f x = false) := Lib.hid (by rw [HF.out]; simp [hxv])
                              have hd : (x != (v : Int)) = false := by simp [hxv]
                              go_wp2_with fail
                              refine ⟨⟨j + 1, by omega, by go_num, ?_, HB4⟩, by simp [intOf]; omega⟩
                              rw [HS.out, HX0.out, Bool.or_false]
                              exact HK4
                            · have HX0 : Hid (f x = hasB u x) := Lib.hid (by rw [HF.out]; simp [hxv])
                              have hd : (x != (v : Int)) = true := by simp [hxv]
                              have H2 := Lib.hid (H1.out x)
                              generalize hasB u x = b at H2 HX0
                              go_wp2_with fail
                              refine (H2.out _).mono ?_
                              rintro e w1 ⟨rfl, hb⟩
                              have HB5 := Lib.hid (HB4.out.trans (hb.mono HB4.out.size))
                              have HK5 := Lib.hid (HK4.out.below hb HK4.out.lt)
                              clear hb c0 c1 c2 g0 g1 g2
                              cases b with
                              | true =>
                                have f3 := HK5.out.frozen k2
                                have f4 := (HK5.out.cell k2).trans (bools_at _ hkt)
                                go_wp2_with fail
                                refine ⟨⟨j + 1, by omega, by go_num, ?_, ?_⟩, by simp [intOf]; omega⟩
                                · refine Lib.hid ?_
                                  have := HK5.out.set_ k2 (.bool true)
                                  rw [bools_set] at this
                                  rw [HS.out, HX0.out, show (fun z => q z || ((bj || true) && z == k2)) = fun z => (q z || (bj && z == k2)) || z == k2 by funext z; cases bj <;> cases q z <;> simp]
                                  exact this
                                · exact Lib.hid (HB5.out.setCell hgb _)
                              | false =>
                                go_wp2_with fail
                                refine ⟨⟨j + 1, by omega, by go_num, ?_, HB5⟩, by simp [intOf]; omega⟩
                                rw [HS.out, HX0.out, Bool.or_false]
                                exact HK5
                          · obtain rfl : j = 3 := by omega
                            go_wp2_with fail
                            refine ⟨⟨k2 + 1, by omega, by go_num, ?_, HB4⟩, by simp [intOf]; omega⟩
                            rw [HST2.out]
                            exact HK4
                  · obtain rfl : k2 = m := by omega
                    go_wp2_with fail
                    refine ⟨⟨i + 1, by omega, by go_num, ?_, HB3⟩, by simp [intOf]; omega⟩
                    rw [← stateB_row]
                    exact HK3
              · obtain rfl : i = m := by omega
                go_wp2_with fail
                refine ⟨⟨cc + 1, by omega, by go_num, ?_, HBi⟩, by simp [intOf]; omega⟩
                rw [HPS.out, ← stateB_end]
                exact HK2
          · obtain rfl : cc = m := by omega
            clear hct hcc
            generalize passesB (shT L v) cc cc = p at *
            go_wp2_with fail
            obtain ⟨wE, rfl⟩ : ∃ wE : World, wE = wr := ⟨_, rfl⟩
            go_loopw [12] (fun iv wq => ∃ i : Nat, i ≤ cc ∧ iv = .int .i64 i ∧ wq = wE ∧ ∀ j, j < i → p j = true) (fun iv _ => cc - (intOf iv).toNat)
            case atStart => exact ⟨0, by omega, rfl, rfl, fun j hj => absurd hj (by omega)⟩
            case round =>
              obtain ⟨i, hi, rfl, rfl, hall⟩ := hrel
              have HA := Lib.hid hall
              clear hall
              by_cases hit : i < cc
              · have f1 := (HK.out.cell i).trans (bools_at _ hit)
                have hi0 : (0 : Int) ≤ (i : Int) := by omega
                have hi1 : (i : Int) < (cc : Int) := by omega
                have HP := Lib.hid (show p i = p i from rfl)
                generalize hpi : p i = b at f1
                have HPI := Lib.hid hpi
                clear hpi HP
                cases b with
                | true =>
                  go_wp2_with fail
                  refine ⟨⟨i + 1, by omega, by go_num, trivial, fun j hj => ?_⟩, by simp [intOf]; omega⟩
                  by_cases hji : j < i
                  · exact HA.out j hji
                  · rw [show j = i by omega]; exact HPI.out
                | false =>
                  go_wp2_with fail
                  go_ret
                  refine ⟨?_, HBW.out.trans (HB.out.mono HBW.out.size)⟩
                  rw [HPN.out, any_false_of hit HPI.out]
                  rfl
              · go_wp2_with fail
                go_ret
                refine ⟨?_, HBW.out.trans (HB.out.mono HBW.out.size)⟩
                have e : (List.range cc).all p = true := by rw [List.all_eq_true]; exact fun j hj => HA.out j (by have := List.mem_range.1 hj; omega)
                rw [HPN.out, e]
                rfl
end Go.Proofs.YtbdicndkkenbgaaGreat
