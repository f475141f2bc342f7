/- certify.All, walked: the witnesses of the first kind of which there are any. No condition. -/
import Derived.Test.YtdmibpcpocacpaaPinch
namespace Go.Proofs.Ytdmibpcpocacpaa
open Go.RowKit

def picksD (p : Nat → Bool) (k : Nat) : List (Int × Int) := ((List.range k).filter p).map fun i : Nat => ((i : Int), 0)
theorem picks_wit (kind : Int) (p : Nat → Bool) (k : Nat) : picks kind p k = (picksD p k).map (wit kind) := by
  unfold picks picksD
  rw [List.map_map]
  rfl
def outD (L : List (Nat × Nat)) : List (Int × Int) := L.map fun p => ((p.1 : Int), (p.2 : Int))
theorem outW_wit (kind : Int) (L : List (Nat × Nat)) : outW kind L = (outD L).map (wit kind) := by
  unfold outW outD
  rw [List.map_map]
  rfl
def indexD (N : Int) (n : Nat) (T : List Tri) : List (Int × Int) := if sizeB N n then [(-1, 0)] else picksD (indexB N T) n
theorem indexL_wit (N : Int) (n : Nat) (T : List Tri) : indexL N n T = (indexD N n T).map (wit 1) := by
  unfold indexL indexD
  split
  · rfl
  · exact picks_wit _ _ _
/-- The first kind of which there are any, and them. -/
def firstK : List (Int × List (Int × Int)) → List (Int × Int × Int)
  | [] => []
  | x :: l => if x.2 = [] then firstK l else (sortP x.2).map (wit x.1)
noncomputable def allK (N : Int) (n m : Nat) (T : List Tri) : List (Int × List (Int × Int)) :=
  [(1, indexD N n T),
   (2, picksD (loopB T) n),
   (3, outD (PS.to keys2 T n).out),
   (4, outD (PS.to keys3 T n).out),
   (5, picksD (fun v => !usedTo T n v) m),
   (6, picksD (fun v => !connB T (v : Int) (atL T n (v : Int))) m)]
noncomputable def allL (N : Int) (T : List Tri) : List (Int × Int × Int) := firstK (allK N T.length N.toNat T)
theorem firstK_yes {k : Int} {D : List (Int × Int)} {l : List (Int × List (Int × Int))} (h : D ≠ []) : firstK ((k, D) :: l) = (sortP D).map (wit k) := by
  show (if D = [] then _ else _) = _
  rw [if_neg h]
theorem firstK_no {k : Int} {D : List (Int × Int)} {l : List (Int × List (Int × Int))} (h : D = []) : firstK ((k, D) :: l) = firstK l := by
  show (if D = [] then _ else _) = _
  rw [if_pos h]

theorem sortP_len (d : List (Int × Int)) : (sortP d).length = d.length := by unfold sortP; exact List.length_mergeSort _
theorem picksD_len (p : Nat → Bool) (k : Nat) : (picksD p k).length ≤ k := by
  unfold picksD
  rw [List.length_map]
  exact Nat.le_trans (List.length_filter_le _ _) (by simp)
theorem indexD_len (N : Int) (n : Nat) (T : List Tri) : (indexD N n T).length ≤ n + 1 := by
  unfold indexD
  split
  · simp
  · exact Nat.le_succ_of_le (picksD_len _ _)
theorem outD_len {keys : Tri → List K3} (hk : ∀ t, (keys t).length ≤ 3) (T : List Tri) {n : Nat} (hn : n ≤ 1000) : (outD (PS.to keys T n).out).length ≤ 1000000 := by
  unfold outD
  rw [List.length_map]
  have h1 := outOk_len (to_ok keys hk T (n := n) n (Nat.le_refl _)).out
  have h2 : n * n ≤ 1000 * 1000 := Nat.mul_le_mul hn hn
  omega
theorem indexD_nil {N : Int} {n : Nat} {T : List Tri} (hT : T.length = n) (h : indexD N n T = []) : 0 ≤ N ∧ N ≤ 4096 ∧ ∀ t ∈ T, (0 ≤ t.a ∧ t.a < N) ∧ (0 ≤ t.b ∧ t.b < N) ∧ (0 ≤ t.c ∧ t.c < N) := by
  unfold indexD at h
  split at h
  · cases h
  · rename_i hs
    have hs2 : ¬ (N < 0 ∨ 4096 < N) := by
      intro h'
      apply hs
      unfold sizeB
      simp only [Bool.or_eq_true, decide_eq_true_eq]
      exact .inl h'
    refine ⟨by omega, by omega, fun t ht => ?_⟩
    obtain ⟨i, hi, e⟩ := List.getElem_of_mem ht
    have hb : indexB N T i = false := by
      cases hb : indexB N T i with
      | false => rfl
      | true =>
        have : ((i : Int), (0 : Int)) ∈ picksD (indexB N T) n := by
          unfold picksD
          exact List.mem_map.2 ⟨i, List.mem_filter.2 ⟨List.mem_range.2 (by omega), hb⟩, rfl⟩
        rw [h] at this
        cases this
    unfold indexB at hb
    rw [List.getElem?_eq_getElem hi, e] at hb
    simp only [Bool.or_eq_false_iff] at hb
    exact ⟨badV_no (by rw [hb.1.1]; decide), badV_no (by rw [hb.1.2]; decide), badV_no (by rw [hb.2]; decide)⟩
theorem loopD_nil {n : Nat} {T : List Tri} (hT : T.length = n) (h : picksD (loopB T) n = []) : ∀ t ∈ T, t.a ≠ t.b ∧ t.b ≠ t.c ∧ t.c ≠ t.a := by
  intro t ht
  obtain ⟨i, hi, e⟩ := List.getElem_of_mem ht
  have hb : loopB T i = false := by
    cases hb : loopB T i with
    | false => rfl
    | true =>
      have : ((i : Int), (0 : Int)) ∈ picksD (loopB T) n := by
        unfold picksD
        exact List.mem_map.2 ⟨i, List.mem_filter.2 ⟨List.mem_range.2 (by omega), hb⟩, rfl⟩
      rw [h] at this
      cases this
  unfold loopB at hb
  rw [List.getElem?_eq_getElem hi, e] at hb
  simp only [Bool.or_eq_false_iff, beq_eq_false_iff_ne] at hb
  exact ⟨hb.1.1, hb.1.2, hb.2⟩
theorem lonelyD_nil {n m : Nat} {T : List Tri} (hT : T.length = n) (h : picksD (fun v => !usedTo T n v) m = []) : ∀ v, v < m → atL T n (v : Int) ≠ [] := by
  intro v hv e
  have hb : usedTo T n v = true := by
    cases hb : usedTo T n v with
    | true => rfl
    | false =>
      have : ((v : Int), (0 : Int)) ∈ picksD (fun v => !usedTo T n v) m := by
        unfold picksD
        exact List.mem_map.2 ⟨v, List.mem_filter.2 ⟨List.mem_range.2 hv, by rw [hb]; rfl⟩, rfl⟩
      rw [h] at this
      cases this
  unfold usedTo at hb
  rw [List.any_eq_true] at hb
  obtain ⟨t, ht, hv2⟩ := hb
  have ht := List.mem_of_mem_take ht
  obtain ⟨i, hi, et⟩ := List.getElem_of_mem ht
  have : i ∈ atL T n (v : Int) := by
    unfold atL
    refine List.mem_filter.2 ⟨List.mem_range.2 (by omega), decide_eq_true ?_⟩
    rw [tri_of (List.getElem?_eq_getElem hi), et]
    unfold hasV at hv2
    simp only [Bool.or_eq_true, beq_iff_eq] at hv2
    simp only [verts, List.mem_cons, List.not_mem_nil, or_false]
    rcases hv2 with (h | h) | h
    · exact .inl h.symm
    · exact .inr (.inl h.symm)
    · exact .inr (.inr h.symm)
  rw [e] at this
  cases this

def funs : Array Value := #[.func (.func 46) #[] #[], .func (.func 47) #[] #[], .func (.func 48) #[] #[], .func (.func 49) #[] #[], .func (.func 50) #[] #[], .func (.func 51) #[] #[]] 
/-- Between two kinds. -/
structure AllMid (w V : World) (N : Int) (A : Option Addr) (n c : Nat) (T : List Tri) : Prop where
  below : Below w.heap.size w V
  box : Blk V w.heap.size 24 #[.int .i64 N, .slice A n c]
  funs : Blk V (w.heap.size + 1) 68 funs
  tris : TrisAt V V.heap.size A n T
theorem AllMid.next {w V V' : World} {N : Int} {A : Option Addr} {n c : Nat} {T : List Tri} (h : AllMid w V N A n c T) (hb : Below V.heap.size V V') : AllMid w V' N A n c T :=
  ⟨h.below.trans (hb.mono h.below.size), h.box.below hb h.box.lt, h.funs.below hb h.funs.lt, (h.tris.below hb).more hb.size⟩

set_option maxRecDepth 100000 in
set_option maxHeartbeats 8000000 in
theorem all_any (N : Int) (A : Option Addr) (n c : Nat) (T : List Tri) (w : World) (hn : n ≤ 1000) (ht : TrisAt w w.heap.size A n T) :
    Calls Try.prog 43 #[.agg #[.int .i64 N, .slice A n c]] w (WitPost w (allL N T)) := by
  have HLT := Lib.hid ht.len
  have HALL : Hid (allL N T = firstK (allK N n N.toNat T)) := Lib.hid (by unfold allL; rw [HLT.out])
  have HT := Lib.hid ht
  clear ht
  go_enter Try.func43, Try.ntmps43
  go_wp2_with fail
  obtain ⟨V, hV⟩ : ∃ V, V = (w.alloc (.cells #[.int .i64 N, .slice A n c] 24)).alloc (.cells funs 68) := ⟨_, rfl⟩
  have HM0 : Hid (AllMid w V N A n c T) := by
    subst hV
    have hb : Below w.heap.size w ((w.alloc (.cells #[.int .i64 N, .slice A n c] 24)).alloc (.cells funs 68)) := ((Below.refl _ _).alloc (Nat.le_refl _) _).alloc (by simp) _
    exact Lib.hid ⟨hb, (Blk.new _ _ _).alloc _, Blk.new_ (by simp) _ _, (HT.out.below hb).more hb.size⟩
  have hV' := hV
  unfold funs at hV'
  rw [← hV']
  clear hV hV' HT
  refine wp_loop_rounds 7 ?_
  obtain ⟨V0, rfl⟩ : ∃ V0 : World, V0 = V := ⟨_, rfl⟩
  have HALL2 : Hid (allL N T = firstK [(1, indexD N n T), (2, picksD (loopB T) n), (3, outD (PS.to keys2 T n).out), (4, outD (PS.to keys3 T n).out), (5, picksD (fun v => !usedTo T n v) N.toNat), (6, picksD (fun v => !connB T (v : Int) (atL T n (v : Int))) N.toNat)]) := Lib.hid HALL.out
  clear HALL
  have HALL := HALL2
  clear HALL2
  rw [rounds_succ]
  have c0 := HM0.out.box.cell 0
  have c1 := HM0.out.box.cell 1
  have f0 := HM0.out.funs.cell 0
  simp [funs] at c0 c1 f0
  have HCON : Hid (Calls Try.prog 46 #[.agg #[.int .i64 N, .slice A n c]] V0 (WitPost V0 ((indexD N n T).map (wit 1)))) := by
    have TR := HM0.out.tris
    have := index_any N A n c T V0 (by omega) TR
    rw [indexL_wit] at this
    exact Lib.hid this
  have HLEN : Hid ((indexD N n T).length ≤ 100000000) := Lib.hid (Nat.le_trans (indexD_len N n T) (by omega))
  generalize hDD : indexD N n T = D0 at *
  go_wp2_with fail
  refine HCON.out.mono ?_
  rintro e V1 ⟨A1, c1', rfl, hr, hb⟩
  have HM1 := Lib.hid (HM0.out.next (hb.mono (Nat.le_refl _)))
  have HR := Lib.hid hr
  have hL : (D0.map (wit 1)).length = D0.length := List.length_map _
  rw [hL]
  have hVw := HM0.out.below.size
  have HBZ := Lib.hid hb.size
  clear hr hb HCON c0 c1 f0 hL
  by_cases hD : D0 = []
  case neg =>
    have hlen : 0 < D0.length := List.length_pos_iff.2 hD
    have HF : Hid (allL N T = (sortP D0).map (wit 1)) := Lib.hid (by rw [HALL.out]; exact firstK_yes hD)
    have HS := Lib.hid (sortW_any 1 D0 A1 c1' V0.heap.size V1 HR.out hD HLEN.out HBZ.out)
    have hLL : ((sortP D0).map (wit 1)).length = D0.length := by rw [List.length_map, sortP_len]
    have HLL := Lib.hid hLL
    clear hD hLL
    go_wp2_with fail
    refine HS.out.mono ?_
    rintro e w2 ⟨rfl, hr2, hb2⟩
    have HR2 := Lib.hid hr2
    have HB2 := Lib.hid hb2
    clear hr2 hb2
    go_wp2_with fail
    go_ret
    rw [HF.out]
    refine ⟨A1, c1', ?_, own_mono HR2.out hVw, HM1.out.below.trans (HB2.out.mono hVw)⟩
    rw [HLL.out]
    rfl
  have HD0 : Hid (indexD N n T = []) := Lib.hid (hDD.trans hD)
  have HALL0 := HALL
  clear HALL
  have HALL : Hid (allL N T = firstK ([(2, picksD (loopB T) n), (3, outD (PS.to keys2 T n).out), (4, outD (PS.to keys3 T n).out), (5, picksD (fun v => !usedTo T n v) N.toNat), (6, picksD (fun v => !connB T (v : Int) (atL T n (v : Int))) N.toNat)])) := Lib.hid (HALL0.out.trans (firstK_no hD))
  subst hD
  clear HALL0 HLEN HBZ HR hVw hDD
  go_wp2_with fail
  obtain ⟨hN0, hN1, hT1⟩ := indexD_nil HLT.out HD0.out
  obtain ⟨m, rfl⟩ := Int.eq_ofNat_of_zero_le hN0
  have hm : m ≤ 4096 := by omega
  have HT1 := Lib.hid hT1
  rw [Int.toNat_natCast] at HALL
  clear hT1 hN0 hN1
  rw [rounds_succ]
  have c0 := HM1.out.box.cell 0
  have c1 := HM1.out.box.cell 1
  have f0 := HM1.out.funs.cell 1
  simp [funs] at c0 c1 f0
  have HCON : Hid (Calls Try.prog 47 #[.agg #[.int .i64 (m : Int), .slice A n c]] V1 (WitPost V1 ((picksD (loopB T) n).map (wit 2)))) := by
    have TR := HM1.out.tris
    have := loop_any (m : Int) A n c T V1 (by omega) TR
    rw [picks_wit] at this
    exact Lib.hid this
  have HLEN : Hid ((picksD (loopB T) n).length ≤ 100000000) := Lib.hid (Nat.le_trans (picksD_len _ _) (by omega))
  generalize hDD : picksD (loopB T) n = D1 at *
  go_wp2_with fail
  refine HCON.out.mono ?_
  rintro e V2 ⟨A1, c1', rfl, hr, hb⟩
  have HM2 := Lib.hid (HM1.out.next (hb.mono (Nat.le_refl _)))
  have HR := Lib.hid hr
  have hL : (D1.map (wit 2)).length = D1.length := List.length_map _
  rw [hL]
  have hVw := HM1.out.below.size
  have HBZ := Lib.hid hb.size
  clear hr hb HCON c0 c1 f0 hL
  by_cases hD : D1 = []
  case neg =>
    have hlen : 0 < D1.length := List.length_pos_iff.2 hD
    have HF : Hid (allL (m : Int) T = (sortP D1).map (wit 2)) := Lib.hid (by rw [HALL.out]; exact firstK_yes hD)
    have HS := Lib.hid (sortW_any 2 D1 A1 c1' V1.heap.size V2 HR.out hD HLEN.out HBZ.out)
    have hLL : ((sortP D1).map (wit 2)).length = D1.length := by rw [List.length_map, sortP_len]
    have HLL := Lib.hid hLL
    clear hD hLL
    go_wp2_with fail
    refine HS.out.mono ?_
    rintro e w2 ⟨rfl, hr2, hb2⟩
    have HR2 := Lib.hid hr2
    have HB2 := Lib.hid hb2
    clear hr2 hb2
    go_wp2_with fail
    go_ret
    rw [HF.out]
    refine ⟨A1, c1', ?_, own_mono HR2.out hVw, HM2.out.below.trans (HB2.out.mono hVw)⟩
    rw [HLL.out]
    rfl
  have HD1 : Hid (picksD (loopB T) n = []) := Lib.hid (hDD.trans hD)
  have HALL1 := HALL
  clear HALL
  have HALL : Hid (allL (m : Int) T = firstK ([(3, outD (PS.to keys2 T n).out), (4, outD (PS.to keys3 T n).out), (5, picksD (fun v => !usedTo T n v) m), (6, picksD (fun v => !connB T (v : Int) (atL T n (v : Int))) m)])) := Lib.hid (HALL1.out.trans (firstK_no hD))
  subst hD
  clear HALL1 HLEN HBZ HR hVw hDD
  go_wp2_with fail
  have HOK : Hid (∀ t ∈ T, TriOk m t) := by
    refine Lib.hid fun t ht => ?_
    obtain ⟨⟨a0, a1⟩, ⟨b0, b1⟩, c0, c1⟩ := HT1.out t ht
    obtain ⟨h1, h2, h3⟩ := loopD_nil HLT.out HD1.out t ht
    exact ⟨a0, a1, b0, b1, c0, c1, h1, h2, h3⟩
  rw [rounds_succ]
  have c0 := HM2.out.box.cell 0
  have c1 := HM2.out.box.cell 1
  have f0 := HM2.out.funs.cell 2
  simp [funs] at c0 c1 f0
  have HCON : Hid (Calls Try.prog 48 #[.agg #[.int .i64 (m : Int), .slice A n c]] V2 (WitPost V2 ((outD (PS.to keys2 T n).out).map (wit 3)))) := by
    have TR := HM2.out.tris
    have := twice_any m A n c T V2 hm hn TR HOK.out
    rw [outW_wit] at this
    exact Lib.hid this
  have HLEN : Hid ((outD (PS.to keys2 T n).out).length ≤ 100000000) := Lib.hid (Nat.le_trans (outD_len (fun _ => Nat.le_refl _) T hn) (by omega))
  generalize hDD : outD (PS.to keys2 T n).out = D2 at *
  go_wp2_with fail
  refine HCON.out.mono ?_
  rintro e V3 ⟨A1, c1', rfl, hr, hb⟩
  have HM3 := Lib.hid (HM2.out.next (hb.mono (Nat.le_refl _)))
  have HR := Lib.hid hr
  have hL : (D2.map (wit 3)).length = D2.length := List.length_map _
  rw [hL]
  have hVw := HM2.out.below.size
  have HBZ := Lib.hid hb.size
  clear hr hb HCON c0 c1 f0 hL
  by_cases hD : D2 = []
  case neg =>
    have hlen : 0 < D2.length := List.length_pos_iff.2 hD
    have HF : Hid (allL (m : Int) T = (sortP D2).map (wit 3)) := Lib.hid (by rw [HALL.out]; exact firstK_yes hD)
    have HS := Lib.hid (sortW_any 3 D2 A1 c1' V2.heap.size V3 HR.out hD HLEN.out HBZ.out)
    have hLL : ((sortP D2).map (wit 3)).length = D2.length := by rw [List.length_map, sortP_len]
    have HLL := Lib.hid hLL
    clear hD hLL
    go_wp2_with fail
    refine HS.out.mono ?_
    rintro e w2 ⟨rfl, hr2, hb2⟩
    have HR2 := Lib.hid hr2
    have HB2 := Lib.hid hb2
    clear hr2 hb2
    go_wp2_with fail
    go_ret
    rw [HF.out]
    refine ⟨A1, c1', ?_, own_mono HR2.out hVw, HM3.out.below.trans (HB2.out.mono hVw)⟩
    rw [HLL.out]
    rfl
  have HD2 : Hid (outD (PS.to keys2 T n).out = []) := Lib.hid (hDD.trans hD)
  have HALL2 := HALL
  clear HALL
  have HALL : Hid (allL (m : Int) T = firstK ([(4, outD (PS.to keys3 T n).out), (5, picksD (fun v => !usedTo T n v) m), (6, picksD (fun v => !connB T (v : Int) (atL T n (v : Int))) m)])) := Lib.hid (HALL2.out.trans (firstK_no hD))
  subst hD
  clear HALL2 HLEN HBZ HR hVw hDD
  go_wp2_with fail
  rw [rounds_succ]
  have c0 := HM3.out.box.cell 0
  have c1 := HM3.out.box.cell 1
  have f0 := HM3.out.funs.cell 3
  simp [funs] at c0 c1 f0
  have HCON : Hid (Calls Try.prog 49 #[.agg #[.int .i64 (m : Int), .slice A n c]] V3 (WitPost V3 ((outD (PS.to keys3 T n).out).map (wit 4)))) := by
    have TR := HM3.out.tris
    have := mirrored_any m A n c T V3 hm hn TR HOK.out
    rw [outW_wit] at this
    exact Lib.hid this
  have HLEN : Hid ((outD (PS.to keys3 T n).out).length ≤ 100000000) := Lib.hid (Nat.le_trans (outD_len (fun t => by simp [keys3]) T hn) (by omega))
  generalize hDD : outD (PS.to keys3 T n).out = D3 at *
  go_wp2_with fail
  refine HCON.out.mono ?_
  rintro e V4 ⟨A1, c1', rfl, hr, hb⟩
  have HM4 := Lib.hid (HM3.out.next (hb.mono (Nat.le_refl _)))
  have HR := Lib.hid hr
  have hL : (D3.map (wit 4)).length = D3.length := List.length_map _
  rw [hL]
  have hVw := HM3.out.below.size
  have HBZ := Lib.hid hb.size
  clear hr hb HCON c0 c1 f0 hL
  by_cases hD : D3 = []
  case neg =>
    have hlen : 0 < D3.length := List.length_pos_iff.2 hD
    have HF : Hid (allL (m : Int) T = (sortP D3).map (wit 4)) := Lib.hid (by rw [HALL.out]; exact firstK_yes hD)
    have HS := Lib.hid (sortW_any 4 D3 A1 c1' V3.heap.size V4 HR.out hD HLEN.out HBZ.out)
    have hLL : ((sortP D3).map (wit 4)).length = D3.length := by rw [List.length_map, sortP_len]
    have HLL := Lib.hid hLL
    clear hD hLL
    go_wp2_with fail
    refine HS.out.mono ?_
    rintro e w2 ⟨rfl, hr2, hb2⟩
    have HR2 := Lib.hid hr2
    have HB2 := Lib.hid hb2
    clear hr2 hb2
    go_wp2_with fail
    go_ret
    rw [HF.out]
    refine ⟨A1, c1', ?_, own_mono HR2.out hVw, HM4.out.below.trans (HB2.out.mono hVw)⟩
    rw [HLL.out]
    rfl
  have HD3 : Hid (outD (PS.to keys3 T n).out = []) := Lib.hid (hDD.trans hD)
  have HALL3 := HALL
  clear HALL
  have HALL : Hid (allL (m : Int) T = firstK ([(5, picksD (fun v => !usedTo T n v) m), (6, picksD (fun v => !connB T (v : Int) (atL T n (v : Int))) m)])) := Lib.hid (HALL3.out.trans (firstK_no hD))
  subst hD
  clear HALL3 HLEN HBZ HR hVw hDD
  go_wp2_with fail
  rw [rounds_succ]
  have c0 := HM4.out.box.cell 0
  have c1 := HM4.out.box.cell 1
  have f0 := HM4.out.funs.cell 4
  simp [funs] at c0 c1 f0
  have HCON : Hid (Calls Try.prog 50 #[.agg #[.int .i64 (m : Int), .slice A n c]] V4 (WitPost V4 ((picksD (fun v => !usedTo T n v) m).map (wit 5)))) := by
    have TR := HM4.out.tris
    have := lonely_any m A n c T V4 hm (by omega) TR HOK.out
    rw [picks_wit] at this
    exact Lib.hid this
  have HLEN : Hid ((picksD (fun v => !usedTo T n v) m).length ≤ 100000000) := Lib.hid (Nat.le_trans (picksD_len _ _) (by omega))
  generalize hDD : picksD (fun v => !usedTo T n v) m = D4 at *
  go_wp2_with fail
  refine HCON.out.mono ?_
  rintro e V5 ⟨A1, c1', rfl, hr, hb⟩
  have HM5 := Lib.hid (HM4.out.next (hb.mono (Nat.le_refl _)))
  have HR := Lib.hid hr
  have hL : (D4.map (wit 5)).length = D4.length := List.length_map _
  rw [hL]
  have hVw := HM4.out.below.size
  have HBZ := Lib.hid hb.size
  clear hr hb HCON c0 c1 f0 hL
  by_cases hD : D4 = []
  case neg =>
    have hlen : 0 < D4.length := List.length_pos_iff.2 hD
    have HF : Hid (allL (m : Int) T = (sortP D4).map (wit 5)) := Lib.hid (by rw [HALL.out]; exact firstK_yes hD)
    have HS := Lib.hid (sortW_any 5 D4 A1 c1' V4.heap.size V5 HR.out hD HLEN.out HBZ.out)
    have hLL : ((sortP D4).map (wit 5)).length = D4.length := by rw [List.length_map, sortP_len]
    have HLL := Lib.hid hLL
    clear hD hLL
    go_wp2_with fail
    refine HS.out.mono ?_
    rintro e w2 ⟨rfl, hr2, hb2⟩
    have HR2 := Lib.hid hr2
    have HB2 := Lib.hid hb2
    clear hr2 hb2
    go_wp2_with fail
    go_ret
    rw [HF.out]
    refine ⟨A1, c1', ?_, own_mono HR2.out hVw, HM5.out.below.trans (HB2.out.mono hVw)⟩
    rw [HLL.out]
    rfl
  have HD4 : Hid (picksD (fun v => !usedTo T n v) m = []) := Lib.hid (hDD.trans hD)
  have HALL4 := HALL
  clear HALL
  have HALL : Hid (allL (m : Int) T = firstK ([(6, picksD (fun v => !connB T (v : Int) (atL T n (v : Int))) m)])) := Lib.hid (HALL4.out.trans (firstK_no hD))
  subst hD
  clear HALL4 HLEN HBZ HR hVw hDD
  go_wp2_with fail
  have HUSE := Lib.hid (lonelyD_nil HLT.out HD4.out)
  rw [rounds_succ]
  have c0 := HM5.out.box.cell 0
  have c1 := HM5.out.box.cell 1
  have f0 := HM5.out.funs.cell 5
  simp [funs] at c0 c1 f0
  have HCON : Hid (Calls Try.prog 51 #[.agg #[.int .i64 (m : Int), .slice A n c]] V5 (WitPost V5 ((picksD (fun v => !connB T (v : Int) (atL T n (v : Int))) m).map (wit 6)))) := by
    have TR := HM5.out.tris
    have := pinch_any m A n c T V5 hm hn TR HOK.out HUSE.out
    rw [picks_wit] at this
    exact Lib.hid this
  have HLEN : Hid ((picksD (fun v => !connB T (v : Int) (atL T n (v : Int))) m).length ≤ 100000000) := Lib.hid (Nat.le_trans (picksD_len _ _) (by omega))
  generalize hDD : picksD (fun v => !connB T (v : Int) (atL T n (v : Int))) m = D5 at *
  go_wp2_with fail
  refine HCON.out.mono ?_
  rintro e V6 ⟨A1, c1', rfl, hr, hb⟩
  have HM6 := Lib.hid (HM5.out.next (hb.mono (Nat.le_refl _)))
  have HR := Lib.hid hr
  have hL : (D5.map (wit 6)).length = D5.length := List.length_map _
  rw [hL]
  have hVw := HM5.out.below.size
  have HBZ := Lib.hid hb.size
  clear hr hb HCON c0 c1 f0 hL
  by_cases hD : D5 = []
  case neg =>
    have hlen : 0 < D5.length := List.length_pos_iff.2 hD
    have HF : Hid (allL (m : Int) T = (sortP D5).map (wit 6)) := Lib.hid (by rw [HALL.out]; exact firstK_yes hD)
    have HS := Lib.hid (sortW_any 6 D5 A1 c1' V5.heap.size V6 HR.out hD HLEN.out HBZ.out)
    have hLL : ((sortP D5).map (wit 6)).length = D5.length := by rw [List.length_map, sortP_len]
    have HLL := Lib.hid hLL
    clear hD hLL
    go_wp2_with fail
    refine HS.out.mono ?_
    rintro e w2 ⟨rfl, hr2, hb2⟩
    have HR2 := Lib.hid hr2
    have HB2 := Lib.hid hb2
    clear hr2 hb2
    go_wp2_with fail
    go_ret
    rw [HF.out]
    refine ⟨A1, c1', ?_, own_mono HR2.out hVw, HM6.out.below.trans (HB2.out.mono hVw)⟩
    rw [HLL.out]
    rfl
  have HD5 : Hid (picksD (fun v => !connB T (v : Int) (atL T n (v : Int))) m = []) := Lib.hid (hDD.trans hD)
  have HALL5 := HALL
  clear HALL
  have HALL : Hid (allL (m : Int) T = firstK ([])) := Lib.hid (HALL5.out.trans (firstK_no hD))
  subst hD
  clear HALL5 HLEN HBZ HR hVw hDD
  go_wp2_with fail
  rw [rounds_succ]
  go_wp2_with fail
  go_ret
  rw [HALL.out]
  exact ⟨none, 0, rfl, World.ownsRow_nil _ _ _ _, HM6.out.below⟩
end Go.Proofs.Ytdmibpcpocacpaa
