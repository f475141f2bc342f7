/- The orbits, as symmetry.Orbits finds them: of each vertex the least one to which a renumbering takes it. Plain. No condition. -/
import Derived.Test.YtiajlmajenabiaaGreatWz47
set_option maxRecDepth 100000
set_option maxHeartbeats 16000000
set_option linter.all false
namespace Go.Proofs.YtiajlmajenabiaaGreat
open Go.RowKit
def wMin (n : Nat) (ws : List (List Int)) (a : Int) : Int := ws.foldl (fun a w => min a (w.getD n 0)) a
def kMin (n : Nat) (kj : KindV) (ks : List KindV) (a : Int) : Int := ks.foldl (fun a o => if alikeK o kj then wMin n o.ws a else a) a
theorem wMin_succ {n p : Nat} {ws : List (List Int)} {a : Int} {w : List Int} (h : ws[p]? = some w) : wMin n (ws.take (p + 1)) a = min (wMin n (ws.take p) a) (w.getD n 0) := by
 unfold wMin
 rw [List.take_add_one, h, List.foldl_append]
 rfl
theorem kMin_yes {n q : Nat} {kj k : KindV} {ks : List KindV} {a : Int} (h : ks[q]? = some k) (ha : alikeK k kj = true) : kMin n kj (ks.take (q + 1)) a = wMin n k.ws (kMin n kj (ks.take q) a) := by
 unfold kMin
 rw [List.take_add_one, h, List.foldl_append]
 simp [ha]
theorem kMin_no {n q : Nat} {kj k : KindV} {ks : List KindV} {a : Int} (h : ks[q]? = some k) (ha : alikeK k kj = false) : kMin n kj (ks.take (q + 1)) a = kMin n kj (ks.take q) a := by
 unfold kMin
 rw [List.take_add_one, h, List.foldl_append]
 simp [ha]
theorem wMin_is (n : Nat) : ∀ (ws : List (List Int)) (a : Int), wMin n ws a ≤ a ∧ (∀ w ∈ ws, wMin n ws a ≤ w.getD n 0) ∧ (wMin n ws a = a ∨ ∃ w ∈ ws, wMin n ws a = w.getD n 0)
 | [], a => ⟨Int.le_refl _, (fun w hw => by cases hw), .inl rfl⟩
 | x :: ws, a => by
  obtain ⟨h1, h2, h3⟩ := wMin_is n ws (min a (x.getD n 0))
  have e : wMin n (x :: ws) a = wMin n ws (min a (x.getD n 0)) := rfl
  rw [e]
  refine ⟨by omega, fun w hw => ?_, ?_⟩
  · rcases List.mem_cons.1 hw with rfl | hw
    · omega
    · exact h2 w hw
  · rcases h3 with h3 | ⟨w, hw, h3⟩
    · rcases (by omega : min a (x.getD n 0) = a ∨ min a (x.getD n 0) = x.getD n 0) with h | h
      · exact .inl (by omega)
      · exact .inr ⟨x, List.mem_cons_self, by omega⟩
    · exact .inr ⟨w, List.mem_cons_of_mem _ hw, h3⟩
theorem kMin_is (n : Nat) (kj : KindV) : ∀ (ks : List KindV) (a : Int), kMin n kj ks a ≤ a ∧ (∀ k ∈ ks, alikeK k kj = true → ∀ w ∈ k.ws, kMin n kj ks a ≤ w.getD n 0) ∧ (kMin n kj ks a = a ∨ ∃ k ∈ ks, alikeK k kj = true ∧ ∃ w ∈ k.ws, kMin n kj ks a = w.getD n 0)
 | [], a => ⟨Int.le_refl _, (fun k hk => by cases hk), .inl rfl⟩
 | x :: ks, a => by
  have e : kMin n kj (x :: ks) a = kMin n kj ks (if alikeK x kj then wMin n x.ws a else a) := rfl
  rw [e]
  obtain ⟨h1, h2, h3⟩ := kMin_is n kj ks (if alikeK x kj then wMin n x.ws a else a)
  obtain ⟨w1, w2, w3⟩ := wMin_is n x.ws a
  by_cases ha : alikeK x kj = true
  · rw [if_pos ha] at h1 h2 h3 ⊢
    refine ⟨by omega, fun k hk hak w hw => ?_, ?_⟩
    · rcases List.mem_cons.1 hk with rfl | hk
      · have := w2 w hw; omega
      · exact h2 k hk hak w hw
    · rcases h3 with h3 | ⟨k, hk, hak, w, hw, h3⟩
      · rcases w3 with w3 | ⟨w, hw, w3⟩
        · exact .inl (by omega)
        · exact .inr ⟨x, List.mem_cons_self, ha, w, hw, by omega⟩
      · exact .inr ⟨k, List.mem_cons_of_mem _ hk, hak, w, hw, h3⟩
  · rw [if_neg ha] at h1 h2 h3 ⊢
    refine ⟨h1, fun k hk hak w hw => ?_, ?_⟩
    · rcases List.mem_cons.1 hk with rfl | hk
      · exact absurd hak ha
      · exact h2 k hk hak w hw
    · rcases h3 with h3 | ⟨k, hk, hak, w, hw, h3⟩
      · exact .inl h3
      · exact .inr ⟨k, List.mem_cons_of_mem _ hk, hak, w, hw, h3⟩
def wr1 (V : List Int) : Nat → List Int → List Int
 | 0, O => O
 | n + 1, O => (wr1 V n O).set (V.getD n 0).toNat (V.getD n 0)
def wr2 (ks : List KindV) (kj : KindV) (V : List Int) : Nat → List Int → List Int
 | 0, O => O
 | n + 1, O => (wr2 ks kj V n O).set (V.getD n 0).toNat (kMin n kj ks ((wr2 ks kj V n O).getD (V.getD n 0).toNat 0))
def orbS (ks : List KindV) : Nat → List Int → List Int
 | 0, O => O
 | i + 1, O => wr2 ks (kAt ks i) (plW ks i) (plW ks i).length (wr1 (plW ks i) (plW ks i).length (orbS ks i O))
theorem wr1_len (V O : List Int) : ∀ n, (wr1 V n O).length = O.length
 | 0 => rfl
 | n + 1 => by rw [wr1, List.length_set, wr1_len V O n]
theorem wr2_len (ks : List KindV) (kj : KindV) (V O : List Int) : ∀ n, (wr2 ks kj V n O).length = O.length
 | 0 => rfl
 | n + 1 => by rw [wr2, List.length_set, wr2_len ks kj V O n]
theorem orbS_len (ks : List KindV) (O : List Int) : ∀ i, (orbS ks i O).length = O.length
 | 0 => rfl
 | i + 1 => by rw [orbS, wr2_len, wr1_len, orbS_len ks O i]
def orbL (m : Nat) (T : List Tri) : List Int := orbS (kindsL T (kN T)) (kN T) (List.replicate m 0)
section
variable {m : Nat} {T : List Tri}
theorem wr1_off {V O : List Int} {q : Nat} : ∀ n, n ≤ V.length → (∀ v ∈ V, v.toNat ≠ q) → (wr1 V n O).getD q 0 = O.getD q 0
 | 0, _, _ => rfl
 | n + 1, hn, h => by
  rw [wr1, getD_setN, if_neg, wr1_off n (by omega) h]
  rintro ⟨e, _⟩
  refine h (V.getD n 0) ?_ e
  rw [List.getD_eq_getElem?_getD, List.getElem?_eq_getElem (show n < V.length by omega)]
  exact List.getElem_mem _
theorem wr1_at {V O : List Int} (h0 : ∀ v ∈ V, 0 ≤ v ∧ v.toNat < O.length) {k : Nat} : ∀ n, n ≤ V.length → k < n → (wr1 V n O).getD (V.getD k 0).toNat 0 = V.getD k 0
 | 0, _, h => by omega
 | n + 1, hn, h => by
  have hm : ∀ j, j < V.length → V.getD j 0 ∈ V := fun j hj => by
   rw [List.getD_eq_getElem?_getD, List.getElem?_eq_getElem hj]
   exact List.getElem_mem _
  rw [wr1, getD_setN]
  by_cases e : (V.getD n 0).toNat = (V.getD k 0).toNat
  · rw [if_pos ⟨e, by rw [wr1_len]; exact (h0 _ (hm n (by omega))).2⟩]
    have a1 := (h0 _ (hm n (by omega))).1
    have a2 := (h0 _ (hm k (by omega))).1
    omega
  · rw [if_neg (fun h => e h.1)]
    refine wr1_at h0 n (by omega) ?_
    rcases Nat.lt_succ_iff_lt_or_eq.1 h with h | h
    · exact h
    · exact absurd (by rw [h]) e
theorem wr2_off {ks : List KindV} {kj : KindV} {V O : List Int} {q : Nat} : ∀ n, n ≤ V.length → (∀ k, k < n → (V.getD k 0).toNat ≠ q) → (wr2 ks kj V n O).getD q 0 = O.getD q 0
 | 0, _, _ => rfl
 | n + 1, hn, h => by
  rw [wr2, getD_setN, if_neg (fun e => h n (by omega) e.1), wr2_off n (by omega) fun k hk => h k (by omega)]
theorem wr2_at {ks : List KindV} {kj : KindV} {V O : List Int} (hnd : V.Nodup) (h0 : ∀ v ∈ V, 0 ≤ v ∧ v.toNat < O.length) {k : Nat} : ∀ n, n ≤ V.length → k < n → (wr2 ks kj V n O).getD (V.getD k 0).toNat 0 = kMin k kj ks (O.getD (V.getD k 0).toNat 0)
 | 0, _, h => by omega
 | n + 1, hn, h => by
  have hg : ∀ j (hj : j < V.length), V.getD j 0 = V[j] := fun j hj => by rw [List.getD_eq_getElem?_getD, List.getElem?_eq_getElem hj]; rfl
  have hne : ∀ a b, a < V.length → b < V.length → a ≠ b → (V.getD a 0).toNat ≠ (V.getD b 0).toNat := fun a b ha hb hab e => by
   rw [hg a ha, hg b hb] at e
   have b1 := (h0 _ (List.getElem_mem ha)).1
   have b2 := (h0 _ (List.getElem_mem hb)).1
   exact hab (nodup_at hnd ha hb (by omega))
  rw [wr2, getD_setN]
  by_cases e : k = n
  · subst e
    rw [if_pos ⟨rfl, by rw [wr2_len, hg k (by omega)]; exact (h0 _ (List.getElem_mem (by omega))).2⟩]
    rw [wr2_off k (by omega) fun j hj => hne j k (by omega) (by omega) (by omega)]
  · rw [if_neg (fun h => hne n k (by omega) (by omega) (Ne.symm e) h.1)]
    exact wr2_at hnd h0 n (by omega) (by omega)
theorem orb_at (hs : SurfE m T) : ∀ {i : Nat}, i ≤ kN T → ∀ {j k : Nat}, j < i → k < (plW (kindsL T (kN T)) j).length →
  (orbS (kindsL T (kN T)) i (List.replicate m 0)).getD ((plW (kindsL T (kN T)) j).getD k 0).toNat 0 = kMin k (kAt (kindsL T (kN T)) j) (kindsL T (kN T)) ((plW (kindsL T (kN T)) j).getD k 0)
 | 0, _, j, k, h, _ => by omega
 | i + 1, hi, j, k, hj, hk => by
  have hap := apart_kinds hs
  have hlk := kindsL_len T (kN T)
  have hbd : ∀ i', i' < kN T → ∀ v ∈ plW (kindsL T (kN T)) i', 0 ≤ v ∧ v.toNat < (orbS (kindsL T (kN T)) i (List.replicate m 0)).length := fun i' hi' v hv => by
   obtain ⟨a, ha, e⟩ := plW_is hs hi'
   rw [e] at hv
   have := rootO_bd hs ha.1 v hv
   rw [orbS_len, List.length_replicate]
   omega
  have hnd : ∀ i', i' < kN T → (plW (kindsL T (kN T)) i').Nodup := fun i' hi' => by
   obtain ⟨a, ha, e⟩ := plW_is hs hi'
   rw [e]
   exact oldC_nd _
  have hmem : ∀ {i' k'}, k' < (plW (kindsL T (kN T)) i').length → (plW (kindsL T (kN T)) i').getD k' 0 ∈ plW (kindsL T (kN T)) i' := fun {i' k'} h => by
   rw [List.getD_eq_getElem?_getD, List.getElem?_eq_getElem h]
   exact List.getElem_mem _
  rw [orbS]
  by_cases e : j = i
  · subst e
    rw [wr2_at (hnd j (by omega)) (fun v hv => by rw [wr1_len]; exact hbd j (by omega) v hv) _ (Nat.le_refl _) hk]
    rw [wr1_at (hbd j (by omega)) _ (Nat.le_refl _) hk]
  · have hoff : ∀ v ∈ plW (kindsL T (kN T)) i, v.toNat ≠ ((plW (kindsL T (kN T)) j).getD k 0).toNat := fun v hv ev => by
     have b1 := (hbd i (by omega) v hv).1
     have b2 := (hbd j (by omega) _ (hmem hk)).1
     obtain ⟨a, ha, ea⟩ := plW_is hs (i := i) (by omega)
     obtain ⟨a', ha', ea'⟩ := plW_is hs (i := j) (by omega)
     have hm := hmem hk
     rw [show (plW (kindsL T (kN T)) j).getD k 0 = v by omega, ea'] at hm
     rw [ea] at hv
     exact rootO_apart hs ha.1 ha'.1 (by rw [ha.2.1, ha'.2.1]; exact fun h => e h.symm) v hv hm
    rw [wr2_off _ (Nat.le_refl _) fun k' hk' => hoff _ (hmem hk'), wr1_off _ (Nat.le_refl _) hoff]
    exact orb_at hs (by omega) (by omega) hk
theorem way_iso (hs : SurfE m T) {i j : Nat} (hi : i < kN T) (hj : j < kN T) (hal : alikeK (kAt (kindsL T (kN T)) j) (kAt (kindsL T (kN T)) i) = true) {w : List Int} (hw : w ∈ (kAt (kindsL T (kN T)) j).ws) :
  ∃ rn, IsoL m T T rn ∧ ∀ k, k < (plW (kindsL T (kN T)) i).length → gS rn ((plW (kindsL T (kN T)) i).getD k 0) = w.getD k 0 := by
 have hl := kindsL_len T (kN T)
 have halE := alike_eq.1 hal
 have hself : ∀ q, alikeK (kAt (kindsL T (kN T)) q) (kAt (kindsL T (kN T)) q) = true := fun q => alike_eq.2 ⟨rfl, rfl⟩
 have hfirst : ∀ q, q < kN T → plW (kindsL T (kN T)) q ∈ (kAt (kindsL T (kN T)) q).ws := fun q hq => by
  unfold plW
  rw [kAt_kinds hq]
  have hp := ways_pos hs hq
  cases h : (kindV (partOf T q)).ws with
  | nil => exact absurd h hp
  | cons x l => exact List.mem_cons_self
 obtain ⟨p, hp⟩ : ∃ p : List Choice, p = (List.range (kN T)).map fun q => if q = i then (j, w) else if q = j then (i, plW (kindsL T (kN T)) i) else (q, plW (kindsL T (kN T)) q) := ⟨_, rfl⟩
 have hpn : ∀ n, n < kN T → p.getD n (0, []) = if n = i then (j, w) else if n = j then (i, plW (kindsL T (kN T)) i) else (n, plW (kindsL T (kN T)) n) := fun n hn => by
  rw [hp, List.getD_eq_getElem?_getD, List.getElem?_map, List.getElem?_range hn]
  rfl
 have hpl : p.length = kN T := by rw [hp]; simp
 have hmem : p ∈ pathsL (kindsL T (kN T)) (kN T) 0 (fun _ => false) := by
  refine path_mk hpl (fun n hn => ?_) fun n n' h1 h2 => ?_
  · rw [hpn n hn, hl, Nat.zero_add]
    by_cases e1 : n = i
    · rw [if_pos e1]
      exact ⟨hj, rfl, by rw [e1]; exact hal, hw⟩
    · rw [if_neg e1]
      by_cases e2 : n = j
      · rw [if_pos e2]
        exact ⟨hi, rfl, by rw [e2]; exact alike_eq.2 ⟨halE.1.symm, halE.2.symm⟩, hfirst i hi⟩
      · rw [if_neg e2]
        exact ⟨hn, rfl, hself n, hfirst n hn⟩
  · rw [hpn n (by omega), hpn n' h2]
    intro e
    by_cases e1 : n = i
    · rw [if_pos e1] at e
      by_cases e2 : n' = i
      · omega
      · rw [if_neg e2] at e
        by_cases e3 : n' = j
        · rw [if_pos e3] at e
          have e : j = i := e
          omega
        · rw [if_neg e3] at e
          exact e3 e.symm
    · rw [if_neg e1] at e
      by_cases e2 : n' = i
      · rw [if_pos e2] at e
        by_cases e3 : n = j
        · rw [if_pos e3] at e
          have e : i = j := e
          omega
        · rw [if_neg e3] at e
          exact e3 e
      · rw [if_neg e2] at e
        by_cases e3 : n = j
        · rw [if_pos e3] at e
          by_cases e4 : n' = j
          · omega
          · rw [if_neg e4] at e
            exact e2 e.symm
        · rw [if_neg e3] at e
          by_cases e4 : n' = j
          · rw [if_pos e4] at e
            exact e1 e
          · rw [if_neg e4] at e
            have e : n = n' := e
            omega
 have hat := fun k hk => apply_at (apart_kinds hs) (i' := i) (k := k) p 0 (List.replicate m 0) (by simp) (by omega) (Nat.zero_le _) (by omega) hk
 refine ⟨_, row_iso hs hmem, fun k hk => ?_⟩
 unfold gS
 rw [hat k hk, Nat.sub_zero, hpn i hi, if_pos rfl]
theorem iso_way (hs : SurfE m T) {rn : List Int} (h : IsoL m T T rn) {i : Nat} (hi : i < kN T) : ∃ j w, j < kN T ∧ alikeK (kAt (kindsL T (kN T)) j) (kAt (kindsL T (kN T)) i) = true ∧ w ∈ (kAt (kindsL T (kN T)) j).ws ∧ ∀ k, k < (plW (kindsL T (kN T)) i).length → gS rn ((plW (kindsL T (kN T)) i).getD k 0) = w.getD k 0 := by
 have hl := kindsL_len T (kN T)
 obtain ⟨p, hp, rfl⟩ := iso_row hs h
 have hpl := paths_len hp
 obtain ⟨g1, _, g3, g4⟩ := path_at hp i hi
 rw [hl] at g1
 rw [Nat.zero_add] at g3
 refine ⟨_, _, g1, g3, g4, fun k hk => ?_⟩
 have hat := apply_at (apart_kinds hs) (i' := i) (k := k) p 0 (List.replicate m 0) (by simp) (by omega) (Nat.zero_le _) (by omega) hk
 unfold gS
 rw [hat, Nat.sub_zero]
theorem orb_least (hs : SurfE m T) {v : Int} (hv : 0 ≤ v ∧ v < (m : Int)) : (∃ rn, IsoL m T T rn ∧ (orbL m T).getD v.toNat 0 = gS rn v) ∧ ∀ rn, IsoL m T T rn → (orbL m T).getD v.toNat 0 ≤ gS rn v := by
 obtain ⟨x, hx, rfl⟩ := vertex_at hs hv
 have hi : ofN T (x / 3) < kN T := ofN_lt (by omega)
 obtain ⟨a, ha, ea⟩ := plW_is hs hi
 have hm : cv T x ∈ plW (kindsL T (kN T)) (ofN T (x / 3)) := by
  rw [ea]
  refine (rootO_iff hs ha.1 _).2 ⟨x, hx, ?_, rfl⟩
  exact (ofN_re hs (by have := ha.1; omega) (by omega)).1 ha.2.1
 have hk := List.idxOf_lt_length_iff.2 hm
 have hg := getD_idxOf hm
 have hval := orb_at hs (Nat.le_refl (kN T)) hi hk
 rw [hg] at hval
 have hval' : (orbL m T).getD (cv T x).toNat 0 = _ := hval
 rw [hval']
 obtain ⟨h1, h2, h3⟩ := kMin_is ((plW (kindsL T (kN T)) (ofN T (x / 3))).idxOf (cv T x)) (kAt (kindsL T (kN T)) (ofN T (x / 3))) (kindsL T (kN T)) (cv T x)
 have hin : ∀ j, j < kN T → kAt (kindsL T (kN T)) j ∈ kindsL T (kN T) := fun j hj => by
  rw [kAt_kinds hj]
  exact kinds_mem.2 ⟨j, hj, rfl⟩
 constructor
 · rcases h3 with h3 | ⟨k, hkm, hal, w, hw, h3⟩
   · exact ⟨idL m, id_iso hs, by rw [h3, gS_id hv]⟩
   · obtain ⟨j, hj, rfl⟩ := kinds_mem.1 hkm
     rw [← kAt_kinds hj] at hal hw
     obtain ⟨rn, hr, hat⟩ := way_iso hs hi hj hal hw
     refine ⟨rn, hr, ?_⟩
     have := hat _ hk
     rw [hg] at this
     rw [h3, this]
 · intro rn hr
   obtain ⟨j, w, hj, hal, hw, hat⟩ := iso_way hs hr hi
   have := hat _ hk
   rw [hg] at this
   rw [this]
   exact h2 _ (hin j hj) hal w hw
theorem orb_len (m : Nat) (T : List Tri) : (orbL m T).length = m := by unfold orbL; rw [orbS_len, List.length_replicate]
theorem orb_law (hs : SurfE m T) {v : Nat} (hv : v < m) : ∃ u : Nat, u ≤ v ∧ (orbL m T).getD v 0 = (u : Int) ∧ (orbL m T).getD u 0 = (u : Int) ∧ ∃ rn, IsoL m T T rn ∧ gS rn (v : Int) = (u : Int) := by
 have hvI : 0 ≤ (v : Int) ∧ (v : Int) < (m : Int) := ⟨by omega, by omega⟩
 obtain ⟨⟨rn, hr, e⟩, hle⟩ := orb_least hs hvI
 rw [Int.toNat_natCast] at e hle
 have h0 := hle _ (id_iso hs)
 rw [gS_id hvI] at h0
 obtain ⟨hi, he⟩ := gS_at (rn := rn) hvI.1 (by rw [hr.len]; exact hvI.2)
 have hb := hr.bd _ (List.getElem_mem hi)
 rw [← he, ← e] at hb
 refine ⟨((orbL m T).getD v 0).toNat, by omega, by omega, ?_, rn, hr, by omega⟩
 obtain ⟨⟨rn', hr', e'⟩, hle'⟩ := orb_least hs (v := (orbL m T).getD v 0) hb
 have h1 := hle' _ (id_iso hs)
 rw [gS_id hb] at h1
 have h2 := hle _ (comp_iso hr hr' hs)
 rw [gS_comp hvI.1 (by rw [hr.len]; exact hvI.2), ← e, ← e'] at h2
 omega
theorem orb_rows (hs : SurfE m T) {ws : List (List Int)} (hp : ws.Perm (allR m T)) {v : Nat} (hv : v < m) : wMin v ws (v : Int) = (orbL m T).getD v 0 := by
 have hvI : 0 ≤ (v : Int) ∧ (v : Int) < (m : Int) := ⟨by omega, by omega⟩
 obtain ⟨⟨rn, hr, e⟩, hle⟩ := orb_least hs hvI
 rw [Int.toNat_natCast] at e hle
 have hm : ∀ a, a ∈ ws ↔ IsoL m T T a := fun a => by rw [hp.mem_iff, allR_iff hs]
 obtain ⟨h1, h2, h3⟩ := wMin_is v ws (v : Int)
 have hg : ∀ w : List Int, gS w (v : Int) = w.getD v 0 := fun w => by unfold gS; rw [Int.toNat_natCast]
 have a1 := h2 rn ((hm rn).2 hr)
 rw [← hg, ← e] at a1
 rcases h3 with h3 | ⟨w, hw, h3⟩
 · have := hle _ (id_iso hs)
   rw [gS_id hvI] at this
   omega
 · have := hle w ((hm w).1 hw)
   rw [hg] at this
   omega
end
end Go.Proofs.YtiajlmajenabiaaGreat
