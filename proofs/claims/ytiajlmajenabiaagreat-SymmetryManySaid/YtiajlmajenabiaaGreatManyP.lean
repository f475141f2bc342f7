/- Lone triangles: plain. No condition. -/
import Derived.Test.YtiajlmajenabiaaGreatSp47
import Derived.Test.YtiajlmajenabiaaGreatAllX
namespace Go.Proofs.YtiajlmajenabiaaGreat
open Go.RowKit

set_option linter.unusedSimpArgs false
set_option linter.unusedVariables false
def loneI (i : Nat) : Tri := ⟨3 * (i : Int), 3 * (i : Int) + 1, 3 * (i : Int) + 2⟩
def loneN (n : Nat) : List Tri := (List.range n).map loneI
theorem loneN_len (n : Nat) : (loneN n).length = n := by simp [loneN]
theorem loneN_succ (n : Nat) : loneN (n + 1) = loneN n ++ [loneI n] := by
  unfold loneN
  rw [List.range_succ, List.map_append]
  rfl
theorem loneN_tri {n i : Nat} (h : i < n) : tri (loneN n) i = loneI i := tri_of (by unfold loneN; rw [List.getElem?_map, List.getElem?_range h]; rfl)
theorem loneN_mem {n : Nat} {t : Tri} (h : t ∈ loneN n) : ∃ i, i < n ∧ t = loneI i := by
  obtain ⟨i, hi, rfl⟩ := List.mem_map.1 h
  exact ⟨i, List.mem_range.1 hi, rfl⟩
theorem loneI_verts {i : Nat} {v : Int} : v ∈ verts (loneI i) ↔ 3 * (i : Int) ≤ v ∧ v < 3 * (i : Int) + 3 := by
  simp only [verts, loneI, List.mem_cons, List.not_mem_nil, or_false]
  omega
theorem loneN_cv {n c : Nat} (h : c < 3 * n) : cv (loneN n) c = (c : Int) := by
  unfold cv
  rw [loneN_tri (by omega)]
  have h3 : c % 3 < 3 := Nat.mod_lt _ (by decide)
  rcases (by omega : c % 3 = 0 ∨ c % 3 = 1 ∨ c % 3 = 2) with e | e | e <;> rw [e]
  · show 3 * ((c / 3 : Nat) : Int) = _; omega
  · show 3 * ((c / 3 : Nat) : Int) + 1 = _; omega
  · show 3 * ((c / 3 : Nat) : Int) + 2 = _; omega
theorem loneN_opp (n d : Nat) : oppF (loneN n) d = none := by
  cases h : oppF (loneN n) d with
  | none => rfl
  | some o =>
    exfalso
    have h1 := (facing_some h).1
    have h2 := (facing_some h).2
    rw [loneN_len] at h1
    unfold ce at h2
    rw [loneN_cv (nxc_lt h1), loneN_cv (pvc_lt h1)] at h2
    by_cases hd : d < 3 * n
    · rw [loneN_cv (nxc_lt hd), loneN_cv (pvc_lt hd)] at h2
      simp only [Prod.mk.injEq] at h2
      unfold nxc pvc at h2
      omega
    · have hz : ∀ e, 3 * n ≤ e → cv (loneN n) e = 0 := fun e he => by
        unfold cv
        have : tri (loneN n) (e / 3) = ⟨0, 0, 0⟩ := by
          unfold tri
          rw [List.getD_eq_getElem?_getD, List.getElem?_eq_none (by rw [loneN_len]; omega)]
          rfl
        rw [this]
        rcases (by omega : e % 3 = 0 ∨ e % 3 = 1 ∨ e % 3 = 2) with q | q | q <;> rw [q] <;> rfl
      rw [hz _ (by unfold nxc; omega), hz _ (by unfold pvc; omega)] at h2
      simp only [Prod.mk.injEq] at h2
      unfold nxc pvc at h2
      omega
theorem loneN_surf {n : Nat} (hn : n < 41) : SurfE (3 * n) (loneN n) := by
  have hp : (loneN n).Pairwise fun t u => ∀ v, v ∈ verts t → v ∈ verts u → False := by
    unfold loneN
    rw [List.pairwise_map]
    refine (List.pairwise_lt_range (n := n)).imp ?_
    intro i j hij v h1 h2
    rw [loneI_verts] at h1 h2
    omega
  refine ⟨by omega, by rw [loneN_len]; omega, fun t ht => ?_, hp.imp ?_, hp.imp ?_, fun v hv => ?_, fun v hv t u ht h1 hu h2 => ?_⟩
  · obtain ⟨i, hi, rfl⟩ := loneN_mem ht
    unfold loneI
    exact ⟨by simp only; omega, by simp only; omega, by simp only; omega, by simp only; omega, by simp only; omega, by simp only; omega, by simp only; omega, by simp only; omega, by simp only; omega⟩
  · intro t u h
    cases hb : twiceB t u with
    | false => rfl
    | true =>
      obtain ⟨a, b, h1, h2⟩ := (twice_edges _ _).1 hb
      exact (h a (edge_verts h1).1 (edge_verts h2).1).elim
  · intro t u h
    cases hb : mirrB t u with
    | false => rfl
    | true =>
      have h1 : t.a ∈ verts t := by simp [verts]
      exact (h _ h1 (mirrB_iff'.1 hb _ h1)).elim
  · exact ⟨loneI (v / 3), List.mem_map.2 ⟨v / 3, List.mem_range.2 (by omega), rfl⟩, by rw [loneI_verts]; omega⟩
  · obtain ⟨i, hi, rfl⟩ := loneN_mem ht
    obtain ⟨j, hj, rfl⟩ := loneN_mem hu
    rw [loneI_verts] at h1 h2
    obtain rfl : i = j := by omega
    exact fun P hP _ => hP
theorem loneN_chk {n : Nat} (hn : n < 41) : checkR ((3 * n : Nat) : Int) (loneN n) = (0, 0, 0) := by
  unfold checkR
  rw [is_surf.2 ⟨3 * n, rfl, loneN_surf hn⟩]
  rfl
theorem lone_over (n k t : Nat) (s : List Int × List Nat) : ∀ j, overN (loneN n) k t j s = s
  | 0 => rfl
  | j + 1 => by
    rw [overN, lone_over n k t s j]
    unfold overS
    rw [loneN_opp]
theorem lone_bfs (n k : Nat) : ∀ (f i : Nat) (s : List Int × List Nat), bfsS (loneN n) k f i s = s
  | 0, _, _ => rfl
  | f + 1, i, s => by
    rw [bfsS, lone_over, lone_bfs n k f]
    exact ite_self _
theorem lone_of (n : Nat) : ∀ k, k ≤ n → (ofS (loneN n) k).2 = k ∧ ∀ x, x < n → (ofS (loneN n) k).1.getD x 0 = if x < k then (x : Int) else -1
  | 0, _ => ⟨rfl, fun x hx => by
      show (List.replicate (loneN n).length (-1 : Int)).getD x 0 = _
      rw [List.getD_eq_getElem?_getD, List.getElem?_replicate, if_pos (by rw [loneN_len]; exact hx)]
      rfl⟩
  | k + 1, hk => by
    obtain ⟨h1, h2⟩ := lone_of n k (by omega)
    have hl := (of_inv (T := loneN n) k (by rw [loneN_len]; omega)).len
    rw [loneN_len] at hl
    rw [ofS]
    unfold shellS
    rw [if_neg (by rw [h2 k (by omega), if_neg (by omega)]; decide), lone_bfs]
    refine ⟨by rw [h1], fun x hx => ?_⟩
    dsimp only
    rw [getD_set (by omega), h1, h2 x hx]
    by_cases e : k = x
    · subst e
      rw [if_pos rfl, if_pos (by omega)]
    · rw [if_neg e]
      by_cases h : x < k
      · rw [if_pos h, if_pos (by omega)]
      · rw [if_neg h, if_neg (by omega)]
theorem lone_ofL {n x : Nat} (hx : x < n) : (ofL (loneN n)).getD x 0 = (x : Int) := by
  unfold ofL
  rw [loneN_len, (lone_of n n (Nat.le_refl _)).2 x hx, if_pos hx]
theorem lone_k (n : Nat) : kN (loneN n) = n := by
  have h1 := kN_le (loneN n)
  rw [loneN_len] at h1
  rcases Nat.eq_zero_or_pos n with h | h
  · omega
  · have h2 := ofN_lt (T := loneN n) (x := n - 1) (by rw [loneN_len]; omega)
    have h3 := ofN_eq (T := loneN n) (x := n - 1) (by rw [loneN_len]; omega)
    rw [lone_ofL (by omega)] at h3
    omega
theorem lone_lst {n k : Nat} (hk : k < n) : lstOf (ofL (loneN n)) n k = [k] := by
  have : ∀ i, i ≤ n → lstOf (ofL (loneN n)) i k = if k < i then [k] else [] := by
    intro i
    induction i with
    | zero => exact fun _ => rfl
    | succ i ih =>
      intro hi
      rw [lst_next, ih (by omega), lone_ofL (by omega)]
      by_cases e : i = k
      · subst e
        rw [if_pos rfl, if_neg (by omega), if_pos (by omega)]
        rfl
      · rw [if_neg (by omega)]
        by_cases h : k < i
        · rw [if_pos h, if_pos (by omega)]
        · rw [if_neg h, if_neg (by omega)]
  rw [this n (Nat.le_refl _), if_pos hk]
theorem lone_part {n k : Nat} (hk : k < n) : partOf (loneN n) k = ⟨3, loneT, [3 * (k : Int), 3 * (k : Int) + 1, 3 * (k : Int) + 2], [k]⟩ := by
  have hv : vsL (vtx (loneN n) [k]) = [3 * (k : Int), 3 * (k : Int) + 1, 3 * (k : Int) + 2] := by
    refine up_uniq (vsL_up _) (by simp; omega) fun z => ?_
    rw [mem_vsL]
    simp [vtx, loneN_tri hk, loneI]
  unfold partOf
  rw [loneN_len, lone_lst hk]
  simp only [hv]
  simp only [List.map_cons, List.map_nil, loneN_tri hk]
  have : renT [3 * (k : Int), 3 * (k : Int) + 1, 3 * (k : Int) + 2] (loneI k) = ⟨0, 1, 2⟩ := by
    unfold renT loneI
    simp only [List.idxOf_cons]
    have e1 : (3 * (k : Int) == 3 * (k : Int) + 1) = false := by simp; omega
    have e2 : (3 * (k : Int) == 3 * (k : Int) + 2) = false := by simp; omega
    have e3 : (3 * (k : Int) + 1 == 3 * (k : Int) + 2) = false := by simp
    simp [e1, e2, e3]
  rw [this]
  rfl
theorem many_parts (n : Nat) : PartsOk (loneN n) := by
  intro k hk
  rw [lone_k] at hk
  rw [lone_part hk]
  exact ⟨lone_chk, lone_kN⟩
/-- A lone triangle's kind. -/
def loneK (k : Nat) : KindV := kindV ⟨3, loneT, [3 * (k : Int), 3 * (k : Int) + 1, 3 * (k : Int) + 2], [k]⟩
theorem loneK_ways (k : Nat) : (loneK k).ws.length = 3 ∧ (loneK k).M = 3 ∧ (loneK k).L = loneT := by
  have h : ((List.range (3 * loneT.length)).filter (goodC loneT (rootO loneT (bestN loneT 0)).length (rootT loneT (bestN loneT 0)))).length = 3 := by decide +kernel
  have h2 : ((rootO loneT (bestN loneT 0)).length : Int) = 3 := by decide +kernel
  have h3 : rootT loneT (bestN loneT 0) = loneT := by decide +kernel
  unfold loneK kindV waysTo
  dsimp only
  rw [List.length_map]
  exact ⟨h, h2, h3⟩
theorem lone_kinds (n : Nat) : kindsL (loneN n) n = (List.range n).map loneK := by
  unfold kindsL
  refine List.map_congr_left fun k hk => ?_
  rw [lone_part (List.mem_range.1 hk)]
  rfl
/-- n to the k times 1 2 .. k. -/
def ordL : Nat → Option Nat
  | 0 => some 1
  | i + 1 => (ordL i).bind fun n => (timesN n 3).bind fun n' => timesN n' (i + 1)
theorem lone_ord (n : Nat) : ∀ i, i ≤ n → orderN (kindsL (loneN n) n) i = ordL i
  | 0, _ => rfl
  | i + 1, hi => by
    have hk : (kindsL (loneN n) n)[i]? = some (loneK i) := by
      rw [lone_kinds, List.getElem?_map, List.getElem?_range (by omega)]
      rfl
    have hl : likeN (kindsL (loneN n) n) (loneK i) i = i + 1 := by
      unfold likeN
      rw [List.filter_eq_self.2 fun o ho => ?_, List.length_take, kindsL_len]
      · omega
      · have ho := List.mem_of_mem_take ho
        rw [lone_kinds] at ho
        obtain ⟨j, _, rfl⟩ := List.mem_map.1 ho
        unfold alikeK
        rw [(loneK_ways j).2.1, (loneK_ways j).2.2, (loneK_ways i).2.1, (loneK_ways i).2.2]
        simp
    rw [orderN, lone_ord n i (by omega), hk, ordL]
    simp only [Option.bind_some, hl, (loneK_ways i).1]
/-- The law's own numbers. -/
def wantN : Nat → Nat
  | 0 => 1
  | i + 1 => wantN i * 3 % 18446744073709551616 * (i + 1) % 18446744073709551616
def fullB : Nat → Bool
  | 0 => false
  | i + 1 => fullB i || decide (4611686018427387904 / (3 * (i + 1)) < wantN i)
theorem many_is : ∀ n, n < 41 → ordL n = (if fullB n then none else some (wantN n)) ∧ wantN n < 18446744073709551616 := by decide +kernel
theorem want_lt (i : Nat) : wantN i < 18446744073709551616 := by
  cases i with
  | zero => decide
  | succ i => exact Nat.mod_lt _ (by decide)
theorem many_big : ∀ n, n < 41 → fullB n = false → 4 ≤ n → 1000 < wantN n ∧ wantN n < 9223372036854775808 := by decide +kernel
theorem many_few : ∀ n, n < 4 → fullB n = false ∧ wantN n ≤ 1000 := by decide +kernel
theorem many_rows : ∀ n, n < 4 → (allR (3 * n) (loneN n)).length ≤ 100000 ∧ 0 < (allR (3 * n) (loneN n)).length := by decide +kernel
theorem many_kok : ∀ n, n < 4 → ∀ k ∈ kindsL (loneN n) n, k.ws ≠ [] ∧ (∀ x ∈ k.ws, (x.length : Int) = k.M ∧ ∀ v ∈ x, 0 ≤ v ∧ v < ((3 * n : Nat) : Int)) ∧ k.L.length ≤ 1000 ∧ k.ws.length ≤ 1000000 ∧ k.M ≤ 1000000 := by decide +kernel
theorem many_ok {n : Nat} (hn : n < 4) : KOk (3 * n) (kindsL (loneN n) n) :=
  ⟨fun k hk => (many_kok n hn k hk).1, fun k hk => (many_kok n hn k hk).2.1, fun k hk => (many_kok n hn k hk).2.2⟩
end Go.Proofs.YtiajlmajenabiaaGreat
