/- The line behind k ticks, all sent ahead, in closed form. No program in sight. -/
import Derived.Test.YtieoeednfgpoiaaRounds
namespace Go.Proofs.Ytieoeednfgpoiaa
open Go.RowKit


/-- The j-th packet. -/
def pkJ (r d : Nat) (b : List UInt8) (j : Nat) : Pk := ⟨(j : Int) + 1 + d, j, (b.drop (j * r)).take r⟩
/-- How many packets there are. -/
def many (r : Nat) (b : List UInt8) : Nat := (b.length + r - 1) / r
/-- The numbers from lo to hi - 1 that don't get lost. -/
def live (lost : List Int) (lo hi : Nat) : List Nat := (List.range' lo (hi - lo)).filter (fun j : Nat => (j : Int) ∉ lost)
/-- The line behind k ticks, all sent ahead. -/
def SK (r d : Nat) (lost : List Int) (b : List UInt8) (k : Nat) : LS :=
  ⟨r, d, k, (min k (many r b) : Nat), lost, b.drop (k * r), (live lost (k - d) (min k (many r b))).map (pkJ r d b)⟩

theorem many_le {r : Nat} (hr : 0 < r) (b : List UInt8) (k : Nat) : many r b ≤ k ↔ b.length ≤ k * r := by
  unfold many
  rw [← Nat.lt_succ_iff, Nat.div_lt_iff_lt_mul hr, Nat.succ_mul]
  omega
theorem drop_nil {r : Nat} (hr : 0 < r) (b : List UInt8) (k : Nat) : b.drop (k * r) = [] ↔ many r b ≤ k := by
  rw [List.drop_eq_nil_iff, many_le hr]

theorem live_snoc (lost : List Int) (lo hi : Nat) (h : lo ≤ hi) : live lost lo (hi + 1) = if (hi : Int) ∈ lost then live lost lo hi else live lost lo hi ++ [hi] := by
  unfold live
  have e : hi + 1 - lo = (hi - lo) + 1 := by omega
  have e2 : lo + 1 * (hi - lo) = hi := by omega
  rw [e, List.range'_concat, List.filter_append, e2]
  split
  · rename_i hm; simp [hm]
  · rename_i hm; simp [hm]
theorem live_cons (lost : List Int) (lo hi : Nat) (h : lo < hi) : live lost lo hi = if (lo : Int) ∈ lost then live lost (lo + 1) hi else lo :: live lost (lo + 1) hi := by
  unfold live
  obtain ⟨n, hn⟩ : ∃ n, hi - lo = n + 1 := ⟨hi - lo - 1, by omega⟩
  have e : hi - (lo + 1) = n := by omega
  rw [hn, e, List.range'_succ, List.filter_cons]
  split
  · rename_i hm
    have hm' : ¬ (lo : Int) ∈ lost := by simpa using hm
    rw [if_neg hm']
  · rename_i hm
    have hm' : (lo : Int) ∈ lost := by simpa using hm
    rw [if_pos hm']
theorem live_none (lost : List Int) (lo hi : Nat) (h : hi ≤ lo) : live lost lo hi = [] := by
  unfold live
  have e : hi - lo = 0 := by omega
  rw [e]; rfl
theorem mem_live {lost : List Int} {lo hi j : Nat} (h : j ∈ live lost lo hi) : lo ≤ j ∧ j < hi ∧ (j : Int) ∉ lost := by
  unfold live at h
  obtain ⟨h1, h2⟩ := List.mem_filter.1 h
  have := List.mem_range'_1.1 h1
  exact ⟨by omega, by omega, by simpa using h2⟩

/-- What arrives in the tick behind k ticks. -/
def outK (r d : Nat) (lost : List Int) (b : List UInt8) (k : Nat) : List Pk :=
  if d ≤ k ∧ k - d < many r b ∧ ((k - d : Nat) : Int) ∉ lost then [pkJ r d b (k - d)] else []

theorem SK_put (r d : Nat) (lost : List Int) (b : List UInt8) (k : Nat) (hr : 0 < r) :
    (SK r d lost b k).put = { SK r d lost b (k + 1) with way := (live lost (k - d) (min (k + 1) (many r b))).map (pkJ r d b) } := by
  have hd : b.drop ((k + 1) * r) = (b.drop (k * r)).drop r := by rw [List.drop_drop, Nat.succ_mul]
  by_cases hk : many r b ≤ k
  · have hw : (SK r d lost b k).wait = [] := (drop_nil hr b k).2 hk
    rw [put_none _ hw]
    have hw' : b.drop (k * r) = [] := hw
    have e1 : min k (many r b) = many r b := by omega
    have e2 : min (k + 1) (many r b) = many r b := by omega
    unfold SK
    simp only [e1, e2, hd, hw', List.drop_nil]
    simp
  · have hw : (SK r d lost b k).wait ≠ [] := fun e => hk ((drop_nil hr b k).1 e)
    have e1 : min k (many r b) = k := by omega
    have e2 : min (k + 1) (many r b) = k + 1 := by omega
    have hlen : (SK r d lost b k).len = min r (b.drop (k * r)).length := by show min (r : Int).toNat _ = _; rw [Int.toNat_natCast]; rfl
    have hdrop : (b.drop (k * r)).drop (min r (b.drop (k * r)).length) = (b.drop (k * r)).drop r := by
      rcases Nat.le_total r (b.drop (k * r)).length with h | h
      · rw [Nat.min_eq_left h]
      · rw [Nat.min_eq_right h, List.drop_length, List.drop_eq_nil_iff.2 h]
    have hpk : (SK r d lost b k).pk = pkJ r d b k := by
      show (⟨(k : Int) + 1 + d, ((min k (many r b) : Nat) : Int), (b.drop (k * r)).take (SK r d lost b k).len⟩ : Pk) = _
      rw [hlen, e1, ← List.take_eq_take_min]
      rfl
    have hlv := live_snoc lost (k - d) k (by omega)
    by_cases hl : (k : Int) ∈ lost
    · rw [put_lost _ hw (by show ((min k (many r b) : Nat) : Int) ∈ lost; rw [e1]; exact hl)]
      rw [if_pos hl] at hlv
      rw [hlen]
      unfold SK
      simp only [e1, e2, hlv, hd, hdrop]
      simp
    · rw [put_way _ hw (by show ((min k (many r b) : Nat) : Int) ∉ lost; rw [e1]; exact hl)]
      rw [if_neg hl] at hlv
      rw [hlen, hpk]
      unfold SK
      simp only [e1, e2, hlv, hd, hdrop]
      simp

theorem SK_tick (r d : Nat) (lost : List Int) (b : List UInt8) (k : Nat) (hr : 0 < r) :
    (SK r d lost b k).tick = SK r d lost b (k + 1) ∧ (SK r d lost b k).out = outK r d lost b k := by
  have hp := SK_put r d lost b k hr
  have ht : (SK r d lost b k).tick = { SK r d lost b (k + 1) with way := ((live lost (k - d) (min (k + 1) (many r b))).map (pkJ r d b)).filter (fun p => p.at_ ≠ (k : Int) + 1) } := by
    unfold LS.tick
    rw [hp]; rfl
  have ho : (SK r d lost b k).out = ((live lost (k - d) (min (k + 1) (many r b))).map (pkJ r d b)).filter (fun p => p.at_ = (k : Int) + 1) := by
    unfold LS.out
    rw [hp]; rfl
  rw [ht, ho]
  have keepAll : ∀ lo, k < lo + d → ∀ hi, ((live lost lo hi).map (pkJ r d b)).filter (fun p => p.at_ ≠ (k : Int) + 1) = (live lost lo hi).map (pkJ r d b) ∧ ((live lost lo hi).map (pkJ r d b)).filter (fun p => p.at_ = (k : Int) + 1) = [] := by
    intro lo hlo hi
    have hne : ∀ p ∈ (live lost lo hi).map (pkJ r d b), p.at_ ≠ (k : Int) + 1 := by
      intro p hp
      obtain ⟨j, hj, rfl⟩ := List.mem_map.1 hp
      have := mem_live hj
      show (j : Int) + 1 + d ≠ _
      omega
    refine ⟨List.filter_eq_self.2 fun p hp => by simpa using hne p hp, List.filter_eq_nil_iff.2 fun p hp => by simpa using hne p hp⟩
  by_cases hdk : d ≤ k
  · by_cases hlt : k - d < min (k + 1) (many r b)
    · have hc := live_cons lost (k - d) _ hlt
      obtain ⟨k1, k2⟩ := keepAll (k - d + 1) (by omega) (min (k + 1) (many r b))
      have e1 : k + 1 - d = k - d + 1 := by omega
      by_cases hl : ((k - d : Nat) : Int) ∈ lost
      · rw [if_pos hl] at hc
        rw [hc, k1, k2]
        refine ⟨by unfold SK; rw [e1], ?_⟩
        unfold outK
        rw [if_neg (fun h => h.2.2 hl)]
      · rw [if_neg hl] at hc
        have hat : (pkJ r d b (k - d)).at_ = (k : Int) + 1 := by show ((k - d : Nat) : Int) + 1 + d = _; omega
        rw [hc, List.map_cons, List.filter_cons_of_neg (by simp [hat]), List.filter_cons_of_pos (by simp [hat]), k1, k2]
        refine ⟨by unfold SK; rw [e1], ?_⟩
        unfold outK
        rw [if_pos ⟨hdk, by omega, hl⟩]
    · rw [live_none _ _ _ (by omega)]
      refine ⟨?_, ?_⟩
      · unfold SK
        rw [live_none lost (k + 1 - d) _ (by omega)]; rfl
      · unfold outK
        rw [if_neg (fun h => hlt (by omega))]; rfl
  · obtain ⟨k1, k2⟩ := keepAll (k - d) (by omega) (min (k + 1) (many r b))
    rw [k1, k2]
    have e1 : k + 1 - d = k - d := by omega
    refine ⟨by unfold SK; rw [e1], ?_⟩
    unfold outK
    rw [if_neg (fun h => hdk h.1)]

theorem SK_zero (r d : Nat) (lost : List Int) (b : List UInt8) : SK r d lost b 0 = (LS.start r d lost).send b := by
  unfold SK LS.start LS.send
  simp [live]
theorem SK_idle (r d : Nat) (lost : List Int) (b : List UInt8) (k : Nat) (hr : 0 < r) (h : idleB (SK r d lost b k) = false) : k < many r b + d := by
  unfold idleB at h
  rcases Bool.and_eq_false_iff.1 h with h | h
  · have h1 : ¬ b.drop (k * r) = [] := fun e => by
      have e' : (SK r d lost b k).wait = [] := e
      rw [e'] at h; cases h
    rw [drop_nil hr] at h1
    omega
  · have h1 : ¬ live lost (k - d) (min k (many r b)) = [] := fun e => by
      have e' : (SK r d lost b k).way = [] := by show (live lost (k - d) (min k (many r b))).map _ = []; rw [e]; rfl
      rw [e'] at h; cases h
    by_cases h2 : k < many r b + d
    · exact h2
    · exact absurd (live_none lost _ _ (by omega)) h1
theorem rounds_SK (r d : Nat) (lost : List Int) (b : List UInt8) (hr : 0 < r) (t : IS) (m : Int) : ∀ k, (rounds ((LS.start r d lost).send b) t m k).1 = SK r d lost b k
  | 0 => (SK_zero r d lost b).symm
  | k + 1 => by
    show (rounds _ t m k).1.tick = _
    rw [rounds_SK r d lost b hr t m k, (SK_tick r d lost b k hr).1]
theorem SK_ok {r d : Nat} {lost : List Int} (h : errNew r d lost = 0) (b : List UInt8) (hb : b.length ≤ 4194304) (hr : 0 < r) (k : Nat) (hk : k ≤ 1000000) : (SK r d lost b k).Ok := by
  have := (rounds_rinv (m := 0) (start_rinv h b hb) k (by show (0 : Int) + k ≤ _; omega)).1.ok
  rwa [rounds_SK r d lost b hr] at this
theorem SK_some (r d : Nat) (lost : List Int) (b : List UInt8) (k : Nat) (hr : 0 < r) (h : idleB (SK r d lost b k) = false) : 0 < many r b := by
  rcases Nat.eq_zero_or_pos (many r b) with h0 | h0
  · have h1 : b.drop (k * r) = [] := (drop_nil hr b k).2 (by omega)
    have h2 : live lost (k - d) (min k (many r b)) = [] := live_none _ _ _ (by omega)
    unfold idleB SK at h
    simp only [h1, h2] at h
    cases h
  · exact h0
theorem SK_done (r d : Nat) (b : List UInt8) (k : Nat) (hr : 0 < r) (h : idleB (SK r d [] b k) = true) : many r b = 0 ∨ many r b + d ≤ k := by
  unfold idleB at h
  obtain ⟨h1, h2⟩ := Bool.and_eq_true_iff.1 h
  have h3 : b.drop (k * r) = [] := List.isEmpty_iff.1 h1
  rw [drop_nil hr] at h3
  have h4 : (live [] (k - d) (min k (many r b))).map (pkJ r d b) = [] := List.isEmpty_iff.1 h2
  rcases Nat.lt_or_ge (k - d) (min k (many r b)) with h5 | h5
  · rw [live_cons _ _ _ h5] at h4; simp at h4
  · omega
end Go.Proofs.Ytieoeednfgpoiaa
