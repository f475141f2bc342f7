/- All symmetries, as symmetry.All goes through them: plain. No condition. -/
import Derived.Test.YtiajlmajenabiaaGreatKd47
import Derived.Test.YtiajlmajenabiaaGreatGrpC
set_option maxRecDepth 100000
set_option maxHeartbeats 16000000
set_option linter.all false
namespace Go.Proofs.YtiajlmajenabiaaGreat
open Go.RowKit
def setW (V way : List Int) : Nat → List Int → List Int
 | 0, ts => ts
 | n + 1, ts => (setW V way n ts).set (V.getD n 0).toNat (way.getD n 0)
theorem setW_len (V way ts : List Int) : ∀ n, (setW V way n ts).length = ts.length
 | 0 => rfl
 | n + 1 => by rw [setW, List.length_set, setW_len V way ts n]
def kAt (ks : List KindV) (i : Nat) : KindV := ks.getD i ⟨0, [], []⟩
theorem kAt_some {ks : List KindV} {i : Nat} {k : KindV} (h : ks[i]? = some k) : kAt ks i = k := by simp [kAt, List.getD, h]
abbrev GSt := List (List Int) × List Int
def goR (ks : List KindV) : Nat → Nat → (Nat → Bool) → GSt → GSt
 | 0, _, _, s => (s.1 ++ [s.2], s.2)
 | d + 1, i, used, s => (List.range ks.length).foldl (fun s j =>
   if used j || !alikeK (kAt ks j) (kAt ks i) then s
   else (kAt ks j).ws.foldl (fun s way => goR ks d (i + 1) (updF used j true) (s.1, setW ((kAt ks i).ws.getD 0 []) way ((kAt ks i).ws.getD 0 []).length s.2)) s) s
def wayR (ks : List KindV) (d i : Nat) (used : Nat → Bool) (j p : Nat) (s : GSt) : GSt :=
 ((kAt ks j).ws.take p).foldl (fun s way => goR ks d (i + 1) (updF used j true) (s.1, setW ((kAt ks i).ws.getD 0 []) way ((kAt ks i).ws.getD 0 []).length s.2)) s
def kindR (ks : List KindV) (d i : Nat) (used : Nat → Bool) (j : Nat) (s : GSt) : GSt :=
 (List.range j).foldl (fun s j => if used j || !alikeK (kAt ks j) (kAt ks i) then s else wayR ks d i used j (kAt ks j).ws.length s) s
theorem goR_succ (ks : List KindV) (d i : Nat) (used : Nat → Bool) (s : GSt) : goR ks (d + 1) i used s = kindR ks d i used ks.length s := by
 unfold kindR wayR
 simp only [goR, List.take_length]
theorem kindR_succ (ks : List KindV) (d i : Nat) (used : Nat → Bool) (j : Nat) (s : GSt) : kindR ks d i used (j + 1) s = if used j || !alikeK (kAt ks j) (kAt ks i) then kindR ks d i used j s else wayR ks d i used j (kAt ks j).ws.length (kindR ks d i used j s) := by
 unfold kindR
 rw [List.range_succ, List.foldl_append]
 rfl
theorem wayR_succ {ks : List KindV} {d i : Nat} {used : Nat → Bool} {j p : Nat} {s : GSt} {way : List Int} (h : (kAt ks j).ws[p]? = some way) :
  wayR ks d i used j (p + 1) s = goR ks d (i + 1) (updF used j true) ((wayR ks d i used j p s).1, setW ((kAt ks i).ws.getD 0 []) way ((kAt ks i).ws.getD 0 []).length (wayR ks d i used j p s).2) := by
 unfold wayR
 rw [List.take_add_one, h, List.foldl_append]
 rfl
theorem goR_more (ks : List KindV) : ∀ (d i : Nat) (used : Nat → Bool) (s : GSt), (∃ l, (goR ks d i used s).1 = s.1 ++ l) ∧ (goR ks d i used s).2.length = s.2.length
 | 0, i, used, s => ⟨⟨[s.2], rfl⟩, rfl⟩
 | d + 1, i, used, s => by
  rw [goR_succ]
  have hw : ∀ (j p : Nat) (s : GSt), (∃ l, (wayR ks d i used j p s).1 = s.1 ++ l) ∧ (wayR ks d i used j p s).2.length = s.2.length := by
   intro j p
   induction p with
   | zero => exact fun s => ⟨⟨[], by simp [wayR]⟩, by simp [wayR]⟩
   | succ p ih =>
    intro s
    cases h : (kAt ks j).ws[p]? with
    | none =>
     have : wayR ks d i used j (p + 1) s = wayR ks d i used j p s := by
      unfold wayR
      rw [List.take_add_one, h]
      simp
     rw [this]
     exact ih s
    | some way =>
     rw [wayR_succ h]
     obtain ⟨⟨l1, h1⟩, h2⟩ := ih s
     obtain ⟨⟨l3, h3⟩, h4⟩ := goR_more ks d (i + 1) (updF used j true) ((wayR ks d i used j p s).1, setW ((kAt ks i).ws.getD 0 []) way ((kAt ks i).ws.getD 0 []).length (wayR ks d i used j p s).2)
     refine ⟨⟨l1 ++ l3, ?_⟩, ?_⟩
     · rw [h3, h1, List.append_assoc]
     · rw [h4, setW_len, h2]
  have hk : ∀ (j : Nat) (s : GSt), (∃ l, (kindR ks d i used j s).1 = s.1 ++ l) ∧ (kindR ks d i used j s).2.length = s.2.length := by
   intro j
   induction j with
   | zero => exact fun s => ⟨⟨[], by simp [kindR]⟩, by simp [kindR]⟩
   | succ j ih =>
    intro s
    rw [kindR_succ]
    split
    · exact ih s
    · obtain ⟨⟨l1, h1⟩, h2⟩ := ih s
      obtain ⟨⟨l3, h3⟩, h4⟩ := hw j (kAt ks j).ws.length (kindR ks d i used j s)
      exact ⟨⟨l1 ++ l3, by rw [h3, h1, List.append_assoc]⟩, by rw [h4, h2]⟩
  exact hk _ s
theorem wayR_more (ks : List KindV) (d i : Nat) (used : Nat → Bool) (j p : Nat) (s : GSt) : ∃ l, (wayR ks d i used j (p + 1) s).1 = (wayR ks d i used j p s).1 ++ l := by
 cases h : (kAt ks j).ws[p]? with
 | none =>
  refine ⟨[], ?_⟩
  unfold wayR
  rw [List.take_add_one, h]
  simp
 | some way =>
  rw [wayR_succ h]
  exact (goR_more ks d (i + 1) (updF used j true) _).1
theorem wayR_upto (ks : List KindV) (d i : Nat) (used : Nat → Bool) (j : Nat) (s : GSt) : ∀ {p q : Nat}, p ≤ q → (wayR ks d i used j p s).1.length ≤ (wayR ks d i used j q s).1.length
 | p, 0, h => by obtain rfl : p = 0 := by omega
                 exact Nat.le_refl _
 | p, q + 1, h => by
  rcases Nat.lt_or_ge q p with h1 | h1
  · obtain rfl : p = q + 1 := by omega
    exact Nat.le_refl _
  · obtain ⟨l, hl⟩ := wayR_more ks d i used j q s
    have := wayR_upto ks d i used j s h1
    rw [hl, List.length_append]
    omega
theorem wayR_zero (ks : List KindV) (d i : Nat) (used : Nat → Bool) (j : Nat) (s : GSt) : wayR ks d i used j 0 s = s := by simp [wayR]
theorem kindR_zero (ks : List KindV) (d i : Nat) (used : Nat → Bool) (s : GSt) : kindR ks d i used 0 s = s := by simp [kindR]
theorem kindR_upto (ks : List KindV) (d i : Nat) (used : Nat → Bool) (s : GSt) : ∀ {p q : Nat}, p ≤ q → (kindR ks d i used p s).1.length ≤ (kindR ks d i used q s).1.length
 | p, 0, h => by obtain rfl : p = 0 := by omega
                 exact Nat.le_refl _
 | p, q + 1, h => by
  rcases Nat.lt_or_ge q p with h1 | h1
  · obtain rfl : p = q + 1 := by omega
    exact Nat.le_refl _
  · have h2 := kindR_upto ks d i used s h1
    rw [kindR_succ]
    split
    · exact h2
    · have h3 := wayR_upto ks d i used q (kindR ks d i used q s) (Nat.zero_le (kAt ks q).ws.length)
      rw [wayR_zero] at h3
      omega
structure KOk (m : Nat) (ks : List KindV) : Prop where
 pos : ∀ k ∈ ks, k.ws ≠ []
 way : ∀ k ∈ ks, ∀ x ∈ k.ws, (x.length : Int) = k.M ∧ ∀ v ∈ x, 0 ≤ v ∧ v < (m : Int)
 short : ∀ k ∈ ks, k.L.length ≤ 1000 ∧ k.ws.length ≤ 1000000 ∧ k.M ≤ 1000000
end Go.Proofs.YtiajlmajenabiaaGreat
