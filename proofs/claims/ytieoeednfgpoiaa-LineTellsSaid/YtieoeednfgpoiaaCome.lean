/- The inbox behind m packets, in closed form; rows of bytes that stay. -/
import Derived.Test.YtieoeednfgpoiaaGreat
namespace Go.Proofs.Ytieoeednfgpoiaa
open Go.RowKit


/-- How many packets have left and come as far as the other end, behind k ticks. -/
def come (r d : Nat) (b : List UInt8) (k : Nat) : Nat := min (k - d) (many r b)
/-- The inbox behind m packets. -/
def TK (r d : Nat) (lost : List Int) (b : List UInt8) (m : Nat) : IS :=
  ⟨(live lost 0 m).map (fun j : Nat => ((j : Int), (pkJ r d b j).data)), ((live lost 0 m).getLastD 0 : Nat)⟩

theorem mem_live0 {lost : List Int} {m j : Nat} : j ∈ live lost 0 m ↔ j < m ∧ (j : Int) ∉ lost := by
  unfold live
  rw [List.mem_filter, List.mem_range'_1]
  simp
theorem live_last (lost : List Int) (m : Nat) : (live lost 0 m).getLastD 0 ≤ m - 1 := by
  cases h : (live lost 0 m).getLast? with
  | none => rw [List.getLastD_eq_getLast?, h]; simp
  | some x =>
    rw [List.getLastD_eq_getLast?, h]
    have := (mem_live0.1 (List.mem_of_getLast? h)).1
    simp; omega

theorem TK_has {r d : Nat} {lost : List Int} {b : List UInt8} {m j : Nat} : (TK r d lost b m).has j ↔ j < m ∧ (j : Int) ∉ lost := by
  rw [← mem_live0]
  constructor
  · rintro ⟨p, hp, e⟩
    obtain ⟨i, hi, rfl⟩ := List.mem_map.1 hp
    have e' : (i : Int) = (j : Int) := e
    have : i = j := by omega
    exact this ▸ hi
  · intro h
    exact ⟨_, List.mem_map.2 ⟨j, h, rfl⟩, rfl⟩

theorem TK_at (r d : Nat) (lost : List Int) (b : List UInt8) (m j : Nat) : (TK r d lost b m).at_ (j : Int) = if j < m ∧ (j : Int) ∉ lost then some (pkJ r d b j).data else none := by
  cases h : (TK r d lost b m).at_ (j : Int) with
  | none =>
    have h1 := at_none h
    rw [if_neg]
    intro h2
    obtain ⟨p, hp, e⟩ := TK_has (r := r) (d := d) (b := b).2 h2
    exact h1 p hp e
  | some x =>
    have h1 := at_some h
    obtain ⟨i, hi, e⟩ := List.mem_map.1 h1
    injection e with e1 e2
    have : i = j := by omega
    subst this
    rw [if_pos (mem_live0.1 hi), e2]

theorem TK_take (r d : Nat) (lost : List Int) (b : List UInt8) (m : Nat) (h : (m : Int) ∉ lost) : (TK r d lost b m).take m (pkJ r d b m).data = TK r d lost b (m + 1) := by
  have hno : ¬ (TK r d lost b m).has (m : Int) := fun h' => by have := (TK_has.1 h').1; omega
  unfold IS.take
  rw [if_neg (by rintro (h1 | h1); omega; exact hno h1)]
  unfold TK
  rw [live_snoc _ _ _ (Nat.zero_le _), if_neg h]
  have := live_last lost m
  simp only [List.map_append, List.map_cons, List.map_nil]
  congr 1
  rw [List.getLastD_concat]
  omega
theorem TK_lost (r d : Nat) (lost : List Int) (b : List UInt8) (m : Nat) (h : (m : Int) ∈ lost) : TK r d lost b (m + 1) = TK r d lost b m := by
  unfold TK
  rw [live_snoc _ _ _ (Nat.zero_le _), if_pos h]

/-- A tick, and what arrives taken. -/
theorem TK_step (r d : Nat) (lost : List Int) (b : List UInt8) (k : Nat) : takes (TK r d lost b (come r d b k)) (outK r d lost b k) = TK r d lost b (come r d b (k + 1)) := by
  unfold outK come
  by_cases h : d ≤ k ∧ k - d < many r b
  · have e1 : min (k - d) (many r b) = k - d := by omega
    have e2 : min (k + 1 - d) (many r b) = k - d + 1 := by omega
    rw [e1, e2]
    by_cases hl : ((k - d : Nat) : Int) ∈ lost
    · rw [if_neg (fun h' => h'.2.2 hl), TK_lost _ _ _ _ _ hl]; rfl
    · rw [if_pos ⟨h.1, h.2, hl⟩]
      exact TK_take r d lost b (k - d) hl
  · have e1 : min (k - d) (many r b) = min (k + 1 - d) (many r b) := by omega
    rw [if_neg (fun h' => h ⟨h'.1, h'.2.1⟩), e1]; rfl

/-- The first number that gets lost, or m. -/
def firstLost (lost : List Int) : Nat → Nat
  | 0 => 0
  | m + 1 => if firstLost lost m < m then firstLost lost m else if (m : Int) ∈ lost then m else m + 1
theorem firstLost_spec (lost : List Int) : ∀ m, firstLost lost m ≤ m ∧ (∀ j, j < firstLost lost m → (j : Int) ∉ lost) ∧ (firstLost lost m < m → ((firstLost lost m : Nat) : Int) ∈ lost)
  | 0 => ⟨Nat.le_refl _, fun j hj => absurd hj (Nat.not_lt_zero _), fun h => absurd h (Nat.lt_irrefl _)⟩
  | m + 1 => by
    obtain ⟨h1, h2, h3⟩ := firstLost_spec lost m
    unfold firstLost
    split
    · rename_i h
      exact ⟨by omega, h2, fun _ => h3 h⟩
    · rename_i h
      have e : firstLost lost m = m := by omega
      rw [e] at h2
      split
      · rename_i hm
        exact ⟨by omega, h2, fun _ => hm⟩
      · rename_i hm
        refine ⟨Nat.le_refl _, fun j hj => ?_, fun h' => by omega⟩
        rcases (by omega : j < m ∨ j = m) with h' | rfl
        · exact h2 j h'
        · exact hm

theorem frontFrom_TK (r d : Nat) (lost : List Int) (b : List UInt8) (m : Nat) : ∀ n k, k ≤ firstLost lost m → firstLost lost m - k < n → frontFrom (TK r d lost b m) n k = (b.take (firstLost lost m * r)).drop (k * r)
  | 0, k, _, h => by omega
  | n + 1, k, hk, h => by
    obtain ⟨f1, f2, f3⟩ := firstLost_spec lost m
    rcases (by omega : k = firstLost lost m ∨ k < firstLost lost m) with e | hlt
    · have ha : (TK r d lost b m).at_ (k : Int) = none := by
        rw [TK_at, if_neg]
        rintro ⟨h1, h2⟩
        rw [e] at h1 h2
        exact h2 (f3 h1)
      simp only [frontFrom, ha]
      rw [e, List.drop_eq_nil_iff.2 (by rw [List.length_take]; omega)]
    · have ha : (TK r d lost b m).at_ (k : Int) = some (pkJ r d b k).data := by
        rw [TK_at, if_pos ⟨by omega, f2 k hlt⟩]
      simp only [frontFrom, ha]
      rw [frontFrom_TK r d lost b m n (k + 1) hlt (by omega)]
      have hmul : (k + 1) * r ≤ firstLost lost m * r := Nat.mul_le_mul_right _ hlt
      show (b.drop (k * r)).take r ++ _ = _
      rw [Nat.succ_mul] at hmul ⊢
      rw [← List.drop_drop, List.drop_take]
      have e1 : (b.drop (k * r)).take r = ((b.drop (k * r)).take (firstLost lost m * r - k * r)).take r := by
        rw [List.take_take]; congr 1; omega
      rw [e1, List.take_append_drop]

theorem TK_front (r d : Nat) (lost : List Int) (b : List UInt8) (m : Nat) : (TK r d lost b m).front = b.take (firstLost lost m * r) := by
  unfold IS.front
  have h : firstLost lost m ≤ (TK r d lost b m).took.length := taken_le fun j hj => TK_has.2 ⟨by have := (firstLost_spec lost m).1; omega, (firstLost_spec lost m).2.1 j hj⟩
  rw [frontFrom_TK r d lost b m _ 0 (Nat.zero_le _) (by omega), Nat.zero_mul, List.drop_zero]

theorem firstLost_nil (m : Nat) : firstLost [] m = m := by
  induction m with
  | zero => rfl
  | succ m ih => unfold firstLost; rw [ih]; simp

theorem gapsTo_eq (r d : Nat) (lost : List Int) (b : List UInt8) (m n : Nat) (h : n ≤ m) : gapsTo (TK r d lost b m) n = ((List.range n).filter (fun j : Nat => (j : Int) ∈ lost)).map (fun j : Nat => (j : Int)) := by
  unfold gapsTo
  congr 1
  refine List.filter_congr fun j hj => ?_
  have := List.mem_range.1 hj
  rw [TK_at]
  by_cases hl : (j : Int) ∈ lost
  · rw [if_neg (fun h' => h'.2 hl)]; simp [hl]
  · rw [if_pos ⟨by omega, hl⟩]; simp [hl]
theorem TK_gaps_nil (r d : Nat) (b : List UInt8) (m : Nat) : (TK r d [] b m).gaps = [] := by
  unfold IS.gaps
  rw [gapsTo_eq _ _ _ _ _ _ (by have := live_last [] m; show ((live [] 0 m).getLastD 0 : Int).toNat ≤ m; omega)]
  simp

theorem TK_start (r d : Nat) (lost : List Int) (b : List UInt8) : TK r d lost b 0 = ⟨[], 0⟩ := rfl
theorem TK_len (r d : Nat) (lost : List Int) (b : List UInt8) (m : Nat) : (TK r d lost b m).took.length ≤ m := by
  unfold TK live
  simp only [List.length_map]
  refine Nat.le_trans (List.length_filter_le _ _) ?_
  simp
theorem TK_data (r d : Nat) (lost : List Int) (b : List UInt8) (m : Nat) : ∀ p ∈ (TK r d lost b m).took, p.2.length ≤ r := by
  intro p hp
  obtain ⟨j, _, rfl⟩ := List.mem_map.1 hp
  show ((b.drop (j * r)).take r).length ≤ r
  rw [List.length_take]; omega
theorem TK_last (r d : Nat) (lost : List Int) (b : List UInt8) (m : Nat) : 0 ≤ (TK r d lost b m).last ∧ (TK r d lost b m).last ≤ m := by
  have := live_last lost m
  constructor
  · exact Int.natCast_nonneg _
  · show (((live lost 0 m).getLastD 0 : Nat) : Int) ≤ _; omega

/-- Rows of bytes stay. -/
def Bytes (w w' : World) : Prop := ∀ k cs, Blk w k 5 cs → w'.heap[k]? = w.heap[k]?
theorem Bytes.own {w w' : World} {base n : Nat} {v : Value} {xs : List Value} (h : Bytes w w') (ho : w.ownsRow base 5 1 v n xs) : w'.ownsRow base 5 1 v n xs := own_same ho fun k hk => by
  obtain ⟨cs, hb⟩ := own_blk ho hk
  exact h k cs hb
theorem Bytes.of_below {w w' : World} (h : Below w.heap.size w w') : Bytes w w' := fun k _ hb => h.block k hb.lt
theorem Bytes.trans {a b c : World} (h : Bytes a b) (h' : Bytes b c) : Bytes a c := fun k cs hb => by
  have e := h k cs hb
  exact (h' k cs (e.trans hb)).trans e
theorem tick_bytes {w w' : World} {base g bl bw : Nat} {wv : Value} {fw : Int → Option Value} {s : LS} (h : LineAt w base g bl bw wv fw s) (ho : TickOnly g bw w w') : Bytes w w' := fun k cs hb => ho.block k hb.lt (by
  rintro (e | e)
  · exact Blk.ne_ hb h.blk (by decide) e
  · exact h.way.ne_blk hb e.symm)

/-- The call of Take at a packet that arrived, its box laid; rows of bytes stay. -/
theorem take_box2 {w w4 : World} {base g bl bw gi : Nat} {ob : Option Nat} {s : LS} {t : IS} {p : Pk} {A : Option Addr} {dc : Nat} (h : Both w base g bl bw gi ob s t) (hb : Below w.heap.size w w4)
    (ho : w.ownsRow base 5 1 (.slice A p.data.length dc) p.data.length (B8 p.data)) (h1 : -9223372036854775808 ≤ p.seq) (h2 : p.seq ≤ 9223372036854775807) (h3 : p.data.length ≤ 65536) (h4 : t.took.length ≤ 1000000) :
    Calls Try.prog 21 #[.pointer (some ⟨gi, 0, none⟩), .agg #[.int .i64 p.seq, .slice A p.data.length dc]] w4 fun e w' => e = .returned (.tuple #[]) ∧ ∃ ob', Both w' base g bl bw gi ob' s (t.take p.seq p.data) ∧ Below base w4 w' ∧ Bytes w4 w' := by
  have hB := h.below hb
  obtain ⟨fm, hi⟩ := hB.inbox
  have hod : w4.ownsRow base 5 1 (.slice A p.data.length dc) p.data.length (B8 p.data) := own_same ho fun k hk => hb.block k (ho.lt k hk).2
  have hbase : base ≤ w4.heap.size := Nat.le_of_lt (Nat.lt_of_le_of_lt hi.g1 hi.blk.lt)
  refine (take_any gi base ob fm t p.seq A p.data.length dc p.data w4 hi rfl (take_reads hi hod) h1 h2 (by omega) h4).mono fun e w' hp => ?_
  obtain ⟨he, ob', hB', hon⟩ := both_take hB hp
  refine ⟨he, ob', hB', hon.below hbase fun k hk => ?_, fun k cs hbk => hon.block k hbk.lt ?_⟩
  · rintro (e | e)
    · have := hi.g1; omega
    · rcases hi.map with ⟨e', _⟩ | ⟨b, e', hb', _⟩
      · rw [e'] at e; cases e
      · rw [e'] at e; injection e with e; omega
  · rintro (e | e)
    · exact Blk.ne_ hbk hi.blk (by decide) e
    · subst e; exact hi.map_of.ne_blk hbk rfl
end Go.Proofs.Ytieoeednfgpoiaa
