/- Ticks, one behind the other, what arrives taken: the plain model. No program in sight. -/
import Derived.Test.YtieoeednfgpoiaaBoth
namespace Go.Proofs.Ytieoeednfgpoiaa
open Go.RowKit


/-- Taken one behind the other. -/
def takes (t : IS) (l : List Pk) : IS := l.foldl (fun t p => t.take p.seq p.data) t

/-- The state behind k rounds. -/
def rounds (s : LS) (t : IS) (m : Int) : Nat → LS × IS × Int
  | 0 => (s, t, m)
  | k + 1 => ((rounds s t m k).1.tick, takes (rounds s t m k).2.1 (rounds s t m k).1.out, (rounds s t m k).2.2 + (rounds s t m k).1.out.length)

/-- No packet is too long. -/
def Narrow (s : LS) (t : IS) : Prop := (∀ p ∈ s.way, p.data.length ≤ 65536) ∧ ∀ p ∈ t.took, p.2.length ≤ 65536

theorem put_data {s : LS} (_ok : s.Ok) {P : Pk → Prop} (h : ∀ p ∈ s.way, P p) (hp : s.wait ≠ [] → P s.pk) : ∀ p ∈ s.put.way, P p := by
  intro p hq
  unfold LS.put at hq
  split at hq
  · exact h p hq
  · rename_i hne
    simp only at hq
    split at hq
    · exact h p hq
    · rcases List.mem_append.1 hq with hq | hq
      · exact h p hq
      · obtain rfl : p = s.pk := by simpa using hq
        exact hp hne
theorem pk_len {s : LS} (ok : s.Ok) : s.pk.data.length ≤ 65536 := by
  show (s.wait.take s.len).length ≤ _
  rw [List.length_take]
  have : s.len ≤ s.rate.toNat := Nat.min_le_left _ _
  have := ok.rate2
  omega
theorem out_one {s : LS} (ok : s.Ok) : s.out = [] ∨ ∃ p ∈ s.put.way, p.at_ = s.now + 1 ∧ s.out = [p] := by
  rcases filter_at (s.now + 1) s.put.way (put_ok s ok).2.2 with ⟨e, _⟩ | ⟨p, hp, hx, e, _⟩
  · exact .inl e
  · exact .inr ⟨p, hp, hx, e⟩
theorem take_narrow {s : LS} {t : IS} {x : Int} {d : List UInt8} (h : Narrow s t) (hd : d.length ≤ 65536) : Narrow s (t.take x d) ∧ (t.take x d).took.length ≤ t.took.length + 1 ∧ ((t.take x d).last = t.last ∨ (t.take x d).last = max t.last x) := by
  unfold IS.take
  split
  · exact ⟨h, by omega, .inl rfl⟩
  · refine ⟨⟨h.1, fun p hp => ?_⟩, by simp, .inr rfl⟩
    rcases List.mem_append.1 hp with hp | hp
    · exact h.2 p hp
    · obtain rfl : p = (x, d) := by simpa using hp
      exact hd

structure RInv (s : LS) (t : IS) : Prop where
  ok : s.Ok
  narrow : Narrow s t
  seqs : ∀ p ∈ s.way, 0 ≤ p.seq ∧ p.seq < s.next
  last : t.last ≤ 1000000
theorem tick_seqs {s : LS} {t : IS} (h : RInv s t) : (∀ p ∈ s.put.way, 0 ≤ p.seq ∧ p.seq < s.put.next) ∧ s.put.next ≤ s.now + 1 := by
  have h1 := h.ok.next1
  have h2 := h.ok.next2
  have e : s.next ≤ s.put.next ∧ s.put.next ≤ s.now + 1 ∧ (s.wait ≠ [] → s.put.next = s.next + 1) := by
    unfold LS.put
    split
    · rename_i he
      exact ⟨Int.le_refl _, by simp only; omega, fun hne => absurd he hne⟩
    · exact ⟨by simp only; omega, by simp only; omega, fun _ => rfl⟩
  refine ⟨put_data h.ok (fun p hp => by have := h.seqs p hp; omega) (fun hne => ?_), e.2.1⟩
  show 0 ≤ s.next ∧ s.next < _
  rw [e.2.2 hne]
  omega
theorem tick_rinv {s : LS} {t : IS} (h : RInv s t) (hn : s.now < 1000000) : RInv s.tick (takes t s.out) ∧ (takes t s.out).took.length ≤ t.took.length + 1 ∧ s.tick.now = s.now + 1 := by
  have hd := put_data h.ok h.narrow.1 (fun _ => pk_len h.ok)
  obtain ⟨hs, hs2⟩ := tick_seqs h
  have hw : ∀ p ∈ s.tick.way, p.data.length ≤ 65536 := fun p hp => hd p (List.mem_filter.1 hp).1
  have hq : ∀ p ∈ s.tick.way, 0 ≤ p.seq ∧ p.seq < s.tick.next := fun p hp => hs p (List.mem_filter.1 hp).1
  have hnow : s.tick.now = s.now + 1 := (put_ok s h.ok).1
  have hl := h.last
  rcases out_one h.ok with e | ⟨p, hp, _, e⟩
  · rw [e]
    exact ⟨⟨tick_ok s h.ok hn, ⟨hw, h.narrow.2⟩, hq, hl⟩, Nat.le_succ _, hnow⟩
  · rw [e]
    have n0 : Narrow s.tick t := ⟨hw, h.narrow.2⟩
    obtain ⟨n1, n2, n3⟩ := take_narrow (x := p.seq) n0 (hd p hp)
    have := hs p hp
    refine ⟨⟨tick_ok s h.ok hn, n1, hq, ?_⟩, n2, hnow⟩
    show (t.take p.seq p.data).last ≤ _
    rcases n3 with n3 | n3 <;> omega
theorem rounds_rinv {s : LS} {t : IS} {m : Int} (h : RInv s t) : ∀ (k : Nat), s.now + k ≤ 1000000 → RInv (rounds s t m k).1 (rounds s t m k).2.1 ∧ (rounds s t m k).2.1.took.length ≤ t.took.length + k ∧ (rounds s t m k).1.now = s.now + k
  | 0, _ => ⟨h, Nat.le_refl _, by simp [rounds]⟩
  | k + 1, hk => by
    obtain ⟨a, b, c⟩ := rounds_rinv (m := m) h k (by omega)
    obtain ⟨a1, b1, c1⟩ := tick_rinv a (by omega)
    exact ⟨a1, by simp only [rounds]; omega, by simp only [rounds]; omega⟩

theorem start_rinv {rate delay : Int} {lost : List Int} (h : errNew rate delay lost = 0) (b : List UInt8) (hb : b.length ≤ 4194304) : RInv ((LS.start rate delay lost).send b) ⟨[], 0⟩ :=
  ⟨send_ok (start_ok h) b (by show 0 + b.length ≤ _; omega), ⟨(fun p hp => by cases hp), (fun p hp => by cases hp)⟩, (fun p hp => by cases hp), by decide⟩

def demo : LS := (LS.start 2 1 [1]).send [1, 2, 3, 4, 5]
def demoR (k : Nat) : LS × IS × Int := rounds demo ⟨[], 0⟩ 0 k
theorem demo4 : (demoR 4).2.2 = 2 ∧ (demoR 4).2.1.front = [1, 2] ∧ (demoR 4).2.1.gaps = [1] ∧ idleB (demoR 4).1 = true ∧ (demoR 4).1.now = 4 := by
  refine ⟨?_, ?_, ?_, ?_, ?_⟩ <;> decide
end Go.Proofs.Ytieoeednfgpoiaa
