/- The plain model of a line and of an inbox. No program in sight. -/
import Derived.Test.YtdpgbccgngdapaaBase
namespace Go.Proofs.Ytdpgbccgngdapaa
open Go.RowKit

/-- A packet on its way: the tick at which it arrives, its number, its bytes. -/
structure Pk where
  at_ : Int
  seq : Int
  data : List UInt8

/-- A line. -/
structure LS where
  rate : Int
  delay : Int
  now : Int
  next : Int
  lost : List Int
  wait : List UInt8
  way : List Pk

def B8 (l : List UInt8) : List Value := l.map fun b => .int .u8 (b.toNat : Int)
theorem B8_length (l : List UInt8) : (B8 l).length = l.length := by simp [B8]
theorem B8_oneCell (l : List UInt8) : ∀ u ∈ B8 l, u.oneCell' = true := by
  intro u hu
  obtain ⟨b, _, rfl⟩ := List.mem_map.1 hu
  rfl
theorem B8_take (l : List UInt8) (k : Nat) : (B8 l).take k = B8 (l.take k) := by simp [B8, List.map_take]
theorem B8_drop (l : List UInt8) (k : Nat) : (B8 l).drop k = B8 (l.drop k) := by simp [B8, List.map_drop]
theorem B8_append (l r : List UInt8) : B8 l ++ B8 r = B8 (l ++ r) := by simp [B8]

/-- How many bytes leave. -/
def LS.len (s : LS) : Nat := min s.rate.toNat s.wait.length
/-- The packet that leaves. -/
def LS.pk (s : LS) : Pk := ⟨s.now + 1 + s.delay, s.next, s.wait.take s.len⟩
/-- The tick's first half: a packet leaves. -/
def LS.put (s : LS) : LS :=
  if s.wait = [] then { s with now := s.now + 1 }
  else { s with now := s.now + 1, next := s.next + 1, wait := s.wait.drop s.len, way := if s.next ∈ s.lost then s.way else s.way ++ [s.pk] }
/-- What arrives. -/
def LS.out (s : LS) : List Pk := s.put.way.filter (fun p => p.at_ = s.now + 1)
def LS.tick (s : LS) : LS := { s.put with way := s.put.way.filter (fun p => p.at_ ≠ s.now + 1) }
def LS.send (s : LS) (b : List UInt8) : LS := { s with wait := s.wait ++ b }

structure LS.Ok (s : LS) : Prop where
  rate1 : 1 ≤ s.rate
  rate2 : s.rate ≤ 65536
  delay1 : 0 ≤ s.delay
  delay2 : s.delay ≤ 1000
  now1 : 0 ≤ s.now
  now2 : s.now ≤ 1000000
  next1 : 0 ≤ s.next
  next2 : s.next ≤ s.now
  lost : s.lost.length ≤ 1000
  wait : s.wait.length ≤ 4194304
  way : ∀ p ∈ s.way, s.now < p.at_ ∧ p.at_ ≤ s.now + s.delay
  rising : s.way.Pairwise (fun p q => p.at_ < q.at_)
  short : s.way.length ≤ 1000

end Go.Proofs.Ytdpgbccgngdapaa
