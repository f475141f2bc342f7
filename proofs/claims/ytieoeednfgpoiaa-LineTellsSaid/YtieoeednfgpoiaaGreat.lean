/- Slices of slices of bytes; the contracts of great and whole. No condition. -/
import Derived.Test.YtieoeednfgpoiaaClosed
import Derived.Test.YtieoeednfgpoiaaAwake
namespace Go.Proofs.Ytieoeednfgpoiaa
open Go.RowKit


/-- A slice of slices of bytes reads. -/
def RowsAt (w : World) (B : Nat) (A : Option Addr) (n : Nat) (bs : List (List UInt8)) : Prop :=
  bs.length = n ∧ (0 < n → ∃ ad, A = some ad ∧ ad.block < B ∧ ∀ k b, bs[k]? = some b → ∃ A' c, b.length ≤ c ∧ w.cell? (ad.add k) = some (.slice A' b.length c) ∧ Reads w B 1 A' b.length (B8 b))
theorem RowsAt.keep {w w' : World} {B : Nat} {A : Option Addr} {n : Nat} {bs : List (List UInt8)} (h : RowsAt w B A n bs) (hk : ∀ p : Addr, p.block < B → w'.cell? p = w.cell? p) : RowsAt w' B A n bs :=
  ⟨h.1, fun hn => by
    obtain ⟨ad, e, hb, hc⟩ := h.2 hn
    refine ⟨ad, e, hb, fun k b hkb => ?_⟩
    obtain ⟨A', c, h0, h1, h2⟩ := hc k b hkb
    exact ⟨A', c, h0, (hk _ (by rw [block_of_add]; exact hb)).trans h1, h2.keep hk⟩⟩
theorem RowsAt.below {w w' : World} {B : Nat} {A : Option Addr} {n : Nat} {bs : List (List UInt8)} (h : RowsAt w B A n bs) (hb : Below B w w') : RowsAt w' B A n bs := h.keep fun _ hp => hb.cell hp
theorem RowsAt.at_ {w : World} {B : Nat} {A : Option Addr} {n k : Nat} {bs : List (List UInt8)} (h : RowsAt w B A n bs) (hk : k < n) :
    ∃ ad b A' c, A = some ad ∧ bs[k]? = some b ∧ b.length ≤ c ∧ w.cell? (ad.add k) = some (.slice A' b.length c) ∧ Reads w B 1 A' b.length (B8 b) := by
  obtain ⟨ad, e, _, hc⟩ := h.2 (by omega)
  have hl : k < bs.length := by rw [h.1]; exact hk
  obtain ⟨A', c, h0, h1, h2⟩ := hc k _ (List.getElem?_eq_getElem hl)
  exact ⟨ad, bs[k], A', c, e, List.getElem?_eq_getElem hl, h0, h1, h2⟩

def greatB (bs : List (List UInt8)) (l : Nat) : Bool := !(decide (bs.length ≤ 30) && decide (l ≤ 30) && bs.all (fun b => decide (b.length ≤ 120)))

theorem great_yes {bs : List (List UInt8)} {l k : Nat} {b : List UInt8} (h : bs[k]? = some b) (hb : 120 < b.length) : greatB bs l = true := by
  unfold greatB
  have : bs.all (fun b => decide (b.length ≤ 120)) = false := by
    rw [List.all_eq_false]
    exact ⟨b, List.mem_of_getElem? h, by simp; omega⟩
  rw [this]; simp

set_option maxHeartbeats 1000000 in
theorem great_any (A A2 : Option Addr) (n c n2 c2 B : Nat) (bs : List (List UInt8)) (w : World) (hr : RowsAt w B A n bs) (hn : n ≤ 9223372036854775807) (hn2 : n2 ≤ 9223372036854775807) (hbl : ∀ b ∈ bs, b.length ≤ 9223372036854775807) :
    Calls Try.prog 11 #[.slice A n c, .slice A2 n2 c2] w fun e w' => e = .returned (.bool (greatB bs n2)) ∧ w = w' := by
  have HR := Lib.hid hr
  have HBL := Lib.hid hbl
  clear hr hbl
  go_enter Try.func11, Try.ntmps11
  go_wp2
  go_loop [5] (fun i => ∃ k : Nat, k ≤ n ∧ k ≤ 31 ∧ i = .int .i64 k ∧ Hid (∀ j b, j < k → bs[j]? = some b → b.length ≤ 120)) (fun i => 31 - (intOf i).toNat)
  case atStart => exact ⟨0, by omega, by omega, rfl, fun j b hj => by omega⟩
  case round =>
    obtain ⟨k, hk, hk2, rfl, HS⟩ := hrel
    by_cases hlt : k < n
    · by_cases hlt2 : k ≤ 30
      · obtain ⟨ad, b, A', c', rfl, hb, _, hc, hrd⟩ := HR.out.at_ hlt
        have hbm := HBL.out b (List.mem_of_getElem? hb)
        have HB := Lib.hid hb
        clear hb hrd
        by_cases hg : 120 < b.length
        · have hg' : (120 : Int) < (b.length : Int) := by omega
          have HE := Lib.hid (great_yes (l := n2) HB.out hg)
          go_wp2
          go_ret
          exact ⟨by rw [HE.out]; rfl, rfl⟩
        · have hg' : (b.length : Int) ≤ 120 := by omega
          go_wp2
          go_round
          case rel =>
            refine ⟨k + 1, by omega, by omega, by go_num, fun j b' hj hb' => ?_⟩
            rcases (by omega : j < k ∨ j = k) with h1 | rfl
            · exact HS.out j b' h1 hb'
            · rw [HB.out] at hb'; injection hb' with e; subst e; omega
          case measure => simp [intOf]; omega
      · have e : greatB bs n2 = true := by
          have := HR.out.1
          unfold greatB
          rw [decide_eq_false (by omega)]; rfl
        have HE := Lib.hid e
        clear e HS
        have h30 : (30 : Int) < (n : Int) := by omega
        go_wp2
        go_ret
        exact ⟨by rw [HE.out]; rfl, rfl⟩
    · obtain rfl : k = n := by omega
      have hln := HR.out.1
      by_cases h30 : 30 < k
      · have e : greatB bs n2 = true := by
          unfold greatB
          rw [decide_eq_false (by omega)]; rfl
        have HE := Lib.hid e
        clear e HS hln
        have h30' : (30 : Int) < (k : Int) := by omega
        go_wp2
        go_ret
        exact ⟨by rw [HE.out]; rfl, rfl⟩
      · have e : greatB bs n2 = decide ((30 : Int) < (n2 : Int)) := by
          have ha : bs.all (fun b => decide (b.length ≤ 120)) = true := by
            rw [List.all_eq_true]
            intro b hb
            obtain ⟨j, hj⟩ := List.mem_iff_getElem?.1 hb
            have hj2 := (List.getElem?_eq_some_iff.1 hj).1
            simpa using HS.out j b (by omega) hj
          unfold greatB
          rw [ha, decide_eq_true (by omega : bs.length ≤ 30)]
          by_cases h : n2 ≤ 30
          · rw [decide_eq_true h, decide_eq_false (by omega)]; rfl
          · rw [decide_eq_false h, decide_eq_true (by omega)]; rfl
        have E := Lib.hid e
        have h30' : (k : Int) ≤ 30 := by omega
        clear e HS hln
        go_wp2
        go_ret
        refine ⟨?_, rfl⟩
        show Ending.returned (.bool (decide ((30 : Int) < (k : Int)) || decide ((30 : Int) < (n2 : Int)))) = _
        rw [E.out, decide_eq_false (show ¬ (30 : Int) < (k : Int) by omega)]; rfl

def WholePost (l : List UInt8) (w : World) (e : Ending) (w' : World) : Prop :=
  ∃ A c, l.length ≤ c ∧ e = .returned (.slice A l.length c) ∧ w'.ownsRow w.heap.size 5 1 (.slice A l.length c) l.length (B8 l) ∧ Below w.heap.size w w'

theorem flat_succ (bs : List (List UInt8)) (k : Nat) (b : List UInt8) (h : bs[k]? = some b) : (bs.take (k + 1)).flatten = (bs.take k).flatten ++ b := by
  obtain ⟨h1, h2⟩ := List.getElem?_eq_some_iff.1 h
  rw [List.take_succ_eq_append_getElem h1, List.flatten_append, h2]; simp

set_option maxHeartbeats 1000000 in
theorem whole_any (A : Option Addr) (n c : Nat) (bs : List (List UInt8)) (w : World) (hr : RowsAt w w.heap.size A n bs) (hn : n ≤ 30) (hbl : ∀ b ∈ bs, b.length ≤ 120) :
    Calls Try.prog 20 #[.slice A n c] w (WholePost bs.flatten w) := by
  obtain ⟨i0, hi0, hz0, hz1, hz2⟩ := info_parts u8_info
  have HR := Lib.hid hr
  have HBL := Lib.hid hbl
  clear hr hbl
  go_enter Try.func20, Try.ntmps20
  go_wp2
  go_loopw [3, 4] (fun v i wr => ∃ k : Nat, k ≤ n ∧ i = .int .i64 k ∧ ∃ A1 c1 m, v = .slice A1 m c1 ∧ Hid (m = (bs.take k).flatten.length) ∧ m ≤ k * 120 ∧ Hid (wr.ownsRow w.heap.size 5 1 (.slice A1 m c1) m (B8 (bs.take k).flatten)) ∧ Below w.heap.size w wr) (fun _ i _ => n - (intOf i).toNat)
  case atStart => exact ⟨0, by omega, rfl, none, 0, 0, rfl, rfl, by omega, World.ownsRow_nil _ _ _ _, Below.refl _ _⟩
  case round =>
    obtain ⟨k, hk, rfl, A1, c1, m, rfl, HM, hm, HO, hb⟩ := hrel
    by_cases hlt : k < n
    · obtain ⟨ad, b, A', c', rfl, hbk, _, hc, hrd⟩ := (HR.out.below hb).at_ hlt
      have hbm := HBL.out b (List.mem_of_getElem? hbk)
      have HBK := Lib.hid (flat_succ bs k b hbk)
      have HRD := Lib.hid hrd
      have HB := Lib.hid hb
      have hbz := hb.size
      clear hbk hrd hb
      go_wp2_with (at_builtin; go_must (refine wpList_append_sl _ rfl (.tmp 11) (.tmp 15) _ rfl w.heap.size 5 i0 _ 1 1 Try.underlying35 hi0 hz0 hz1 hz2 rfl (by omega) (.slice A1 m c1) m (B8 (bs.take k).flatten) rfl HO.out w.heap.size A' b.length c' (B8 b) rfl HRD.out (B8_oneCell _) (by simp only [maxLen]; omega) (by omega) hbz ?_); intro A2 c2 w1 hown1 hg1 hat1)
      go_roundw
      case rel =>
        refine ⟨k + 1, by omega, by go_num, A2, c2, m + b.length, rfl, ?_, by omega, ?_, HB.out.grown hg1 hbz fun j hj => (HO.out.lt j hj).1⟩
        · show _ = _; rw [HBK.out, List.length_append, ← HM.out]
        · show World.ownsRow _ _ _ _ _ _ _; rw [HBK.out, ← B8_append]; exact hown1
      case measure => simp [intOf]; omega
    · obtain rfl : k = n := by omega
      have e : bs.take k = bs := List.take_of_length_le (by rw [HR.out.1]; exact Nat.le_refl _)
      have HE := Lib.hid e
      have HB := Lib.hid hb
      clear e hb
      go_wp2
      go_ret
      have h1 := HM.out
      have h2 := HO.out
      rw [HE.out] at h1 h2
      subst h1
      obtain ⟨A3, c3, e3, hc3⟩ := own_form h2
      injection e3 with e3 _ e4
      subst e3 e4
      exact ⟨A1, c1, hc3, rfl, h2, HB.out⟩
end Go.Proofs.Ytieoeednfgpoiaa
