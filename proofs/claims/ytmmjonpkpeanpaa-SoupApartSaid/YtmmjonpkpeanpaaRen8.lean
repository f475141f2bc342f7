/- soup.Rename, and the document's Perm, walked. No condition. -/
import Derived.Test.YtmmjonpkpeanpaaRefMir8
import Derived.Laws.MakeOwn
namespace Go.Proofs.Ytmmjonpkpeanpaa
open Go.RowKit

set_option linter.unusedSimpArgs false
set_option linter.unusedVariables false
theorem run_make_rowN {P : Program} (t e : TypeId) (i : TypeInfo) (z : Value) (ht : P.underlying t = some (.slice e)) (hi : P.info? e = some i) (hz : i.zero = some z)
    (kl kc : IntKind) (n c : Nat) (hnc : n ≤ c) (hbytes : i.bytes * c ≤ 281474976710656) (h63 : c ≤ 9223372036854775807) (w : World) :
    (Instr.makeSlice t (.int kl (n : Int)) (.int kc (c : Int))).run P w = .ok (.slice (some ⟨w.heap.size, 0, none⟩) n c) (w.alloc (.cells (madeCells z.cells (c * i.size)) e)) := by
  have hb : (i.bytes : Int) * (c : Int) ≤ 281474976710656 := by
    have h : ((i.bytes * c : Nat) : Int) ≤ 281474976710656 := by omega
    rwa [Int.natCast_mul] at h
  have hr := run_make (P := P) w t e i z ht hi hz kl kc n c (by omega) (by omega) hb (by omega)
  simp only [Int.toNat_natCast] at hr
  exact hr
/-- m bools in a row. -/
def bools (m : Nat) (p : Nat → Bool) : Array Value := ((List.range m).map fun v => Value.bool (p v)).toArray
theorem bools_size (m : Nat) (p : Nat → Bool) : (bools m p).size = m := by simp [bools]
theorem bools_at {m : Nat} (p : Nat → Bool) {v : Nat} (h : v < m) : (bools m p)[v]? = some (.bool (p v)) := by simp [bools, h]
theorem bools_set {m : Nat} (p : Nat → Bool) (v : Nat) : (bools m p).setIfInBounds v (.bool true) = bools m (fun u => p u || u == v) := by
  apply Array.ext'
  refine List.ext_getElem? fun i => ?_
  rw [Array.getElem?_toList, Array.getElem?_toList, Array.getElem?_setIfInBounds]
  by_cases hi : i < m
  · rw [bools_at _ hi, bools_at _ hi]
    by_cases hv : v = i
    · subst hv
      rw [if_pos rfl, if_pos (by rw [bools_size]; exact hi)]
      simp
    · rw [if_neg hv]
      have : (i == v) = false := by rw [beq_eq_false_iff_ne]; exact fun e => hv e.symm
      rw [this, Bool.or_false]
  · have h1 : ∀ q : Nat → Bool, (bools m q)[i]? = none := fun q => Array.getElem?_eq_none (by rw [bools_size]; omega)
    rw [h1, h1]
    by_cases hv : v = i
    · rw [if_pos hv, if_neg (by rw [bools_size]; omega)]
    · rw [if_neg hv]
theorem madeBools (m : Nat) : madeCells (Value.bool false).cells m = bools m fun _ => false := by
  apply Array.ext'
  refine List.ext_getElem? fun i => ?_
  by_cases hi : i < m
  · simp [madeCells, bools, hi, Value.cells, Nat.mod_one]
  · simp [madeCells, bools, hi, Value.cells]
theorem bool_info : (Try.prog.info? 4).map (fun i => (i.zero, i.size, i.bytes)) = some (some (.bool false), 1, 1) := by kernel_rfl

/-- Is a list the numbers from 0 to N - 1, each once? -/
def permP (N : Int) (l : List Int) : Prop := (l.length : Int) = N ∧ l.Nodup ∧ ∀ x ∈ l, 0 ≤ x ∧ x < N
instance (N : Int) (l : List Int) : Decidable (permP N l) := by unfold permP; exact inferInstance
def upto (n : Nat) : List Int := (List.range n).map fun i : Nat => (i : Int)
theorem mem_upto {n : Nat} {x : Int} : x ∈ upto n ↔ 0 ≤ x ∧ x < n := by
  unfold upto
  rw [List.mem_map]
  constructor
  · rintro ⟨i, hi, rfl⟩
    have := List.mem_range.1 hi
    omega
  · rintro ⟨h1, h2⟩
    exact ⟨x.toNat, List.mem_range.2 (by omega), by omega⟩
theorem upto_nodup (n : Nat) : (upto n).Nodup := by
  unfold upto
  refine List.Pairwise.map _ ?_ (List.nodup_range (n := n))
  intro a b h e
  exact h (by omega)
theorem upto_len (n : Nat) : (upto n).length = n := by simp [upto]
theorem sub_len : ∀ (R l : List Int), R.Nodup → (∀ x ∈ R, x ∈ l) → R.length ≤ l.length
  | [], l, _, _ => Nat.zero_le _
  | a :: R, l, hn, hs => by
    have ha := hs a (List.mem_cons_self ..)
    have h1 := sub_len R (l.erase a) (List.nodup_cons.1 hn).2 (fun x hx => by
      have hne : x ≠ a := fun e => (List.nodup_cons.1 hn).1 (e ▸ hx)
      exact (List.mem_erase_of_ne hne).2 (hs x (List.mem_cons_of_mem _ hx)))
    have h2 := List.length_erase_of_mem ha
    have h3 : 0 < l.length := List.length_pos_of_mem ha
    rw [List.length_cons]
    omega
theorem perm_mem {n : Nat} {l : List Int} (h : permP n l) {x : Int} (h0 : 0 ≤ x) (h1 : x < n) : x ∈ l := by
  by_cases hx : x ∈ l
  · exact hx
  · have h2 := sub_len l ((upto n).erase x) h.2.1 (fun y hy => (List.mem_erase_of_ne (fun e : y = x => hx (e ▸ hy))).2 (mem_upto.2 (h.2.2 y hy)))
    have hm : x ∈ upto n := mem_upto.2 ⟨h0, h1⟩
    have h3 := List.length_erase_of_mem hm
    have h4 := upto_len n
    have h5 : 0 < (upto n).length := List.length_pos_of_mem hm
    have h6 := h.1
    omega
theorem perm_count {n : Nat} {l : List Int} (h : permP n l) {v : Nat} (hv : v < n) : l.count (v : Int) = 1 := by
  have h1 := List.nodup_iff_count.1 h.2.1 (v : Int)
  have h2 := List.one_le_count_iff.2 (perm_mem h (x := v) (by omega) (by omega))
  omega
theorem perm_of_count {n : Nat} {l : List Int} (hl : l.length = n) (h : ∀ v : Nat, v < n → l.count (v : Int) = 1) : permP n l := by
  have hin : ∀ x ∈ l, 0 ≤ x ∧ x < (n : Int) := fun x hx => by
    by_cases hx0 : 0 ≤ x ∧ x < (n : Int)
    · exact hx0
    · have h2 := sub_len (upto n) (l.erase x) (upto_nodup n) (fun y hy => by
        have hy2 := mem_upto.1 hy
        obtain ⟨yn, rfl⟩ := Int.eq_ofNat_of_zero_le hy2.1
        refine (List.mem_erase_of_ne (fun e : (yn : Int) = x => hx0 (e ▸ hy2))).2 ?_
        exact List.one_le_count_iff.1 (by rw [h yn (by omega)]; exact Nat.le_refl _))
      have h3 := List.length_erase_of_mem hx
      have h4 := upto_len n
      have h5 : 0 < l.length := List.length_pos_of_mem hx
      omega
  refine ⟨by omega, List.nodup_iff_count.2 fun x => ?_, hin⟩
  by_cases hx : x ∈ l
  · obtain ⟨h0, h1⟩ := hin x hx
    obtain ⟨xn, rfl⟩ := Int.eq_ofNat_of_zero_le h0
    rw [h xn (by omega)]
    exact Nat.le_refl _
  · rw [List.count_eq_zero_of_not_mem hx]
    exact Nat.zero_le _
theorem take_snoc_I (l : List Int) (k : Nat) {x : Int} (h : l[k]? = some x) : l.take (k + 1) = l.take k ++ [x] := by
  rw [List.take_add_one, h]
  rfl
attribute [local irreducible] Blk LRow IRow World.alloc World.setCell World.cell? World.frozen?
set_option maxRecDepth 100000 in
set_option maxHeartbeats 8000000 in
/-- Perm. -/
theorem refPerm_any (N : Int) (Al : Option Addr) (m cl : Nat) (l : List Int) (w : World) (hm : m ≤ 10000) (hl : Reads w w.heap.size 1 Al m (ZL l)) :
    Calls Try.prog 30 #[.slice Al m cl, .int .i64 N] w (BoolPost w (decide (permP N l))) := by
  obtain rfl : m = l.length := by have := hl.1; simp [ZL] at this; exact this.symm
  have HL := Lib.hid hl
  clear hl
  obtain ⟨b, hb⟩ : ∃ b, b = decide (permP N l) := ⟨_, rfl⟩
  rw [← hb]
  have HBQ := Lib.hid hb
  clear hb
  go_enter Try.func30, Try.ntmps30
  by_cases hlN : (l.length : Int) = N
  · subst hlN
    go_wp2_with fail
    go_loopw [5] (fun vv wr => ∃ v : Nat, v ≤ l.length ∧ vv = .int .i64 v ∧ Hid (∀ u : Nat, u < v → l.count (u : Int) = 1) ∧ wr = w) (fun vv _ => l.length - (intOf vv).toNat)
    case atStart => exact ⟨0, by omega, rfl, Lib.hid (fun u hu => absurd hu (by omega)), rfl⟩
    case round =>
      obtain ⟨v, hv, rfl, HC, hwr⟩ := hrel
      rw [hwr]
      clear hwr
      by_cases hlt : v < l.length
      · have hv1 : (v : Int) < (l.length : Int) := by omega
        go_wp2_with fail
        go_loopw [6, 7] (fun mv iv wr => ∃ i : Nat, i ≤ l.length ∧ iv = .int .i64 i ∧ mv = .int .i64 ((l.take i).count (v : Int) : Nat) ∧ wr = w) (fun _ iv _ => l.length - (intOf iv).toNat)
        case atStart => exact ⟨0, by omega, rfl, rfl, rfl⟩
        case round =>
          obtain ⟨i, hi, rfl, rfl, hwr⟩ := hrel
          rw [hwr]
          clear hwr
          by_cases hlti : i < l.length
          · obtain ⟨ad, u, eA, had, hu, hc⟩ := HL.out.at_ hlti
            obtain ⟨x, hx, rfl⟩ := zl_at hu
            have hi0 : (0 : Int) ≤ (i : Int) := by omega
            have hi1 : (i : Int) < (l.length : Int) := by omega
            have HCS : Hid ((l.take (i + 1)).count (v : Int) = (l.take i).count (v : Int) + if x = (v : Int) then 1 else 0) := Lib.hid (by
              rw [take_snoc_I l i hx, List.count_append, List.count_singleton]
              by_cases h : x = (v : Int) <;> simp [h])
            have hcl : (l.take i).count (v : Int) ≤ 10000 := Nat.le_trans List.count_le_length (by rw [List.length_take]; omega)
            generalize (l.take i).count (v : Int) = q at *
            subst eA
            clear hx hu had
            by_cases hxv : x = (v : Int)
            · have HC2 : Hid ((l.take (i + 1)).count (v : Int) = q + 1) := Lib.hid (by rw [HCS.out, if_pos hxv])
              clear HCS
              go_wp2_with fail
              exact ⟨⟨i + 1, by omega, by go_num, by rw [HC2.out]; go_num, by trivial⟩, by simp [intOf]; omega⟩
            · have HC2 : Hid ((l.take (i + 1)).count (v : Int) = q) := Lib.hid (by rw [HCS.out, if_neg hxv]; rfl)
              clear HCS
              go_wp2_with fail
              exact ⟨⟨i + 1, by omega, by go_num, by rw [HC2.out], by trivial⟩, by simp [intOf]; omega⟩
          · obtain rfl : i = l.length := by omega
            rw [List.take_length]
            by_cases hone : l.count (v : Int) = 1
            · have HN : Hid (∀ u : Nat, u < v + 1 → l.count (u : Int) = 1) := Lib.hid (fun u hu => by
                by_cases h : u < v
                · exact HC.out u h
                · obtain rfl : u = v := by omega
                  exact hone)
              rw [hone]
              clear hone
              go_wp2_with fail
              exact ⟨⟨v + 1, by omega, by go_num, HN, by trivial⟩, by simp [intOf]; omega⟩
            · have HQ : Hid (b = false) := Lib.hid (HBQ.out.trans <| decide_eq_false fun h => hone (perm_count h hlt))
              have hcl : l.count (v : Int) ≤ 10000 := Nat.le_trans List.count_le_length hm
              generalize l.count (v : Int) = q at *
              have hqi : ¬ (q : Int) = 1 := by omega
              go_wp2_with fail
              go_ret
              rw [HQ.out]
              exact ⟨rfl, Below.refl _ _⟩
      · obtain rfl : v = l.length := by omega
        have HQ : Hid (b = true) := Lib.hid (HBQ.out.trans <| decide_eq_true (perm_of_count rfl HC.out))
        go_wp2_with fail
        go_ret
        rw [HQ.out]
        exact ⟨rfl, Below.refl _ _⟩
  · have HQ : Hid (b = false) := Lib.hid (HBQ.out.trans <| decide_eq_false fun h => hlN h.1)
    go_wp2_with fail
    go_ret
    rw [HQ.out]
    exact ⟨rfl, Below.refl _ _⟩
end Go.Proofs.Ytmmjonpkpeanpaa
