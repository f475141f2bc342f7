/- certify.lonely, walked: vertices without a triangle. No condition. -/
import Derived.Test.YtdmibpcpocacpaaSortW
import Derived.Laws.MakeOwn
namespace Go.Proofs.Ytdmibpcpocacpaa
open Go.RowKit

theorem run_make_rowN {P : Program} (t e : TypeId) (i : TypeInfo) (z : Value) (ht : P.underlying t = some (.slice e)) (hi : P.info? e = some i) (hz : i.zero = some z)
    (kl kc : IntKind) (n c : Nat) (hnc : n ≤ c) (hbytes : i.bytes * c ≤ 281474976710656) (h63 : c ≤ 9223372036854775807) (w : World) :
    (Instr.makeSlice t (.int kl (n : Int)) (.int kc (c : Int))).run P w = .ok (.slice (some ⟨w.heap.size, 0, none⟩) n c) (w.alloc (.cells (madeCells z.cells (c * i.size)) e)) := by
  have hb : (i.bytes : Int) * (c : Int) ≤ 281474976710656 := by
    have h : ((i.bytes * c : Nat) : Int) ≤ 281474976710656 := by omega
    rwa [Int.natCast_mul] at h
  have hr := run_make (P := P) w t e i z ht hi hz kl kc n c (by omega) (by omega) hb (by omega)
  simp only [Int.toNat_natCast] at hr
  exact hr

/-- m bools in a row. -/
def bools (m : Nat) (p : Nat → Bool) : Array Value := ((List.range m).map fun v => Value.bool (p v)).toArray
theorem bools_size (m : Nat) (p : Nat → Bool) : (bools m p).size = m := by simp [bools]
theorem bools_at {m : Nat} (p : Nat → Bool) {v : Nat} (h : v < m) : (bools m p)[v]? = some (.bool (p v)) := by simp [bools, h]
theorem bools_set {m : Nat} (p : Nat → Bool) (v : Nat) : (bools m p).setIfInBounds v (.bool true) = bools m (fun u => p u || u == v) := by
  apply Array.ext'
  refine List.ext_getElem? fun i => ?_
  rw [Array.getElem?_toList, Array.getElem?_toList, Array.getElem?_setIfInBounds]
  by_cases hi : i < m
  · rw [bools_at _ hi, bools_at _ hi]
    by_cases hv : v = i
    · subst hv
      rw [if_pos rfl, if_pos (by rw [bools_size]; exact hi)]
      simp
    · rw [if_neg hv]
      have : (i == v) = false := by rw [beq_eq_false_iff_ne]; exact fun e => hv e.symm
      rw [this, Bool.or_false]
  · have h1 : ∀ q : Nat → Bool, (bools m q)[i]? = none := fun q => Array.getElem?_eq_none (by rw [bools_size]; omega)
    rw [h1, h1]
    by_cases hv : v = i
    · rw [if_pos hv, if_neg (by rw [bools_size]; omega)]
    · rw [if_neg hv]
theorem madeBools (m : Nat) : madeCells (Value.bool false).cells m = bools m fun _ => false := by
  apply Array.ext'
  refine List.ext_getElem? fun i => ?_
  by_cases hi : i < m
  · simp [madeCells, bools, hi, Value.cells, Nat.mod_one]
  · simp [madeCells, bools, hi, Value.cells]

/-- Has one of the first k triangles a vertex? -/
def hasV (t : Tri) (v : Nat) : Bool := t.a == (v : Int) || t.b == (v : Int) || t.c == (v : Int)
def usedTo (T : List Tri) (k : Nat) (v : Nat) : Bool := (T.take k).any fun t => hasV t v
/-- Each triangle's vertices are numbers below m, and differ. -/
structure TriOk (m : Nat) (t : Tri) : Prop where
  a0 : 0 ≤ t.a
  a1 : t.a < m
  b0 : 0 ≤ t.b
  b1 : t.b < m
  c0 : 0 ≤ t.c
  c1 : t.c < m
  ab : t.a ≠ t.b
  bc : t.b ≠ t.c
  ca : t.c ≠ t.a
theorem nat_beq (a v : Nat) : (((a : Int)) == ((v : Int))) = (v == a) := by
  rw [Bool.eq_iff_iff, beq_iff_eq, beq_iff_eq]
  omega
theorem bool_info : (Try.prog.info? 4).map (fun i => (i.zero, i.size, i.bytes)) = some (some (.bool false), 1, 1) := by kernel_rfl

set_option maxRecDepth 100000 in
set_option maxHeartbeats 4000000 in
theorem lonely_any (m : Nat) (A : Option Addr) (n c : Nat) (T : List Tri) (w : World) (hm : m ≤ 4096) (hn : n ≤ 10000) (ht : TrisAt w w.heap.size A n T) (hok : ∀ t ∈ T, TriOk m t) :
    Calls Try.prog 50 #[.agg #[.int .i64 m, .slice A n c]] w (WitPost w (picks 5 (fun v => !usedTo T n v) m)) := by
  obtain ⟨i0, hi0, hz0, hz1, hz2⟩ := info_parts wit_info
  obtain ⟨i1, hi1, hy0, hy1, hy2⟩ := info_parts bool_info
  have hmk := fun W => run_make_rowN (P := Try.prog) 53 4 i1 (.bool false) Try.underlying53 hi1 hy0 .i64 .i64 m m (Nat.le_refl _) (by rw [hy2]; omega) (by omega) W
  rw [hy1, Nat.mul_one, madeBools] at hmk
  have HT := Lib.hid ht
  have HOK := Lib.hid hok
  clear ht hok hy0 hy1 hy2
  go_enter Try.func50, Try.ntmps50
  go_wp2_with fail
  have hg0 : w.heap.size + 1 = (w.alloc (.cells #[.int .i64 m, .slice A n c] 24)).heap.size := by simp
  have HBk0 : Hid (Blk ((w.alloc (.cells #[.int .i64 m, .slice A n c] 24)).alloc (.cells (bools m fun _ => false) 4)) (w.heap.size + 1) 4 (bools m fun _ => false)) := Lib.hid (Blk.new_ hg0.symm _ _)
  have HBe0 : Hid (Below w.heap.size w ((w.alloc (.cells #[.int .i64 m, .slice A n c] 24)).alloc (.cells (bools m fun _ => false) 4))) := Lib.hid (((Below.refl _ _).alloc (Nat.le_refl _) _).alloc (by simp) _)
  clear hg0 hmk
  obtain ⟨g, hg⟩ : ∃ g, g = w.heap.size + 1 := ⟨_, rfl⟩
  have hgw : w.heap.size < g := by omega
  rw [← hg] at HBk0 ⊢
  clear hg
  go_loopw [17] (fun iv wr => ∃ k : Nat, k ≤ n ∧ iv = .int .i64 k ∧ Hid (Blk wr g 4 (bools m (usedTo T k))) ∧ Hid (Below w.heap.size w wr)) (fun iv _ => n - (intOf iv).toNat)
  case atStart => exact ⟨0, by omega, rfl, by have := HBk0.out; exact Lib.hid this, HBe0⟩
  case round =>
    obtain ⟨k, hk, rfl, HBk, HBe⟩ := hrel
    by_cases hlt : k < n
    · obtain ⟨ad, t, rfl, htk, htm, hadb, hc3⟩ := (HT.out.below HBe.out).at_ hlt
      obtain ⟨d0, d1, d2, d3, d4, d5⟩ := hc3
      obtain ⟨ta, tb, tc⟩ := t
      have hto := HOK.out _ htm
      obtain ⟨q0, q1, q2, q3, q4, q5, q6, q7, q8⟩ := hto
      simp only at q0 q1 q2 q3 q4 q5 q6 q7 q8 d0 d1 d2 d3 d4 d5
      obtain ⟨a, rfl⟩ := Int.eq_ofNat_of_zero_le q0
      obtain ⟨b, rfl⟩ := Int.eq_ofNat_of_zero_le q2
      obtain ⟨cc, rfl⟩ := Int.eq_ofNat_of_zero_le q4
      have p1 : a < m := by omega
      have p2 : b < m := by omega
      have p3 : cc < m := by omega
      have n1 : ¬ a = b := by omega
      have n2 : ¬ b = cc := by omega
      have n3 : ¬ cc = a := by omega
      have HU : Hid (bools m (usedTo T (k + 1)) = (((bools m (usedTo T k)).setIfInBounds a (.bool true)).setIfInBounds b (.bool true)).setIfInBounds cc (.bool true)) := by
        refine Lib.hid ?_
        rw [bools_set, bools_set, bools_set]
        congr 1
        funext v
        unfold usedTo hasV
        rw [take_snoc_ T k htk, List.any_append]
        simp only [List.any_cons, List.any_nil, Bool.or_false]
        rw [nat_beq a v, nat_beq b v, nat_beq cc v]
        simp only [Bool.or_assoc]
      have e0 : ∀ w, (Instr.index 50 (.agg #[.int .i64 a, .int .i64 b, .int .i64 cc]) (.int .i64 0)).run Try.prog w = .ok (.int .i64 a) w := fun _ => by kernel_rfl
      have e1 : ∀ w, (Instr.index 50 (.agg #[.int .i64 a, .int .i64 b, .int .i64 cc]) (.int .i64 1)).run Try.prog w = .ok (.int .i64 b) w := fun _ => by kernel_rfl
      have e2 : ∀ w, (Instr.index 50 (.agg #[.int .i64 a, .int .i64 b, .int .i64 cc]) (.int .i64 2)).run Try.prog w = .ok (.int .i64 cc) w := fun _ => by kernel_rfl
      have x0 := (HBk.out.cell a).trans (bools_at _ p1)
      have x1 := (HBk.out.cell b).trans (bools_at _ p2)
      have x2 := (HBk.out.cell cc).trans (bools_at _ p3)
      have y0 := HBk.out.frozen a
      have y1 := HBk.out.frozen b
      have y2 := HBk.out.frozen cc
      have hgl := HBk.out.lt
      clear htk htm q0 q1 q2 q3 q4 q5 q6 q7 q8
      go_wp2_with fail
      refine wp_loop_rounds 4 ?_
      rw [rounds_succ]
      go_wp2_with fail
      rw [rounds_succ]
      go_wp2_with fail
      rw [rounds_succ]
      go_wp2_with fail
      rw [rounds_succ]
      go_wp2_with fail
      refine ⟨⟨k + 1, by omega, by go_num, ?_, ?_⟩, by simp [intOf]; omega⟩
      · refine Lib.hid ?_
        rw [HU.out]
        exact (((HBk.out.set_ a _).set_ b _).set_ cc _).alloc _
      · exact Lib.hid ((((HBe.out.setCell (p := ⟨g, a, none⟩) (Nat.le_of_lt hgw) _).setCell (p := ⟨g, b, none⟩) (Nat.le_of_lt hgw) _).setCell (p := ⟨g, cc, none⟩) (Nat.le_of_lt hgw) _).alloc (by have := HBe.out.size; simpa using this) _)
    · obtain rfl : k = n := by omega
      obtain ⟨W, hW⟩ : ∃ W, W = wr := ⟨_, rfl⟩
      rw [← hW] at HBk HBe ⊢
      clear hW hlt hk
      have hgl := HBk.out.lt
      go_wp2_with fail
      go_loopw [8, 32] (fun lv iv wr => ∃ v : Nat, v ≤ m ∧ iv = .int .i64 v ∧ WitRel W wr (picks 5 (fun v => !usedTo T k v) v) lv) (fun _ iv _ => m - (intOf iv).toNat)
      case atStart => exact ⟨0, by omega, rfl, WitRel.start0 _⟩
      case round =>
        obtain ⟨v, hv, rfl, A', c', rfl, HO, HB⟩ := hrel
        by_cases hlt : v < m
        · have x0 := ((HBk.out.below HB.out hgl).cell v).trans (bools_at _ hlt)
          have HP := Lib.hid (picks_succ 5 (fun v => !usedTo T k v) v)
          have hsz := HB.out.size
          have hpl := picks_len 5 (fun v => !usedTo T k v) v
          cases hu : usedTo T k v with
          | true =>
            rw [hu] at x0
            have HU := Lib.hid hu
            clear hu
            go_wp2_with fail
            refine ⟨⟨v + 1, by omega, by go_num, ?_⟩, by simp [intOf]; omega⟩
            rw [HP.out, if_neg (by rw [HU.out]; decide)]
            exact ⟨A', c', rfl, HO, HB⟩
          | false =>
            rw [hu] at x0
            have HU := Lib.hid hu
            clear hu
            go_wp2_with (at_builtin; go_must (refine wpList_append_sl _ rfl (.tmp 39) (.tmp 42) _ rfl W.heap.size 41 i0 _ 3 24 Try.underlying67 hi0 hz0 hz1 hz2 rfl (by omega) (.slice A' (picks 5 (fun v => !usedTo T k v) v).length c') _ _ rfl (HO.out.alloc _) (wr.heap.size + 1) (some ⟨wr.heap.size, 0, none⟩) 1 1 (w3 (5, (v : Int), 0)) rfl (reads_newN _ _ _ 1 3 rfl rfl) (by simp [w3, Value.oneCell']) (by simp only [maxLen]; omega) (by omega) (by simp; omega) ?_); intro A1 c1 w1 hown1 hg1 hat1)
            refine ⟨⟨v + 1, by omega, by go_num, ?_⟩, by simp [intOf]; omega⟩
            rw [HP.out, if_pos (by rw [HU.out]; decide)]
            exact WitRel.grow HO HB ((Below.refl _ _).alloc (Nat.le_refl _) _) hown1 hg1
        · obtain rfl : v = m := by omega
          go_wp2_with fail
          go_ret
          exact ⟨A', c', rfl, own_mono HO.out HBe.out.size, HBe.out.trans (HB.out.mono HBe.out.size)⟩
end Go.Proofs.Ytdmibpcpocacpaa
