/- The contracts of Front and Gaps. No condition. -/
import Derived.Test.YtieoeednfgpoiaaTake
namespace Go.Proofs.Ytieoeednfgpoiaa
open Go.RowKit


/-- The bytes of a number, if it was taken. -/
def IS.at_ (t : IS) (x : Int) : Option (List UInt8) := (t.took.find? (fun p => p.1 = x)).map (·.2)

/-- The bytes of n numbers from k on, as far as they were taken. -/
def frontFrom (t : IS) : Nat → Nat → List UInt8
  | 0, _ => []
  | n + 1, k => match t.at_ k with
    | some d => d ++ frontFrom t n (k + 1)
    | none => []

def IS.front (t : IS) : List UInt8 := frontFrom t (t.took.length + 1) 0

theorem at_some {t : IS} {x : Int} {d : List UInt8} (h : t.at_ x = some d) : (x, d) ∈ t.took := by
  unfold IS.at_ at h
  cases hf : t.took.find? (fun p => p.1 = x) with
  | none => rw [hf] at h; cases h
  | some p =>
    rw [hf] at h
    have h1 := List.mem_of_find?_eq_some hf
    have h2 : p.1 = x := by have := List.find?_some hf; simpa using this
    have h3 : p.2 = d := by simpa using h
    rw [← h2, ← h3]; exact h1
theorem at_none {t : IS} {x : Int} (h : t.at_ x = none) : ∀ p ∈ t.took, p.1 ≠ x := by
  unfold IS.at_ at h
  have h' : t.took.find? (fun p => p.1 = x) = none := by simpa using h
  intro p hp e
  have := List.find?_eq_none.1 h' p hp
  simp [e] at this

theorem nodup_le {α : Type} [DecidableEq α] : ∀ (l r : List α), l.Nodup → (∀ x ∈ l, x ∈ r) → l.length ≤ r.length
  | [], r, _, _ => Nat.zero_le _
  | a :: l, r, hn, hs => by
    obtain ⟨h1, h2⟩ := List.nodup_cons.1 hn
    have ha : a ∈ r := hs a (by simp)
    have ih := nodup_le l (r.erase a) h2 fun x hx => by
      have hne : x ≠ a := fun e => h1 (e ▸ hx)
      exact (List.mem_erase_of_ne hne).2 (hs x (by simp [hx]))
    have := List.length_erase_of_mem ha
    have := List.length_pos_of_mem ha
    simp only [List.length_cons]
    omega

theorem taken_le {t : IS} {k : Nat} (h : ∀ j : Nat, j < k → t.has j) : k ≤ t.took.length := by
  have h1 : ((List.range k).map (fun j : Nat => (j : Int))).Nodup := by
    rw [List.nodup_iff_pairwise_ne, List.pairwise_map]
    exact (List.nodup_iff_pairwise_ne.1 List.nodup_range).imp fun h e => h (by omega)
  have := nodup_le _ (t.took.map (·.1)) h1 fun x hx => by
    obtain ⟨j, hj, rfl⟩ := List.mem_map.1 hx
    obtain ⟨p, hp, e⟩ := h j (List.mem_range.1 hj)
    exact List.mem_map.2 ⟨p, hp, e⟩
  simpa using this

theorem front_nil (w : World) : Calls Try.prog 22 #[.pointer none] w fun e w' => e = .returned (.slice none 0 0) ∧ w = w' := by
  go_enter Try.func22, Try.ntmps22
  go_wp2
  go_ret
  exact ⟨rfl, rfl⟩
theorem gaps_nil (w : World) : Calls Try.prog 23 #[.pointer none] w fun e w' => e = .returned (.slice none 0 0) ∧ w = w' := by
  go_enter Try.func23, Try.ntmps23
  go_wp2
  go_ret
  exact ⟨rfl, rfl⟩

/-- What stands at a number, taken or not. -/
theorem InAt.look {w : World} {base g : Nat} {ob : Option Nat} {fm : Int → Option Value} {t : IS} (h : InAt w base g ob fm t) {x : Int} (hx : (Lit.int .i64 x).wf = true) :
    (∃ d A c, t.at_ x = some d ∧ w.ownsRow base 5 1 (.slice A d.length c) d.length (B8 d) ∧ Sem.run Try.prog (Instr.lookup 46 (.map ob) (.int .i64 x) true) w = .ok (.tuple #[.slice A d.length c, .bool true]) w) ∨
    (t.at_ x = none ∧ Sem.run Try.prog (Instr.lookup 46 (.map ob) (.int .i64 x) true) w = .ok (.tuple #[.slice none 0 0, .bool false]) w) := by
  rcases h.map with ⟨rfl, ht⟩ | ⟨b, rfl, _, hm⟩
  · right
    refine ⟨by unfold IS.at_; rw [ht]; rfl, ?_⟩
    exact Maps.look_nil true (Maps.int_keyed Try.underlying3) Try.underlying46 (by kernel_rfl) (Maps.keyOf_int_mk Try.underlying3 hx)
  · have hl := hm.look (x := x) (z := .slice none 0 0) Try.underlying3 Try.underlying46 (by kernel_rfl) hx true
    cases ha : t.at_ x with
    | some d =>
      obtain ⟨A, c, e, ho⟩ := (h.took x).1 (x, d) (at_some ha) rfl
      refine .inl ⟨d, A, c, rfl, ho, ?_⟩
      rw [hl, e]; rfl
    | none =>
      refine .inr ⟨rfl, ?_⟩
      rw [hl, (h.took x).2 (at_none ha)]; rfl

def FrontPost (l : List UInt8) (w : World) (e : Ending) (w' : World) : Prop :=
  ∃ A c, e = .returned (.slice A l.length c) ∧ w'.ownsRow w.heap.size 5 1 (.slice A l.length c) l.length (B8 l) ∧ Below w.heap.size w w'

/-- The loop's relation. -/
def FrontRel (t : IS) (w : World) (k : Nat) (v : Value) (wr : World) : Prop :=
  ∃ acc A c, v = .slice A acc.length c ∧ wr.ownsRow w.heap.size 5 1 (.slice A acc.length c) acc.length (B8 acc) ∧ Below w.heap.size w wr ∧ (∀ j : Nat, j < k → t.has j) ∧ acc.length ≤ k * 100000 ∧
    acc ++ frontFrom t (t.took.length + 1 - k) k = t.front

theorem front_step {t : IS} {k : Nat} (hk : ∀ j : Nat, j < k → t.has j) : (∀ d, t.at_ k = some d → frontFrom t (t.took.length + 1 - k) k = d ++ frontFrom t (t.took.length + 1 - (k + 1)) (k + 1)) ∧ (t.at_ k = none → frontFrom t (t.took.length + 1 - k) k = []) := by
  have := taken_le hk
  obtain ⟨m, hm⟩ : ∃ m, t.took.length + 1 - k = m + 1 := ⟨t.took.length - k, by omega⟩
  have hm2 : t.took.length + 1 - (k + 1) = m := by omega
  rw [hm, hm2]
  exact ⟨fun d hd => by simp [frontFrom, hd], fun hn => by simp [frontFrom, hn]⟩

set_option maxHeartbeats 1000000 in
theorem front_any (g base : Nat) (ob : Option Nat) (fm : Int → Option Value) (t : IS) (w : World) (h : InAt w base g ob fm t) (hl : t.took.length ≤ 100000) (hd : ∀ p ∈ t.took, p.2.length ≤ 100000) :
    Calls Try.prog 22 #[.pointer (some ⟨g, 0, none⟩)] w (FrontPost t.front w) := by
  obtain ⟨i0, hi0, hz0, hz1, hz2⟩ := info_parts u8_info
  have H := Lib.hid h
  have HD := Lib.hid hd
  have hg := h.blk.lt
  clear h hd
  go_enter Try.func22, Try.ntmps22
  go_wp2
  go_loopw [3, 4] (fun v i wr => ∃ k : Nat, k ≤ t.took.length ∧ i = .int .i64 k ∧ FrontRel t w k v wr) (fun _ i _ => t.took.length + 1 - (intOf i).toNat)
  case atStart =>
    exact ⟨0, Nat.zero_le _, rfl, [], none, 0, rfl, World.ownsRow_nil _ _ _ _, Below.refl _ _, fun j hj => absurd hj (by omega), by simp, rfl⟩
  case round =>
    obtain ⟨k, hk, rfl, acc, A, c, rfl, hown, hb, hall, hlen, hfr⟩ := hrel
    have hi := H.out.below hb
    have c0 := hi.blk.cell 0
    simp at c0
    have hkw : (Lit.int .i64 (k : Int)).wf = true := WalkArith.wf_i64 (by omega)
    rcases hi.look hkw with ⟨d, A', c', ha, ho, hlk⟩ | ⟨ha, hlk⟩
    · have hdl : d.length ≤ 100000 := HD.out _ (at_some ha)
      have hk1 : k + 1 ≤ t.took.length := taken_le fun j hj => by
        rcases (by omega : j < k ∨ j = k) with h1 | rfl
        · exact hall j h1
        · exact ⟨_, at_some ha, rfl⟩
      have hsum : acc.length + d.length ≤ 20000000000 := by omega
      have HS := Lib.hid hsum
      have HA := Lib.hid ha
      have HALL := Lib.hid hall
      have HF := Lib.hid hfr
      have HI := Lib.hid hi
      have HB := Lib.hid hb
      have HR := Lib.hid (Reads.of_own ho)
      have HO := Lib.hid hown
      have hbz := hb.size
      clear ha hall hfr hi hb ho hown
      go_wp2_with (at_builtin; refine wpList_append_sl _ rfl (.tmp 23) (.tmp 24) _ rfl w.heap.size 5 i0 _ 1 1 Try.underlying35 hi0 hz0 hz1 hz2 rfl (by omega) (.slice A acc.length c) acc.length (B8 acc) rfl HO.out wr.heap.size A' d.length c' (B8 d) rfl HR.out (B8_oneCell _) (by have := HS.out; simp only [maxLen]; omega) (by have := HS.out; omega) hbz ?_; intro A1 c1 w1 hown1 hg1 hat1)
      go_roundw
      case rel =>
        have e : acc.length + d.length = (acc ++ d).length := by simp
        rw [e] at hown1 ⊢
        rw [B8_append] at hown1
        refine ⟨k + 1, hk1, by go_num, acc ++ d, A1, c1, rfl, hown1, ?_, ?_, ?_, ?_⟩
        · exact HB.out.grown hg1 hbz fun k hk => (HO.out.lt k hk).1
        · intro j hj
          rcases (by omega : j < k ∨ j = k) with h1 | rfl
          · exact HALL.out j h1
          · exact ⟨_, at_some HA.out, rfl⟩
        · simp; omega
        · rw [List.append_assoc, ← (front_step HALL.out).1 d HA.out]
          exact HF.out
      case measure => simp [intOf]; omega
    · have HA := Lib.hid ha
      have HALL := Lib.hid hall
      have HF := Lib.hid hfr
      have HB := Lib.hid hb
      have HO := Lib.hid hown
      clear ha hall hfr hi hb hown
      go_wp2
      go_ret
      have e := HF.out
      rw [(front_step HALL.out).2 HA.out, List.append_nil] at e
      subst e
      exact ⟨A, c, rfl, HO.out, HB.out⟩

/-- The numbers below m that were not taken, from k on. -/
def gapsTo (t : IS) (k : Nat) : List Int := ((List.range k).filter (fun j : Nat => (t.at_ j).isNone)).map (fun j : Nat => (j : Int))

def IS.gaps (t : IS) : List Int := (gapsTo t t.last.toNat).take 1000

theorem gapsTo_succ (t : IS) (k : Nat) : gapsTo t (k + 1) = if (t.at_ k).isNone then gapsTo t k ++ [(k : Int)] else gapsTo t k := by
  unfold gapsTo
  rw [List.range_succ, List.filter_append, List.map_append]
  split
  · rename_i h; simp [h]
  · rename_i h; simp [h]

theorem gapsTo_mono (t : IS) : ∀ {k m : Nat}, k ≤ m → gapsTo t k <+: gapsTo t m
  | k, m, h => by
    induction m with
    | zero => obtain rfl : k = 0 := by omega
              exact List.prefix_refl _
    | succ m ih =>
      rcases (by omega : k ≤ m ∨ k = m + 1) with h1 | rfl
      · refine (ih h1).trans ?_
        rw [gapsTo_succ]
        split
        · exact List.prefix_append _ _
        · exact List.prefix_refl _
      · exact List.prefix_refl _

def ints (l : List Int) : List Value := l.map (.int .i64 ·)

def GapsPost (l : List Int) (w : World) (e : Ending) (w' : World) : Prop :=
  ∃ A c, e = .returned (.slice A l.length c) ∧ w'.ownsRow w.heap.size 3 1 (.slice A l.length c) l.length (ints l) ∧ Below w.heap.size w w'

theorem int_info : (Try.prog.info? 3).map (fun i => (i.zero, i.size, i.bytes)) = some (some (.int .i64 0), 1, 8) := by kernel_rfl

def GapsRel (t : IS) (w : World) (k : Nat) (v : Value) (wr : World) : Prop :=
  ∃ A c, v = .slice A (gapsTo t k).length c ∧ wr.ownsRow w.heap.size 3 1 (.slice A (gapsTo t k).length c) (gapsTo t k).length (ints (gapsTo t k)) ∧ Below w.heap.size w wr ∧ (gapsTo t k).length ≤ 1000

set_option maxHeartbeats 1000000 in
theorem gaps_any (g base : Nat) (ob : Option Nat) (fm : Int → Option Value) (t : IS) (w : World) (h : InAt w base g ob fm t) (hl : t.last ≤ 9223372036854775807) :
    Calls Try.prog 23 #[.pointer (some ⟨g, 0, none⟩)] w (GapsPost t.gaps w) := by
  obtain ⟨i0, hi0, hz0, hz1, hz2⟩ := info_parts int_info
  have H := Lib.hid h
  have hg := h.blk.lt
  clear h
  go_enter Try.func23, Try.ntmps23
  go_wp2
  go_loopw [3, 4] (fun v i wr => ∃ k : Nat, (k : Int) ≤ max 0 t.last ∧ i = .int .i64 k ∧ GapsRel t w k v wr) (fun _ i _ => t.last.toNat - (intOf i).toNat)
  case atStart =>
    exact ⟨0, by omega, rfl, none, 0, rfl, World.ownsRow_nil _ _ _ _, Below.refl _ _, Nat.zero_le _⟩
  case round =>
    obtain ⟨k, hk, rfl, A, c, rfl, hown, hb, hlen⟩ := hrel
    have hi := H.out.below hb
    have c0 := hi.blk.cell 0
    have c1 := hi.blk.cell 1
    simp at c0 c1
    by_cases hlt : (k : Int) < t.last
    · by_cases hfull : (gapsTo t k).length < 1000
      · have hkw : (Lit.int .i64 (k : Int)).wf = true := WalkArith.wf_i64 (by omega)
        have hfull' : ((gapsTo t k).length : Int) < 1000 := by omega
        rcases hi.look hkw with ⟨d, A', c', ha, ho, hlk⟩ | ⟨ha, hlk⟩
        · have e := gapsTo_succ t k
          rw [ha] at e
          simp at e
          have E := Lib.hid e
          have HB := Lib.hid hb
          have HO := Lib.hid hown
          clear e ha ho hb hown hi
          go_wp2
          go_roundw
          case rel => exact ⟨k + 1, by omega, by go_num, A, c, by rw [E.out], by rw [E.out]; exact HO.out, HB.out, by rw [E.out]; omega⟩
          case measure => simp [intOf]; omega
        · have e := gapsTo_succ t k
          rw [ha] at e
          simp at e
          have E := Lib.hid e
          have HB := Lib.hid hb
          have HO := Lib.hid hown
          have hbz := hb.size
          generalize hG : gapsTo t k = G at *
          have HG := Lib.hid hG
          clear e ha hb hown hi hG
          go_wp2_with (at_builtin; go_must (refine wpList_append_sl _ rfl (.tmp 33) (.tmp 35) _ rfl w.heap.size 3 i0 _ 1 8 Try.underlying22 hi0 hz0 hz1 hz2 rfl (by omega) (.slice A G.length c) G.length (ints G) rfl (HO.out.alloc _) (wr.heap.size + 1) (some ⟨wr.heap.size, 0, none⟩) 1 1 [.int .i64 (k : Int)] rfl (reads_new _ #[.int .i64 (k : Int)] 3 1 1 rfl) (by simp [Value.oneCell']) (by simp only [maxLen]; omega) (by omega) (by simp; omega) ?_); intro A1 c1 w1 hown1 hg1 hat1)
          go_roundw
          case rel =>
            have e1 : (gapsTo t (k + 1)).length = G.length + 1 := by rw [E.out]; simp
            refine ⟨k + 1, by omega, by go_num, A1, c1, by rw [e1], ?_, ?_, by rw [e1]; omega⟩
            · rw [e1, E.out]
              simpa [ints] using hown1
            · exact (HB.out.alloc hbz _).grown hg1 (by simp; omega) fun k hk => (HO.out.lt k hk).1
          case measure => simp [intOf]; omega
      · have hfull' : ¬ ((gapsTo t k).length : Int) < 1000 := by omega
        have HB := Lib.hid hb
        have HO := Lib.hid hown
        have e : t.gaps = gapsTo t k := by
          have hp := gapsTo_mono t (k := k) (m := t.last.toNat) (by omega)
          obtain ⟨r, hr⟩ := hp
          unfold IS.gaps
          rw [← hr, List.take_append_of_le_length (by omega), List.take_of_length_le (by omega)]
        have E := Lib.hid e
        clear hb hown hi e
        generalize hG : gapsTo t k = G at *
        have HG := Lib.hid hG
        clear hG
        go_wp2
        go_ret
        rw [E.out]
        exact ⟨A, c, rfl, HO.out, HB.out⟩
    · have HB := Lib.hid hb
      have HO := Lib.hid hown
      have e : t.gaps = gapsTo t k := by
        have hk' : k = t.last.toNat := by omega
        unfold IS.gaps
        rw [hk', List.take_of_length_le (by rw [← hk']; omega)]
      have E := Lib.hid e
      clear hb hown hi e
      generalize hG : gapsTo t k = G at *
      have HG := Lib.hid hG
      clear hG
      go_wp2
      go_ret
      rw [E.out]
      exact ⟨A, c, rfl, HO.out, HB.out⟩
end Go.Proofs.Ytieoeednfgpoiaa
