/- LineLost, walked whole. No condition. -/
import Derived.Test.YtieoeednfgpoiaaFronts
namespace Go.Proofs.Ytieoeednfgpoiaa
open Go.RowKit

/-- The call of Take at a packet that arrived, its box laid; other maps stay. -/
theorem take_box3 {w w4 : World} {base g bl bw gi ml mn : Nat} {mf : Int → Option Value} {ob : Option Nat} {s : LS} {t : IS} {p : Pk} {A : Option Addr} {dc : Nat} (h : Both w base g bl bw gi ob s t) (hb : Below w.heap.size w w4)
    (ho : w.ownsRow base 5 1 (.slice A p.data.length dc) p.data.length (B8 p.data)) (hm : MapI Try.prog 3 w ml mn mf) (hom : ob ≠ some ml) (h1 : -9223372036854775808 ≤ p.seq) (h2 : p.seq ≤ 9223372036854775807) (h3 : p.data.length ≤ 65536) (h4 : t.took.length ≤ 1000000) :
    Calls Try.prog 21 #[.pointer (some ⟨gi, 0, none⟩), .agg #[.int .i64 p.seq, .slice A p.data.length dc]] w4 fun e w' => e = .returned (.tuple #[]) ∧ ∃ ob', Both w' base g bl bw gi ob' s (t.take p.seq p.data) ∧ Below base w4 w' ∧
      MapI Try.prog 3 w' ml mn mf ∧ ob' ≠ some ml := by
  have hB := h.below hb
  have hm4 : MapI Try.prog 3 w4 ml mn mf := hm.below hb hm.lt
  obtain ⟨fm, hi⟩ := hB.inbox
  have hod : w4.ownsRow base 5 1 (.slice A p.data.length dc) p.data.length (B8 p.data) := own_same ho fun k hk => hb.block k (ho.lt k hk).2
  have hbase : base ≤ w4.heap.size := Nat.le_of_lt (Nat.lt_of_le_of_lt hi.g1 hi.blk.lt)
  refine (take_any gi base ob fm t p.seq A p.data.length dc p.data w4 hi rfl (take_reads hi hod) h1 h2 (by omega) h4).mono fun e w' hp => ?_
  obtain ⟨he, ob', fm', hi', hon, hob⟩ := hp
  obtain ⟨wv, fw, hl⟩ := hB.line
  have hgi : gi ≠ g := Blk.ne_ hi.blk hl.blk (by decide)
  have hb' : Both w' base g bl bw gi ob' s (t.take p.seq p.data) := by
    obtain ⟨_, ob2, hB2, _⟩ := both_take hB (e := e) (w' := w') (x := p.seq) (d := p.data) ⟨he, ob', fm', hi', hon, hob⟩
    refine ⟨hB2.line, ⟨fm', hi'⟩, ?_, ?_⟩
    · rcases hob with rfl | h1
      · exact hB.ne1
      · exact fun e => by have := h1 _ e; have := hl.lost.lt; omega
    · rcases hob with rfl | h1
      · exact hB.ne2
      · exact fun e => by have := h1 _ e; have := hl.way.lt; omega
  refine ⟨he, ob', hb', hon.below hbase fun k hk => ?_, hm4.only hon ?_, ?_⟩
  · rintro (e | e)
    · have := hi.g1; omega
    · rcases hi.map with ⟨e', _⟩ | ⟨b, e', hb', _⟩
      · rw [e'] at e; cases e
      · rw [e'] at e; injection e with e; omega
  · rintro (e | e)
    · exact hm4.ne_blk hi.blk e
    · exact hom e
  · rcases hob with rfl | h1
    · exact hom
    · exact fun e => by have := h1 _ e; have := hm4.lt; omega

/-- The number of the last packet that came, behind m: none: -1. -/
def lastI (lost : List Int) (m : Nat) : Int := ((live lost 0 m).getLast?.map (fun x : Nat => (x : Int))).getD (-1)
theorem lastI_snoc (lost : List Int) (m : Nat) : lastI lost (m + 1) = if (m : Int) ∈ lost then lastI lost m else m := by
  unfold lastI
  rw [live_snoc _ _ _ (Nat.zero_le _)]
  by_cases h : (m : Int) ∈ lost
  · rw [if_pos h, if_pos h]
  · rw [if_neg h, if_neg h]; simp
theorem lastI_lt (lost : List Int) (m : Nat) : -1 ≤ lastI lost m ∧ lastI lost m < m := by
  unfold lastI
  cases h : (live lost 0 m).getLast? with
  | none => simp; omega
  | some x =>
    simp
    have := (mem_live0.1 (List.mem_of_getLast? h)).1
    omega

/-- How many rounds the numbers are walked. -/
def walked (r : Nat) (b : List UInt8) : Nat := if b.length = 0 then (if r = 1 then 0 else 1) else many r b
theorem walked_le {r : Nat} (hr : 1 ≤ r) (b : List UInt8) (k : Nat) : (k : Int) ≤ Int.tdiv ((b.length : Int) - 1) (r : Int) ↔ k < walked r b := by
  unfold walked
  by_cases h0 : b.length = 0
  · rw [if_pos h0, h0]
    by_cases h1 : r = 1
    · subst h1; simp; omega
    · rw [if_neg h1]
      have e : Int.tdiv (((0 : Nat) : Int) - 1) (r : Int) = 0 := by
        have : (((0 : Nat) : Int) - 1) = -1 := by omega
        rw [this, Int.neg_tdiv, Int.tdiv_eq_zero_of_lt (by omega) (by omega)]; rfl
      rw [e]; omega
  · rw [if_neg h0]
    have e : ((b.length : Int) - 1) = ((b.length - 1 : Nat) : Int) := by omega
    rw [e, ← Int.ofNat_tdiv]
    have e2 : many r b = (b.length - 1) / r + 1 := by
      unfold many
      rw [show b.length + r - 1 = (b.length - 1) + r by omega, Nat.add_div_right _ (by omega)]
    rw [e2]; omega
/-- The first number that gets lost, below k: none: -1. -/
def firstI (lost : List Int) (k : Nat) : Int := if firstLost lost k < k then (firstLost lost k : Int) else -1
theorem firstI_succ (lost : List Int) (k : Nat) : firstI lost (k + 1) = if (k : Int) ∈ lost ∧ firstI lost k < 0 then (k : Int) else firstI lost k := by
  obtain ⟨f1, _, _⟩ := firstLost_spec lost k
  unfold firstI
  by_cases h : firstLost lost k < k
  · have e : firstLost lost (k + 1) = firstLost lost k := by rw [firstLost, if_pos h]
    rw [e, if_pos h, if_pos (by omega), if_neg (by rintro ⟨_, h'⟩; omega)]
  · by_cases hm : (k : Int) ∈ lost
    · have e : firstLost lost (k + 1) = k := by rw [firstLost, if_neg h, if_pos hm]
      rw [e, if_neg h, if_pos (by omega), if_pos ⟨hm, by omega⟩]
    · have e : firstLost lost (k + 1) = k + 1 := by rw [firstLost, if_neg h, if_neg hm]
      rw [e, if_neg h, if_neg (by omega), if_neg (fun h' => hm h'.1)]
/-- What the law wants as gaps, of the numbers below k. -/
def wantL (lost : List Int) (la : Int) (k : Nat) : List Int := ((List.range k).filter (fun j : Nat => (j : Int) ∈ lost ∧ (j : Int) < la)).map (fun j : Nat => (j : Int))
theorem wantL_succ (lost : List Int) (la : Int) (k : Nat) : wantL lost la (k + 1) = if (k : Int) ∈ lost ∧ (k : Int) < la then wantL lost la k ++ [(k : Int)] else wantL lost la k := by
  unfold wantL
  rw [List.range_succ, List.filter_append, List.map_append]
  by_cases h : (k : Int) ∈ lost ∧ (k : Int) < la
  · rw [if_pos h]; simp [h]
  · rw [if_neg h]
    have : List.filter (fun j : Nat => decide ((j : Int) ∈ lost ∧ (j : Int) < la)) [k] = [] := by simp; intro h1; have h3 : ¬ (k : Int) < la := fun h2 => h ⟨h1, h2⟩; omega
    rw [this]; simp
theorem wantL_len (lost : List Int) (la : Int) (k : Nat) : (wantL lost la k).length ≤ k := by
  unfold wantL
  rw [List.length_map]
  exact Nat.le_trans (List.length_filter_le _ _) (by simp)
theorem filter_below (p : Nat → Bool) (x K : Nat) (h : x ≤ K) : (List.range K).filter (fun j => p j && decide (j < x)) = (List.range x).filter p := by
  rw [Deep.range_split h, List.filter_append]
  have h2 : List.filter (fun j => p j && decide (j < x)) (List.map (fun j => x + j) (List.range (K - x))) = [] := by
    rw [List.filter_eq_nil_iff]
    intro j hj
    obtain ⟨i, _, rfl⟩ := List.mem_map.1 hj
    simp
  rw [h2, List.append_nil]
  refine List.filter_congr fun j hj => ?_
  have := List.mem_range.1 hj
  simp [this]
theorem gaps_want (r d : Nat) (lost : List Int) (b : List UInt8) (K : Nat) (hK : many r b ≤ K) (hm : many r b ≤ 1000) : (TK r d lost b (many r b)).gaps = wantL lost (lastI lost (many r b)) K := by
  have hl := TK_last r d lost b (many r b)
  unfold IS.gaps
  rw [gapsTo_eq _ _ _ _ _ _ (by omega)]
  unfold wantL lastI
  show ((List.filter _ (List.range ((((live lost 0 (many r b)).getLastD 0 : Nat) : Int).toNat))).map _).take 1000 = _
  rw [Int.toNat_natCast]
  have hx := live_last lost (many r b)
  rw [List.take_of_length_le (by rw [List.length_map]; exact Nat.le_trans (List.length_filter_le _ _) (by rw [List.length_range]; omega))]
  congr 1
  rw [List.getLastD_eq_getLast?]
  cases h : (live lost 0 (many r b)).getLast? with
  | none =>
    simp
  | some x =>
    have h1 := (mem_live0.1 (List.mem_of_getLast? h)).1
    simp only [Option.getD_some, Option.map_some]
    rw [← filter_below _ x K (by omega)]
    refine List.filter_congr fun j _ => ?_
    simp
/-- How long the front is. -/
theorem front_len {r d : Nat} (hr : 1 ≤ r) (lost : List Int) (b : List UInt8) (K : Nat) (hK : b.length = 0 ∨ K = many r b) :
    ((firstI lost K < 0 ∨ b.length = 0) → (TK r d lost b (many r b)).front.length = b.length) ∧
    (¬ (firstI lost K < 0 ∨ b.length = 0) → ((TK r d lost b (many r b)).front.length : Int) = firstI lost K * r) := by
  obtain ⟨f1, _, _⟩ := firstLost_spec lost (many r b)
  rw [TK_front, List.length_take]
  have hb := many_le hr b (firstLost lost (many r b))
  constructor
  · rintro (h | h)
    · rcases hK with h0 | rfl
      · omega
      · unfold firstI at h
        split at h
        · omega
        · have e : firstLost lost (many r b) = many r b := by omega
          have := hb.1 (by omega)
          omega
    · omega
  · intro h
    rcases hK with h0 | rfl
    · exact absurd (.inr h0) h
    · have h' : ¬ firstI lost (many r b) < 0 := fun h' => h (.inl h')
      have hlt : firstLost lost (many r b) < many r b := by
        unfold firstI at h'
        split at h'
        · assumption
        · omega
      have e : firstI lost (many r b) = (firstLost lost (many r b) : Int) := by unfold firstI; rw [if_pos hlt]
      rw [e]
      have h2 : ¬ b.length ≤ firstLost lost (many r b) * r := fun h2 => by have := hb.2 h2; omega
      rw [Nat.min_eq_left (by omega)]
      exact Int.natCast_mul _ _
theorem last_nil {r d : Nat} {lost : List Int} {b : List UInt8} {k : Nat} (h : outK r d lost b k = []) : lastI lost (come r d b (k + 1)) = lastI lost (come r d b k) := by
  by_cases h1 : d ≤ k ∧ k - d < many r b
  · have h2 : ((k - d : Nat) : Int) ∈ lost := by
      by_cases h2 : ((k - d : Nat) : Int) ∈ lost
      · exact h2
      · unfold outK at h; rw [if_pos ⟨h1.1, h1.2, h2⟩] at h; cases h
    have e1 : come r d b k = k - d := by unfold come; omega
    have e2 : come r d b (k + 1) = k - d + 1 := by unfold come; omega
    rw [e1, e2, lastI_snoc, if_pos h2]
  · have e : come r d b (k + 1) = come r d b k := by unfold come; omega
    rw [e]
theorem last_one {r d : Nat} {lost : List Int} {b : List UInt8} {k : Nat} {p : Pk} (h : outK r d lost b k = [p]) :
    p.seq ∉ lost ∧ lastI lost (come r d b k) < p.seq ∧ lastI lost (come r d b (k + 1)) = p.seq ∧ p = pkJ r d b (k - d) := by
  unfold outK at h
  split at h
  · rename_i h1
    injection h with e _
    subst e
    have e1 : come r d b k = k - d := by unfold come; omega
    have e2 : come r d b (k + 1) = k - d + 1 := by unfold come; omega
    refine ⟨h1.2.2, ?_, ?_, rfl⟩
    · rw [e1]; exact (lastI_lt lost (k - d)).2
    · rw [e2, lastI_snoc, if_neg h1.2.2]; rfl
  · cases h

set_option maxRecDepth 100000 in
set_option maxHeartbeats 4000000 in
theorem lost_great (rate delay : Int) (A A2 : Option Addr) (n c n2 c2 : Nat) (lost : List Int) (w : World) (hp : PlanIn w lost A n) (hn : n ≤ 9223372036854775807) (hg : greatB [] n = true ∨ 120 < n2 ∨ 30 < delay) :
    Calls Try.prog 5 #[.agg #[.int .i64 rate, .int .i64 delay, .slice A n c], .slice A2 n2 c2] w (True_ w) := by
  have HP := Lib.hid hp
  clear hp
  go_enter Try.func5, Try.ntmps5
  go_wp2_with fail
  refine (awake_any _).mono ?_
  rintro e w2 ⟨rfl, hb⟩
  have b2 := (Blk.new w 24 #[.int .i64 rate, .int .i64 delay, .slice A n c]).below hb (by simp)
  have hbe : Below w.heap.size w w2 := ((Below.refl _ _).alloc (Nat.le_refl _) (.cells #[.int .i64 rate, .int .i64 delay, .slice A n c] 24)).trans (hb.mono (by simp))
  have c1 := b2.cell 1
  have c2' := b2.cell 2
  simp at c1 c2'
  have HB := Lib.hid hbe
  clear hb b2 hbe
  go_wp2_with fail
  refine (great_any none A 0 0 n c w.heap.size [] w2 ⟨rfl, fun h => absurd h (Nat.lt_irrefl _)⟩ (by omega) hn (fun b hb => by cases hb)).mono ?_
  rintro e w' ⟨rfl, rfl⟩
  by_cases h1 : greatB [] n = true
  · clear hg
    rw [h1]
    clear h1
    go_wp2_with fail
    refine (awake_any _).mono ?_
    rintro e w3 ⟨rfl, hb⟩
    go_wp2_with fail
    go_ret
    exact ⟨rfl, HB.out.trans (hb.mono HB.out.size)⟩
  · have h1' : greatB [] n = false := by simpa using h1
    rw [h1']
    have h2 := hg.resolve_left h1
    clear hg h1 h1'
    by_cases h3 : 120 < n2
    · have h4 : (120 : Int) < (n2 : Int) := by omega
      clear h2 h3
      go_wp2_with fail
      refine (awake_any _).mono ?_
      rintro e w3 ⟨rfl, hb⟩
      go_wp2_with fail
      go_ret
      exact ⟨rfl, HB.out.trans (hb.mono HB.out.size)⟩
    · have h4 := h2.resolve_left h3
      have h5 : ¬ (120 : Int) < (n2 : Int) := by omega
      clear h2 h3
      go_wp2_with fail
      refine (awake_any _).mono ?_
      rintro e w3 ⟨rfl, hb⟩
      go_wp2_with fail
      go_ret
      exact ⟨rfl, HB.out.trans (hb.mono HB.out.size)⟩

set_option maxRecDepth 100000 in
set_option maxHeartbeats 4000000 in
theorem lost_bad (rate delay : Int) (A A2 : Option Addr) (n c n2 c2 : Nat) (lost : List Int) (w : World) (hp : PlanIn w lost A n) (hn : n ≤ 30) (hn2 : n2 ≤ 120) (hd : delay ≤ 30) (he : errNew rate delay lost ≠ 0) :
    Calls Try.prog 5 #[.agg #[.int .i64 rate, .int .i64 delay, .slice A n c], .slice A2 n2 c2] w (True_ w) := by
  have HP := Lib.hid hp
  have HE := Lib.hid he
  have hgb : greatB [] n = false := by unfold greatB; simp; omega
  have h5 : ¬ (120 : Int) < (n2 : Int) := by omega
  have h6 : ¬ (30 : Int) < delay := by omega
  clear hp he
  go_enter Try.func5, Try.ntmps5
  go_wp2_with fail
  refine (awake_any _).mono ?_
  rintro e w2 ⟨rfl, hb⟩
  have b2 := (Blk.new w 24 #[.int .i64 rate, .int .i64 delay, .slice A n c]).below hb (by simp)
  have hbe : Below w.heap.size w w2 := ((Below.refl _ _).alloc (Nat.le_refl _) (.cells #[.int .i64 rate, .int .i64 delay, .slice A n c] 24)).trans (hb.mono (by simp))
  have c0 := b2.cell 0
  have c1 := b2.cell 1
  have c2' := b2.cell 2
  simp at c0 c1 c2'
  have HB := Lib.hid hbe
  clear hb b2 hbe
  go_wp2_with fail
  have hgr := great_any none A 0 0 n c w.heap.size [] w2 ⟨rfl, fun h => absurd h (Nat.lt_irrefl _)⟩ (by omega) (by omega) (fun b hb => by cases hb)
  rw [hgb] at hgr
  refine hgr.mono ?_
  rintro e w' ⟨rfl, rfl⟩
  clear hgr hgb
  go_wp2_with fail
  refine (new_any rate delay A n c lost w2 (by omega) ((HP.out.reads.below HB.out).more HB.out.size) HP.out.wf).mono ?_
  rintro e w3 hN
  rcases hN with ⟨h0, rfl, hb3⟩ | ⟨h0, _⟩
  · have hne : (errNew rate delay lost == 0) = false := by rw [beq_eq_false_iff_ne]; exact h0
    clear h0
    go_wp2_with fail
    go_ret
    exact ⟨rfl, HB.out.trans (hb3.mono HB.out.size)⟩
  · exact absurd h0 HE.out

set_option maxRecDepth 100000 in
set_option maxHeartbeats 4000000 in
theorem lost_main (r d : Nat) (A A2 : Option Addr) (n c c2 : Nat) (lost : List Int) (b : List UInt8) (w : World) (hp : PlanIn w lost A n) (hr : Reads w w.heap.size 1 A2 b.length (B8 b)) (hn : n ≤ 30) (hn2 : b.length ≤ 120) (hd : d ≤ 30) (he : errNew r d lost = 0) :
    Calls Try.prog 5 #[.agg #[.int .i64 r, .int .i64 d, .slice A n c], .slice A2 b.length c2] w (True_ w) := by
  have HP := Lib.hid hp
  have HE := Lib.hid he
  have HR := Lib.hid hr
  have hok := start_ok he
  have hr1 : 1 ≤ r := by have := hok.rate1; have e : (LS.start r d lost).rate = r := rfl; omega
  have hr2 : r ≤ 65536 := by have := hok.rate2; have e : (LS.start r d lost).rate = r := rfl; omega
  have hgb : greatB [] n = false := by unfold greatB; simp; omega
  have h5 : ¬ (120 : Int) < (b.length : Int) := by omega
  have h6 : ¬ (30 : Int) < (d : Int) := by omega
  have hmm := @run_makeMap Try.prog
  clear hp he hr hok
  go_enter Try.func5, Try.ntmps5
  go_wp2_with fail
  refine (awake_any _).mono ?_
  rintro e w2 ⟨rfl, hb⟩
  have b2 := (Blk.new w 24 #[.int .i64 r, .int .i64 d, .slice A n c]).below hb (by simp)
  have hbe : Below w.heap.size w w2 := ((Below.refl _ _).alloc (Nat.le_refl _) (.cells #[.int .i64 r, .int .i64 d, .slice A n c] 24)).trans (hb.mono (by simp))
  have c0 := b2.cell 0
  have c1 := b2.cell 1
  have c2' := b2.cell 2
  simp at c0 c1 c2'
  have HB := Lib.hid hbe
  have B2 := Lib.hid b2
  have hwz := b2.lt
  clear hb b2 hbe
  go_wp2_with fail
  have hgr := great_any none A 0 0 n c w.heap.size [] w2 ⟨rfl, fun h => absurd h (Nat.lt_irrefl _)⟩ (by omega) (by omega) (fun b hb => by cases hb)
  rw [hgb] at hgr
  refine hgr.mono ?_
  rintro e w' ⟨rfl, rfl⟩
  clear hgr hgb
  go_wp2_with fail
  refine (new_any r d A n c lost w2 (by omega) ((HP.out.reads.below HB.out).more HB.out.size) HP.out.wf).mono ?_
  rintro e w3 hN
  rcases hN with ⟨h0, _⟩ | ⟨_, hb3, g, bl, bw, rfl, h2, h3, h4, h5', h6', h7, h8⟩
  · exact absurd HE.out h0
  have hl3 := start_at (base := w2.heap.size) h2 h3 h4 h5' h6' h7 h8
  have hbw := h8.lt
  have B3 := Lib.hid (B2.out.below hb3 hwz)
  have c0 := B3.out.cell 0
  have c1 := B3.out.cell 1
  have c2' := B3.out.cell 2
  simp at c0 c1 c2'
  have HL3 := Lib.hid (hl3.below ((Below.refl w3.heap.size w3).alloc (Nat.le_refl _) (.map #[] 0)))
  have HB3 := Lib.hid (hb3.alloc hb3.size (.map #[] 0))
  have HM3 := Lib.hid (MapI.made Try.prog 3 w3)
  have hml : w2.heap.size ≤ w3.heap.size := hb3.size
  have hne3 : w3.heap.size ≠ g ∧ w3.heap.size ≠ bl ∧ w3.heap.size ≠ bw := ⟨by have := hl3.blk.lt; omega, by have := hl3.lost.lt; omega, by omega⟩
  clear h2 h3 h4 h5' h6' h7 h8 hl3 hb3
  go_upto_region 7 with (fail)
  generalize w3.heap.size = ml at *
  have c2'' := (B3.out.alloc (.map #[] 0)).cell 2
  simp at c2''
  have B4 := Lib.hid (B3.out.alloc (.map #[] 0))
  generalize w3.alloc (.map #[] 0) = w4 at *
  clear c0 c1 c2' B3
  go_wp2_with fail
  go_loopw [50] (fun i wr => ∃ k : Nat, k ≤ n ∧ i = .int .i64 k ∧ Hid (∃ m, m ≤ k ∧ MapI Try.prog 3 wr ml m (lostF (lost.take k))) ∧ Hid (LineAt wr w2.heap.size g bl bw (.slice none 0 0) (fun _ => none) (LS.start r d lost)) ∧ Hid (Below w2.heap.size w2 wr)) (fun i _ => n - (intOf i).toNat)
  case atStart =>
    exact ⟨0, by omega, rfl, ⟨0, Nat.le_refl _, HM3.out⟩, HL3.out, HB3.out⟩
  case round =>
    obtain ⟨k, hk, rfl, HMk, HLk, HBk⟩ := hrel
    clear HM3 HL3 HB3
    by_cases hlt : k < n
    · obtain ⟨ad, u, rfl, had, hu, hc⟩ := ((HP.out.reads.below HB.out).more HB.out.size |>.below HBk.out).at_ hlt
      have hkl : k < lost.length := by rw [HP.out.len]; exact hlt
      obtain ⟨x, hx⟩ : ∃ x, lost[k]? = some x := ⟨_, List.getElem?_eq_getElem hkl⟩
      have hux : u = .int .i64 x := by simp [List.getElem?_map, hx] at hu; exact hu.symm
      subst hux
      have hxw := HP.out.wf x (List.mem_of_getElem? hx)
      obtain ⟨m, hm, hmi⟩ := HMk.out
      obtain ⟨es', clock', hst, hm'⟩ := hmi.store Try.underlying3 Try.underlying54 (by unfold maxLen; omega) hxw (.bool true)
      have hl' : LineAt (ChangeMaps.setBlock wr ml (.map es' clock')) w2.heap.size g bl bw (.slice none 0 0) (fun _ => none) (LS.start r d lost) :=
        HLk.out.only ((Only.refl (fun k => k = ml) wr).setBlock (.inl rfl) _) fun k hk => by subst hk; exact ⟨hne3, fun tt cs hb => absurd rfl (hmi.ne_blk hb)⟩
      have hb' : Below w2.heap.size w2 (ChangeMaps.setBlock wr ml (.map es' clock')) := HBk.out.trans (((Only.refl (fun k => k = ml) wr).setBlock (.inl rfl) _).below HBk.out.size fun j hj => by omega)
      have e := take_snoc_int lost k hkl
      have hlk : lost[k] = x := by rw [List.getElem?_eq_getElem hkl] at hx; exact Option.some.inj hx
      rw [hlk] at e
      have hm2 : ∃ m, m ≤ k + 1 ∧ MapI Try.prog 3 (ChangeMaps.setBlock wr ml (.map es' clock')) ml m (lostF (lost.take (k + 1))) := by
        rw [e, ← lostF_snoc]
        exact ⟨_, by split <;> omega, hm'⟩
      have X1 := Lib.hid hm2
      have X2 := Lib.hid hl'
      have X3 := Lib.hid hb'
      clear hu hx hm hmi hm' hl' hb' e hlk hm2 hxw
      go_wp2_with fail
      go_roundw
      case rel => exact ⟨k + 1, by omega, by go_num, X1.out, X2.out, X3.out⟩
      case measure => simp [intOf]; omega
    · obtain rfl : k = n := by omega
      have et : lost.take k = lost := List.take_of_length_le (by rw [HP.out.len]; exact Nat.le_refl _)
      obtain ⟨mn, hmn, hmi⟩ := HMk.out
      rw [et] at hmi
      have hbz := HBk.out.size
      have hl0 := HLk.out.below ((Below.refl wr.heap.size wr).alloc (Nat.le_refl _) (.cells #[.map none, .int .i64 0] 48))
      have hin0 : InAt (wr.alloc (.cells #[.map none, .int .i64 0] 48)) w2.heap.size wr.heap.size none (fun _ => none) ⟨[], 0⟩ :=
        ⟨hbz, Blk.new _ _ _, .inl ⟨rfl, rfl⟩, fun _ => ⟨(fun p hp => by cases hp), fun _ => rfl⟩⟩
      have hb4 := HBk.out.alloc hbz (.cells #[.map none, .int .i64 0] 48)
      have hm4 := hmi.alloc (.cells #[.map none, .int .i64 0] 48)
      have hgne : wr.heap.size ≠ g := by have := HLk.out.blk.lt; omega
      have hgml : wr.heap.size ≠ ml := by have := hmi.lt; omega
      have HL4 := Lib.hid hl0
      have HI4 := Lib.hid hin0
      have HB4 := Lib.hid hb4
      have HM4 := Lib.hid hm4
      clear et hmi hl0 hin0 hb4 hm4 HMk HLk HBk hlt
      go_upto_region 13 with (fail)
      generalize wr.heap.size = gi at *
      generalize wr.alloc (.cells #[.map none, .int .i64 0] 48) = w5 at *
      have hs := send_any2 g bl bw w2.heap.size w.heap.size _ _ _ w5 A2 b.length c2 b HL4.out (by show ([] : List UInt8).length + _ ≤ _; simp; omega) ((HR.out.below HB.out).below (HB4.out.mono HB.out.size))
      have HS := Lib.hid hs
      clear hs
      go_wp2_with fail
      refine HS.out.mono ?_
      rintro e w6 ⟨rfl, wv6, hl6, ho6, hat6⟩
      have hno : ∀ j, ¬ (j = g ∨ (Value.slice none 0 0).ownBlock = some j) ↔ j ≠ g := fun j => by simp [Value.ownBlock]
      have hi6 : InAt w6 w2.heap.size gi none (fun _ => none) ⟨[], 0⟩ :=
        ⟨HI4.out.g1, HI4.out.blk.only ho6 ((hno _).2 hgne), .inl ⟨rfl, rfl⟩, fun _ => ⟨(fun p hp => by cases hp), fun _ => rfl⟩⟩
      have hm6 : MapI Try.prog 3 w6 ml mn (lostF lost) := HM4.out.only ho6 ((hno _).2 hne3.1)
      have hb6 : Below w2.heap.size w2 w6 := HB4.out.trans (ho6.below HB4.out.size fun j hj => (hno _).2 (by have := HL4.out.g1; omega))
      have ec : come r d b 0 = 0 := by unfold come; omega
      have hbo : Both w6 w2.heap.size g bl bw gi none (SK r d lost b 0) (TK r d lost b (come r d b 0)) := by
        rw [SK_zero, ec, TK_start]
        exact ⟨⟨wv6, _, hl6⟩, ⟨_, hi6⟩, by simp, by simp⟩
      have HBO := Lib.hid hbo
      have HM6 := Lib.hid hm6
      have HB6 := Lib.hid hb6
      have hla : lastI lost (come r d b 0) = -1 := by rw [ec]; rfl
      have HLA := Lib.hid hla
      clear hl6 ho6 hat6 hno hi6 hm6 hb6 ec hbo HS HL4 HI4 HB4 HM4 B4 c2'' hla
      go_wp2_with fail
      have hmb : many r b ≤ b.length := (many_le hr1 b _).2 (Nat.le_mul_of_pos_right _ hr1)
      go_loopw [11, 12] (fun lv iv wr => ∃ k : Nat, k ≤ b.length + d + 2 ∧ iv = .int .i64 k ∧ lv = .int .i64 (lastI lost (come r d b k)) ∧ Hid (∃ ob, Both wr w2.heap.size g bl bw gi ob (SK r d lost b k) (TK r d lost b (come r d b k)) ∧ ob ≠ some ml) ∧
        Hid (MapI Try.prog 3 wr ml mn (lostF lost)) ∧ Hid (Below w2.heap.size w2 wr)) (fun _ iv _ => b.length + d + 2 - (intOf iv).toNat)
      case atStart => exact ⟨0, by omega, rfl, by rw [HLA.out], ⟨none, HBO.out, by simp⟩, HM6.out, HB6.out⟩
      case round =>
        obtain ⟨k2, hk2, rfl, rfl, HBo, HMw, HBe⟩ := hrel
        clear HBO HM6 HB6 HLA
        have b8 := B2.out.below HBe.out hwz
        have c1 := b8.cell 1
        simp at c1
        clear b8
        by_cases hlt : k2 < b.length + d + 2
        · obtain ⟨ob, hbo, hob⟩ := HBo.out
          have hok := SK_ok HE.out b (by omega) hr1 k2 (by omega)
          obtain ⟨wv, fw, hli⟩ := hbo.line
          have HS := Lib.hid (SK_tick r d lost b k2 hr1)
          have HT := Lib.hid (tick_any g bl bw _ wv fw _ _ hli hok)
          have HLI := Lib.hid hli
          have HBO := Lib.hid hbo
          clear hok hli hbo
          go_upto_block 3 with (fail)
          go_cut [11] (fun lv wx => lv = .int .i64 (lastI lost (come r d b (k2 + 1))) ∧ Hid (∃ ob, Both wx w2.heap.size g bl bw gi ob (SK r d lost b (k2 + 1)) (TK r d lost b (come r d b (k2 + 1))) ∧ ob ≠ some ml) ∧ Hid (MapI Try.prog 3 wx ml mn (lostF lost)) ∧ Hid (Below w2.heap.size w2 wx))
          case first =>
            go_wp2_with fail
            refine HT.out.mono ?_
            rintro e w7 hp
            obtain ⟨v6, rfl, hb6, ho6, hon6⟩ := both_tick HBO.out hp
            rw [HS.out.1] at hb6
            rw [HS.out.2] at ho6
            have hm7 : MapI Try.prog 3 w7 ml mn (lostF lost) := HMw.out.only hon6 (by rintro (e | e); exact hne3.1 e; exact hne3.2.2 e)
            have hbe6 : Below w2.heap.size w2 w7 := HBe.out.trans (hon6.below HBe.out.size fun j hj => by
              have := HLI.out.g1
              have := HLI.out.bw1
              rintro (e | e) <;> omega)
            have hst := TK_step r d lost b k2
            have X1 := Lib.hid hb6
            have X2 := Lib.hid hm7
            have X3 := Lib.hid hbe6
            have X4 := Lib.hid hst
            clear hb6 hm7 hbe6 hst hon6 hp HT HBo HMw HBe HLI HBO
            obtain ⟨A6, c6, rfl⟩ := ho6.form
            obtain ⟨n6, hn6⟩ : ∃ n6, n6 = (outK r d lost b k2).length := ⟨_, rfl⟩
            rw [← hn6] at ho6 ⊢
            have HN6 := Lib.hid hn6
            have HO6 := Lib.hid ho6
            clear hn6 ho6
            rcases HO6.out with ⟨hl, hv⟩ | ⟨p, hl, hP⟩
            · have h0 : n6 = 0 := by rw [HN6.out, hl]; rfl
              subst h0
              have HX := Lib.hid (show takes (TK r d lost b (come r d b k2)) [] = _ from hl ▸ X4.out)
              have HY := Lib.hid (last_nil hl)
              clear hl hv
              go_wp2_with fail
              refine wp_loop_once ?_
              go_wp2_with fail
              go_meet
              refine ⟨by rw [HY.out], ⟨ob, ?_, hob⟩, X2.out, X3.out⟩
              rw [← HX.out]; exact X1.out
            · have h1 : n6 = 1 := by rw [HN6.out, hl]; rfl
              subst h1
              have HX := Lib.hid (show takes (TK r d lost b (come r d b k2)) [p] = _ from hl ▸ X4.out)
              obtain ⟨hpl, hp2, hp3, hpk⟩ := last_one hl
              obtain ⟨pg, pc, A7, dc, hv, q0, q1, hod, cs, hbp⟩ := hP.cells
              injection hv with hv1 _ hv2
              subst hv1 hv2
              have hseq : p.seq = ((k2 - d : Nat) : Int) := by rw [hpk]; rfl
              have hdat : p.data.length ≤ 65536 := by rw [hpk]; show ((b.drop ((k2 - d) * r)).take r).length ≤ _; rw [List.length_take]; omega
              have htl : (TK r d lost b (come r d b k2)).took.length ≤ 1000000 := Nat.le_trans (TK_len _ _ _ _ _) (by unfold come; omega)
              have hb42 : Below w7.heap.size w7 (w7.alloc (.cells #[.int .i64 p.seq, .slice A7 p.data.length dc] 42)) := (Below.refl _ _).alloc (Nat.le_refl _) _
              have htk := take_box3 X1.out hb42 hod X2.out hob (by omega) (by omega) hdat htl
              have hwf : (Lit.int .i64 p.seq).wf = true := WalkArith.wf_i64 (by omega)
              have hlook := (X2.out.below hb42 X2.out.lt).look Try.underlying3 Try.underlying54 (zero_bool _) hwf false
              have hlf : lostF lost p.seq = none := by unfold lostF; rw [if_neg hpl]
              rw [hlf] at hlook
              simp at hlook
              have hnle : ¬ p.seq ≤ lastI lost (come r d b k2) := by omega
              have HTK := Lib.hid htk
              have HY := Lib.hid hp3
              clear hl hP hod hbp hpk hseq hdat htl htk hpl hp2 hp3 hwf hlf hb42
              generalize lastI lost (come r d b k2) = la at *
              go_wp2_with fail
              refine wp_loop_rounds 2 ?_
              rw [rounds_succ]
              go_wp2_with fail
              refine HTK.out.mono ?_
              rintro e w8 ⟨rfl, ob7, hbo7, hbe7, hm7, hob7⟩
              go_wp2_with fail
              rw [rounds_succ]
              go_wp2_with fail
              go_meet
              refine ⟨by rw [HY.out], ⟨ob7, ?_, hob7⟩, hm7, (X3.out.alloc X3.out.size _).trans hbe7⟩
              rw [← HX.out]; exact hbo7
          case rest =>
            obtain ⟨rfl, HBo7, HMw7, HBe7⟩ := hcut
            clear HT HBo HMw HBe HLI HBO
            go_wp2_with fail
            go_roundw
            case rel => exact ⟨k2 + 1, by omega, by go_num, rfl, HBo7.out, HMw7.out, HBe7.out⟩
            case measure => simp [intOf]; omega
        · have hc : come r d b k2 = many r b := by unfold come; omega
          obtain ⟨ob, hbo, _⟩ := HBo.out
          rw [hc] at hbo ⊢
          obtain ⟨fm, hin⟩ := hbo.inbox
          have HIN := Lib.hid hin
          have HLI := Lib.hid (lastI_lt lost (many r b))
          have HGW := Lib.hid (gaps_want r d lost b (walked r b) (by unfold walked; split <;> rename_i h0; have := (many_le hr1 b 0).2 (by omega); omega; exact Nat.le_refl _) (by omega))
          have HFL := Lib.hid (front_len (d := d) hr1 lost b (walked r b) (by unfold walked; split <;> rename_i h0; exact .inl h0; exact .inr rfl))
          have HWL := Lib.hid (walked_le hr1 b)
          have hwn : walked r b ≤ 121 := by unfold walked; split; split <;> omega; omega
          generalize lastI lost (many r b) = la at *
          generalize hK : walked r b = K at *
          clear hbo hin HBo hc hK
          obtain ⟨i0, hi0, hz0, hz1, hz2⟩ := info_parts int_info
          have B8 := Lib.hid (B2.out.below HBe.out hwz)
          have hmll : ml < wr.heap.size := HMw.out.lt
          have hwl : w.heap.size < wr.heap.size := B8.out.lt
          obtain ⟨wB, rfl⟩ : ∃ wB : World, wB = wr := ⟨_, rfl⟩
          go_wp2_with fail
          go_loopw [15, 16, 17] (fun sv fv kv wq => ∃ (k : Nat) (A' : Option Addr) (c' : Nat), k ≤ K ∧ kv = .int .i64 k ∧ fv = .int .i64 (firstI lost k) ∧ sv = .slice A' (wantL lost la k).length c' ∧
            Hid (wq.ownsRow wB.heap.size 3 1 (.slice A' (wantL lost la k).length c') (wantL lost la k).length (ints (wantL lost la k))) ∧ Hid (Below wB.heap.size wB wq)) (fun _ _ kv _ => K - (intOf kv).toNat)
          case atStart => exact ⟨0, none, 0, by omega, rfl, rfl, rfl, World.ownsRow_nil _ _ _ _, Below.refl _ _⟩
          case round =>
            obtain ⟨k3, A', c', hk3, rfl, rfl, rfl, HO, HBq⟩ := hrel
            have b9 := B8.out.below HBq.out hwl
            have c0 := b9.cell 0
            simp at c0
            have hmq := HMw.out.below HBq.out hmll
            have hkw : (Lit.int .i64 (k3 : Int)).wf = true := WalkArith.wf_i64 (by omega)
            have hlook := hmq.look Try.underlying3 Try.underlying54 (zero_bool _) hkw false
            clear b9 hmq hkw
            have hkk := HWL.out k3
            have hF := firstI_succ lost k3
            have hW := wantL_succ lost la k3
            have hgl := wantL_len lost la k3
            have hbz := HBq.out.size
            by_cases hlt : k3 < K
            · have hle := hkk.2 hlt
              clear hkk
              generalize firstI lost k3 = fi at *
              generalize wantL lost la k3 = G at *
              by_cases hin : (k3 : Int) ∈ lost
              · have hlf : lostF lost (k3 : Int) = some (.bool true) := by unfold lostF; rw [if_pos hin]
                rw [hlf] at hlook
                simp at hlook
                by_cases hf : fi < 0
                · have F1 := Lib.hid (show firstI lost (k3 + 1) = (k3 : Int) from hF.trans (if_pos ⟨hin, hf⟩))
                  by_cases hl : (k3 : Int) < la
                  · have W1 := Lib.hid (show wantL lost la (k3 + 1) = G ++ [(k3 : Int)] from hW.trans (if_pos ⟨hin, hl⟩))
                    clear hF hW hlf hin
                    go_wp2_with (at_builtin; go_must (refine wpList_append_sl _ rfl (.tmp 118) (.tmp 120) _ rfl wB.heap.size 3 i0 _ 1 8 Try.underlying22 hi0 hz0 hz1 hz2 rfl (by omega) (.slice A' G.length c') G.length (ints G) rfl (HO.out.alloc _) (wr.heap.size + 1) (some ⟨wr.heap.size, 0, none⟩) 1 1 [.int .i64 (k3 : Int)] rfl (reads_new _ #[.int .i64 (k3 : Int)] 3 1 1 rfl) (by simp [Value.oneCell']) (by simp only [maxLen]; omega) (by omega) (by simp; omega) ?_); intro A1 c1' w1 hown1 hg1 hat1)
                    go_roundw
                    case rel =>
                      have e1 : (wantL lost la (k3 + 1)).length = G.length + 1 := by rw [W1.out]; simp
                      refine ⟨k3 + 1, A1, c1', by omega, by go_num, by rw [F1.out], by rw [e1], ?_, ?_⟩
                      · rw [e1, W1.out]
                        exact Lib.hid (by simpa [ints] using hown1)
                      · exact (HBq.out.alloc hbz _).grown hg1 (by simp; omega) fun k hk => (HO.out.lt k hk).1
                    case measure => simp [intOf]; omega
                  · have W1 := Lib.hid (show wantL lost la (k3 + 1) = G from hW.trans (if_neg (fun h => hl h.2)))
                    clear hF hW hlf hin
                    go_wp2_with fail
                    go_roundw
                    case rel => exact ⟨k3 + 1, A', c', by omega, by go_num, by rw [F1.out], by rw [W1.out], by rw [W1.out]; exact HO.out, HBq.out⟩
                    case measure => simp [intOf]; omega
                · have F1 := Lib.hid (show firstI lost (k3 + 1) = fi from hF.trans (if_neg (fun h => hf h.2)))
                  by_cases hl : (k3 : Int) < la
                  · have W1 := Lib.hid (show wantL lost la (k3 + 1) = G ++ [(k3 : Int)] from hW.trans (if_pos ⟨hin, hl⟩))
                    clear hF hW hlf hin
                    go_wp2_with (at_builtin; go_must (refine wpList_append_sl _ rfl (.tmp 118) (.tmp 120) _ rfl wB.heap.size 3 i0 _ 1 8 Try.underlying22 hi0 hz0 hz1 hz2 rfl (by omega) (.slice A' G.length c') G.length (ints G) rfl (HO.out.alloc _) (wr.heap.size + 1) (some ⟨wr.heap.size, 0, none⟩) 1 1 [.int .i64 (k3 : Int)] rfl (reads_new _ #[.int .i64 (k3 : Int)] 3 1 1 rfl) (by simp [Value.oneCell']) (by simp only [maxLen]; omega) (by omega) (by simp; omega) ?_); intro A1 c1' w1 hown1 hg1 hat1)
                    go_roundw
                    case rel =>
                      have e1 : (wantL lost la (k3 + 1)).length = G.length + 1 := by rw [W1.out]; simp
                      refine ⟨k3 + 1, A1, c1', by omega, by go_num, by rw [F1.out], by rw [e1], ?_, ?_⟩
                      · rw [e1, W1.out]
                        exact Lib.hid (by simpa [ints] using hown1)
                      · exact (HBq.out.alloc hbz _).grown hg1 (by simp; omega) fun k hk => (HO.out.lt k hk).1
                    case measure => simp [intOf]; omega
                  · have W1 := Lib.hid (show wantL lost la (k3 + 1) = G from hW.trans (if_neg (fun h => hl h.2)))
                    clear hF hW hlf hin
                    go_wp2_with fail
                    go_roundw
                    case rel => exact ⟨k3 + 1, A', c', by omega, by go_num, by rw [F1.out], by rw [W1.out], by rw [W1.out]; exact HO.out, HBq.out⟩
                    case measure => simp [intOf]; omega
              · have hlf : lostF lost (k3 : Int) = none := by unfold lostF; rw [if_neg hin]
                rw [hlf] at hlook
                simp at hlook
                have F1 := Lib.hid (show firstI lost (k3 + 1) = fi from hF.trans (if_neg (fun h => hin h.1)))
                have W1 := Lib.hid (show wantL lost la (k3 + 1) = G from hW.trans (if_neg (fun h => hin h.1)))
                clear hF hW hlf hin
                go_wp2_with fail
                go_roundw
                case rel => exact ⟨k3 + 1, A', c', by omega, by go_num, by rw [F1.out], by rw [W1.out], by rw [W1.out]; exact HO.out, HBq.out⟩
                case measure => simp [intOf]; omega
            · have hnle := mt hkk.1 hlt
              obtain rfl : k3 = K := by omega
              clear hkk hF hW hlook
              have hi9 := HIN.out.below HBq.out
              have hfr := front_any gi _ ob fm _ wr hi9 (Nat.le_trans (TK_len _ _ _ _ _) (by omega)) (fun p hp => by have := TK_data _ _ _ _ _ p hp; omega)
              have hFl : (TK r d lost b (many r b)).front.length ≤ b.length := by rw [TK_front, List.length_take]; omega
              generalize hFr : (TK r d lost b (many r b)).front = F at *
              have HFR := Lib.hid hfr
              have HI9 := Lib.hid hi9
              have HFr := Lib.hid hFr
              clear hfr hi9 hFr HIN
              go_wp2_with fail
              refine HFR.out.mono ?_
              rintro e w8 ⟨Af, cf, rfl, hof, hb8⟩
              have hga := gaps_any gi _ ob fm _ w8 (HI9.out.below hb8) (by have := (TK_last r d lost b (many r b)).2; omega)
              rw [HGW.out] at hga
              have rw0 := (Reads.of_own HO.out).below hb8
              have HGA := Lib.hid hga
              have HB8 := Lib.hid hb8
              have RW := Lib.hid rw0
              clear hga hof hb8 rw0 HFR HI9
              go_wp2_with fail
              refine HGA.out.mono ?_
              rintro e w9 ⟨Ag, cg, rfl, hog, hb9⟩
              have rg := Lib.hid (Reads.of_own hog)
              have rw9 := Lib.hid (RW.out.below (hb9.mono HB8.out.size))
              have HBe9 := Lib.hid (((HBe.out.trans (HBq.out.mono HBe.out.size)).trans (HB8.out.mono (Nat.le_trans HBe.out.size HBq.out.size))).trans (hb9.mono (Nat.le_trans HBe.out.size (Nat.le_trans HBq.out.size HB8.out.size))))
              have b9 := B2.out.below HBe9.out hwz
              have B9 := Lib.hid b9
              have hgl' : (wantL lost la k3).length ≤ 121 := by omega
              clear hog hb9 HGA RW HO b9 HB8 HBq
              generalize wantL lost la k3 = G at *
              generalize hfi : firstI lost k3 = fi at *
              have HFI := Lib.hid (show -1 ≤ fi ∧ fi ≤ 121 by rw [← hfi]; unfold firstI; have := (firstLost_spec lost k3).1; split <;> omega)
              clear hfi
              go_wp2_with fail
              go_loopw [131] (fun iv wq => ∃ k q : Nat, k ≤ G.length ∧ iv = .int .i64 k ∧ wq = w9.drewN q) (fun iv _ => G.length - (intOf iv).toNat)
              case atStart => exact ⟨0, 0, by omega, rfl, rfl⟩
              case round =>
                obtain ⟨k5, q, hk5, rfl, rfl⟩ := hrel
                by_cases hlt5 : k5 < G.length
                · obtain ⟨a1, u1, rfl, ha1, hu1, hc1⟩ := rg.out.at_ hlt5
                  obtain ⟨a2, u2, rfl, ha2, hu2, hc2⟩ := rw9.out.at_ hlt5
                  have hu : u1 = u2 := by rw [hu1] at hu2; exact Option.some.inj hu2
                  subst hu
                  have hux : ∃ z, u1 = .int .i64 z := by
                    unfold ints at hu1
                    rw [List.getElem?_map] at hu1
                    obtain ⟨z, _, rfl⟩ := Option.map_eq_some_iff.1 hu1
                    exact ⟨z, rfl⟩
                  obtain ⟨z, rfl⟩ := hux
                  clear hu1 hu2
                  go_upto_region 42 with (fail)
                  go_quiet (fail)
                  go_wp2_with fail
                  exact ⟨⟨k5 + 1, _, by omega, by go_num, rfl⟩, by simp [intOf]; omega⟩
                · obtain rfl : k5 = G.length := by omega
                  have c0 := B9.out.cell 0
                  simp at c0
                  have hend : Below w.heap.size w (w9.drewN q) := below_drewN (HB.out.trans (HBe9.out.mono HB.out.size)) q
                  have HEND := Lib.hid hend
                  have hfl := HFL.out
                  clear hend HFL rg rw9 HBe9 B9 HB B2 HFr B8 HMw HBe
                  by_cases hA : fi < 0 ∨ b.length = 0
                  · have e1 : ((F.length : Int) == (b.length : Int)) = true := by rw [hfl.1 hA]; exact beq_self_eq_true _
                    clear hfl
                    by_cases h0 : fi < 0
                    · clear hA
                      go_wp2_with fail
                      go_ret
                      exact ⟨by first | rfl | rw [e1], HEND.out⟩
                    · have h1 : b.length = 0 := hA.resolve_left h0
                      have h2 : ((b.length : Int) == 0) = true := by rw [h1]; rfl
                      clear hA
                      go_wp2_with fail
                      go_ret
                      refine ⟨?_, HEND.out⟩
                      show Ending.returned (Value.bool _) = _
                      first
                        | rfl
                        | (show Ending.returned (Value.bool ((F.length : Int) == (b.length : Int))) = _; rw [e1])
                        | (show Ending.returned (Value.bool ((F.length : Int) == 0)) = _; rw [h1] at e1; rw [← e1]; rfl)
                        | trace_state
                  · have e1 := hfl.2 hA
                    have e2 : IntKind.i64.wrap (fi * (r : Int)) = fi * (r : Int) := IntWalk.i64_in _ (by omega)
                    have h0 : ¬ fi < 0 := fun h => hA (.inl h)
                    have h1 : ¬ b.length = 0 := fun h => hA (.inr h)
                    have h2 : ((b.length : Int) == 0) = false := by rw [beq_eq_false_iff_ne]; omega
                    have e3 : ((F.length : Int) == fi * (r : Int)) = true := by rw [e1]; exact beq_self_eq_true _
                    clear hfl hA e1
                    go_wp2_with fail
                    go_ret
                    exact ⟨by first | rfl | rw [e3], HEND.out⟩

theorem lost_any (rate delay : Int) (A A2 : Option Addr) (n c c2 : Nat) (lost : List Int) (b : List UInt8) (w : World) (hp : PlanIn w lost A n) (hr : Reads w w.heap.size 1 A2 b.length (B8 b)) (hn : n ≤ 9223372036854775807) :
    Calls Try.prog 5 #[.agg #[.int .i64 rate, .int .i64 delay, .slice A n c], .slice A2 b.length c2] w (True_ w) := by
  by_cases hg : greatB [] n = true ∨ 120 < b.length ∨ 30 < delay
  · exact lost_great rate delay A A2 n c b.length c2 lost w hp hn hg
  · have h1 : greatB [] n = false := by cases h : greatB [] n with | true => exact absurd (.inl h) hg | false => rfl
    have h2 : b.length ≤ 120 := Nat.not_lt.1 fun h => hg (.inr (.inl h))
    have h3 : delay ≤ 30 := Int.not_lt.1 fun h => hg (.inr (.inr h))
    have h4 := (great_no h1).2.1
    by_cases he : errNew rate delay lost = 0
    · have h0 := (start_ok he)
      have hr1 : 1 ≤ rate := by have := h0.rate1; have e : (LS.start rate delay lost).rate = rate := rfl; omega
      have hd1 : 0 ≤ delay := by have := h0.delay1; have e : (LS.start rate delay lost).delay = delay := rfl; omega
      obtain ⟨r, rfl⟩ := Int.eq_ofNat_of_zero_le (show 0 ≤ rate by omega)
      obtain ⟨d, rfl⟩ := Int.eq_ofNat_of_zero_le hd1
      exact lost_main r d A A2 n c c2 lost b w hp hr h4 h2 (by omega) he
    · exact lost_bad rate delay A A2 n c b.length c2 lost w hp h4 h2 h3 he
end Go.Proofs.Ytieoeednfgpoiaa
