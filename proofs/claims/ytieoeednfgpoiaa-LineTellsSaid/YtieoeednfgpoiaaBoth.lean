/- A line and an inbox beside each other. No condition. -/
import Derived.Test.YtieoeednfgpoiaaFront
namespace Go.Proofs.Ytieoeednfgpoiaa
open Go.RowKit


theorem rising_len : ∀ (l : List Pk) (a b : Int), l.Pairwise (fun p q => p.at_ < q.at_) → (∀ p ∈ l, a < p.at_ ∧ p.at_ ≤ b) → (l.length : Int) ≤ max 0 (b - a)
  | [], a, b, _, _ => by simp; omega
  | p :: l, a, b, h, hb => by
    obtain ⟨h1, h2⟩ := List.pairwise_cons.1 h
    have hp := hb p (by simp)
    have ih := rising_len l p.at_ b h2 fun q hq => ⟨h1 q hq, (hb q (by simp [hq])).2⟩
    simp only [List.length_cons]
    omega

theorem tick_ok (s : LS) (ok : s.Ok) (hn : s.now < 1000000) : s.tick.Ok := by
  obtain ⟨r1, r2, d1, d2, n1, n2, x1, x2, l1, w1, y1, y2, y3⟩ := ok
  have hp := put_ok s ⟨r1, r2, d1, d2, n1, n2, x1, x2, l1, w1, y1, y2, y3⟩
  have hf : s.put.rate = s.rate ∧ s.put.delay = s.delay ∧ s.put.lost = s.lost ∧ s.put.now = s.now + 1 ∧ 0 ≤ s.put.next ∧ s.put.next ≤ s.now + 1 ∧ s.put.wait.length ≤ 4194304 ∧ ∀ p ∈ s.put.way, s.now < p.at_ ∧ p.at_ ≤ s.now + 1 + s.delay := by
    unfold LS.put
    split
    · exact ⟨rfl, rfl, rfl, rfl, x1, by simp only; omega, w1, fun p hp => by have := y1 p hp; omega⟩
    · refine ⟨rfl, rfl, rfl, rfl, by simp only; omega, by simp only; omega, by simp only [List.length_drop]; omega, fun p hp => ?_⟩
      simp only at hp
      split at hp
      · have := y1 p hp; omega
      · rcases List.mem_append.1 hp with hp | hp
        · have := y1 p hp; omega
        · obtain rfl : p = s.pk := by simpa using hp
          show s.now < s.now + 1 + s.delay ∧ s.now + 1 + s.delay ≤ _
          omega
  obtain ⟨e1, e2, e3, e4, e5, e6, e7, e8⟩ := hf
  have hway : ∀ p ∈ s.tick.way, s.tick.now < p.at_ ∧ p.at_ ≤ s.tick.now + s.tick.delay := by
    intro p hp
    obtain ⟨h1, h2⟩ := List.mem_filter.1 hp
    have h3 := e8 p h1
    have h4 : p.at_ ≠ s.now + 1 := by simpa using h2
    show s.put.now < p.at_ ∧ p.at_ ≤ s.put.now + s.put.delay
    omega
  have hris : s.tick.way.Pairwise (fun p q => p.at_ < q.at_) := hp.2.2.sublist List.filter_sublist
  have hlen := rising_len _ _ _ hris hway
  refine ⟨?_, ?_, ?_, ?_, ?_, ?_, e5, ?_, ?_, e7, hway, hris, ?_⟩
  · show 1 ≤ s.put.rate; omega
  · show s.put.rate ≤ _; omega
  · show 0 ≤ s.put.delay; omega
  · show s.put.delay ≤ _; omega
  · show 0 ≤ s.put.now; omega
  · show s.put.now ≤ _; omega
  · show s.put.next ≤ s.put.now; omega
  · show s.put.lost.length ≤ _; rw [e3]; exact l1
  · have : s.tick.now + s.tick.delay - s.tick.now = s.put.delay := by show s.put.now + s.put.delay - s.put.now = _; omega
    rw [this] at hlen
    omega

/-- A new line. -/
def LS.start (rate delay : Int) (lost : List Int) : LS := ⟨rate, delay, 0, 0, lost, [], []⟩
theorem start_ok {rate delay : Int} {lost : List Int} (h : errNew rate delay lost = 0) : (LS.start rate delay lost).Ok := by
  unfold errNew at h
  split at h
  · omega
  · split at h
    · omega
    · exact ⟨by show 1 ≤ rate; omega, by show rate ≤ _; omega, by show 0 ≤ delay; omega, by show delay ≤ _; omega, Int.le_refl _, by show (0 : Int) ≤ _; omega, Int.le_refl _, Int.le_refl _, by show lost.length ≤ _; omega, Nat.zero_le _,
        (fun p hp => by cases hp), List.Pairwise.nil, Nat.zero_le _⟩
theorem send_ok {s : LS} (ok : s.Ok) (b : List UInt8) (h : s.wait.length + b.length ≤ 4194304) : (s.send b).Ok :=
  ⟨ok.rate1, ok.rate2, ok.delay1, ok.delay2, ok.now1, ok.now2, ok.next1, ok.next2, ok.lost, by show (s.wait ++ b).length ≤ _; simpa using h, ok.way, ok.rising, ok.short⟩

theorem start_at {w : World} {base g bl bw : Nat} {rate delay : Int} {lost : List Int} (h1 : base ≤ g) (h2 : base ≤ bl) (h3 : base ≤ bw) (hne : bl ≠ bw)
    (hb : Blk w g 63 #[.int .i64 rate, .int .i64 delay, .int .i64 0, .int .i64 0, .map (some bl), .slice none 0 0, .map (some bw)]) (hl : MapI Try.prog 3 w bl lost.length (lostF lost)) (hw : MapI Try.prog 3 w bw 0 (fun _ => none)) :
    LineAt w base g bl bw (.slice none 0 0) (fun _ => none) (LS.start rate delay lost) :=
  ⟨h1, h2, h3, hne, hb, hl, World.ownsRow_nil _ _ _ _, hw, fun _ => ⟨(fun p hp => by cases hp), fun _ => rfl⟩⟩

/-! ### A line and an inbox -/
structure Both (w : World) (base g bl bw gi : Nat) (ob : Option Nat) (s : LS) (t : IS) : Prop where
  line : ∃ wv fw, LineAt w base g bl bw wv fw s
  inbox : ∃ fm, InAt w base gi ob fm t
  ne1 : ob ≠ some bl
  ne2 : ob ≠ some bw

theorem InAt.map_of {w : World} {base g b : Nat} {fm : Int → Option Value} {t : IS} (h : InAt w base g (some b) fm t) : MapI Try.prog 3 w b t.took.length fm := by
  rcases h.map with ⟨e, _⟩ | ⟨b', e, _, hm⟩
  · cases e
  · injection e with e; subst e; exact hm

theorem both_tick {w w' : World} {base g bl bw gi : Nat} {ob : Option Nat} {s : LS} {t : IS} {e : Ending} (h : Both w base g bl bw gi ob s t) (hp : TickPost base g bl bw s w e w') :
    ∃ v, e = .returned v ∧ Both w' base g bl bw gi ob s.tick t ∧ OutIs w' base v s.out ∧ TickOnly g bw w w' := by
  obtain ⟨v, wv', fw', he, hl, ho, hon⟩ := hp
  obtain ⟨fm, hi⟩ := h.inbox
  obtain ⟨wv, fw, hl0⟩ := h.line
  refine ⟨v, he, ⟨⟨wv', fw', hl⟩, ⟨fm, hi.only hon fun k hk => ?_⟩, h.ne1, h.ne2⟩, ho, hon⟩
  rcases hk with rfl | rfl
  · refine ⟨fun e => ?_, fun e => ?_, fun cs hb => ?_⟩
    · exact Blk.ne_ hl0.blk hi.blk (by decide) e
    · subst e; exact hi.map_of.ne_blk hl0.blk rfl
    · exact Blk.ne_ hl0.blk hb (by decide) rfl
  · refine ⟨fun e => hl0.way.ne_blk hi.blk e, h.ne2, fun cs hb => hl0.way.ne_blk hb rfl⟩

/-- A packet that arrived is taken. -/
theorem both_take {w w' : World} {base g bl bw gi : Nat} {ob : Option Nat} {s : LS} {t : IS} {e : Ending} {x : Int} {d : List UInt8} (h : Both w base g bl bw gi ob s t) (hp : TakePost base gi ob t x d w e w') :
    e = .returned (.tuple #[]) ∧ ∃ ob', Both w' base g bl bw gi ob' s (t.take x d) ∧ Only (fun k => k = gi ∨ ob = some k) w w' := by
  obtain ⟨he, ob', fm', hi', hon, hob⟩ := hp
  obtain ⟨fm, hi⟩ := h.inbox
  obtain ⟨wv, fw, hl⟩ := h.line
  have hgi : gi ≠ g := Blk.ne_ hi.blk hl.blk (by decide)
  refine ⟨he, ob', ⟨⟨wv, fw, hl.only hon fun k hk => ?_⟩, ⟨fm', hi'⟩, ?_, ?_⟩, hon⟩
  · rcases hk with rfl | rfl
    · exact ⟨⟨hgi, fun e => hl.lost.ne_blk hi.blk e.symm, fun e => hl.way.ne_blk hi.blk e.symm⟩, fun tt cs hb => ⟨fun e => Blk.ne_ hb hi.blk (by rw [e]; decide) rfl, fun e => Blk.ne_ hb hi.blk (by rw [e]; decide) rfl⟩⟩
    · exact ⟨⟨fun e => hi.map_of.ne_blk hl.blk e, fun e => h.ne1 (by rw [e]), fun e => h.ne2 (by rw [e])⟩, fun tt cs hb => absurd rfl (hi.map_of.ne_blk hb)⟩
  · rcases hob with rfl | h1
    · exact h.ne1
    · exact fun e => by have := h1 _ e; have := hl.lost.lt; omega
  · rcases hob with rfl | h1
    · exact h.ne2
    · exact fun e => by have := h1 _ e; have := hl.way.lt; omega

/-- What Take asks of a packet's bytes. -/
theorem take_reads {w : World} {base gi : Nat} {ob : Option Nat} {fm : Int → Option Value} {t : IS} {A : Option Addr} {n c : Nat} {d : List UInt8} (hi : InAt w base gi ob fm t) (ho : w.ownsRow base 5 1 (.slice A n c) n (B8 d)) :
    ∀ W, Only (fun k => k = gi ∨ ob = some k) w W → Reads W W.heap.size 1 A n (B8 d) := by
  intro W hW
  refine Reads.of_own (c := c) (own_same ho fun k hk => ?_)
  obtain ⟨cs, hb⟩ := own_blk ho hk
  refine hW.block k hb.lt ?_
  rintro (e | e)
  · exact Blk.ne_ hb hi.blk (by decide) e
  · subst e; exact hi.map_of.ne_blk hb rfl
end Go.Proofs.Ytieoeednfgpoiaa
