/- The contracts of Now, Idle, Send. No condition. -/
import Derived.Test.YtieoeednfgpoiaaTick
namespace Go.Proofs.Ytieoeednfgpoiaa
open Go.RowKit


theorem now_any (g bl bw base : Nat) (wv : Value) (fw : Int → Option Value) (s : LS) (w : World) (h : LineAt w base g bl bw wv fw s) :
    Calls Try.prog 18 #[.pointer (some ⟨g, 0, none⟩)] w fun e w' => e = .returned (.int .i64 s.now) ∧ w = w' := by
  have c2 := h.cells.c2
  clear h
  go_enter Try.func18, Try.ntmps18
  go_wp2
  go_ret
  exact ⟨rfl, rfl⟩

theorem now_nil (w : World) : Calls Try.prog 18 #[.pointer none] w fun e w' => e = .returned (.int .i64 0) ∧ w = w' := by
  go_enter Try.func18, Try.ntmps18
  go_wp2
  go_ret
  exact ⟨rfl, rfl⟩

def idleB (s : LS) : Bool := s.wait.isEmpty && s.way.isEmpty

theorem idle_nil (w : World) : Calls Try.prog 19 #[.pointer none] w fun e w' => e = .returned (.bool true) ∧ w = w' := by
  go_enter Try.func19, Try.ntmps19
  go_wp2
  go_ret
  exact ⟨rfl, rfl⟩

set_option maxHeartbeats 400000 in
theorem idle_any (g bl bw base : Nat) (wv : Value) (fw : Int → Option Value) (s : LS) (w : World) (h : LineAt w base g bl bw wv fw s) (hw : s.wait.length ≤ 100000000) (hy : s.way.length ≤ 100000000) :
    Calls Try.prog 19 #[.pointer (some ⟨g, 0, none⟩)] w fun e w' => e = .returned (.bool (idleB s)) ∧ w = w' := by
  obtain ⟨wa, wcap, hwv, _⟩ := own_form h.wait
  have c5 := h.cells.c5
  have c6 := h.cells.c6
  rw [hwv] at c5
  have hlen := h.way.len (t := 61) Try.underlying61 3
  have e1 : idleB s = (decide (s.wait.length = 0) && decide (s.way.length = 0)) := by
    unfold idleB
    cases s.wait <;> cases s.way <;> simp
  rw [e1]
  clear h hwv e1
  generalize s.wait.length = a at *
  generalize s.way.length = b at *
  rcases (by omega : a = 0 ∨ 0 < a) with h0 | h0
  · subst h0
    rcases (by omega : b = 0 ∨ 0 < b) with h1 | h1
    · subst h1
      go_enter Try.func19, Try.ntmps19
      go_wp2
      go_ret
      exact ⟨rfl, rfl⟩
    · have h2 : ((b : Int) == 0) = false := by rw [beq_eq_false_iff_ne]; omega
      go_enter Try.func19, Try.ntmps19
      go_wp2
      go_ret
      exact ⟨by simp; omega, rfl⟩
  · have h2 : ((a : Int) == 0) = false := by rw [beq_eq_false_iff_ne]; omega
    go_enter Try.func19, Try.ntmps19
    go_wp2
    go_ret
    exact ⟨by simp; omega, rfl⟩

theorem send_nil (x : Value) (w : World) : Calls Try.prog 15 #[.pointer none, x] w fun e w' => e = .returned (.int .i64 1) ∧ w = w' := by
  go_enter Try.func15, Try.ntmps15
  go_wp2
  go_ret
  exact ⟨rfl, rfl⟩

set_option maxHeartbeats 400000 in
theorem send_full (g bl bw base : Nat) (wv : Value) (fw : Int → Option Value) (s : LS) (w : World) (A : Option Addr) (n c : Nat) (h : LineAt w base g bl bw wv fw s) (hn : 4194304 < s.wait.length + n) (hw : s.wait.length ≤ 4194304) (hm : n ≤ 1000000000) :
    Calls Try.prog 15 #[.pointer (some ⟨g, 0, none⟩), .slice A n c] w fun e w' => e = .returned (.int .i64 7) ∧ w = w' := by
  obtain ⟨wa, wcap, hwv, _⟩ := own_form h.wait
  have c5 := h.cells.c5
  rw [hwv] at c5
  clear h hwv
  generalize s.wait.length = a at *
  have hn' : (4194304 : Int) < (a : Int) + (n : Int) := by omega
  go_enter Try.func15, Try.ntmps15
  go_wp2
  go_ret
  exact ⟨rfl, rfl⟩

/-- How a Send may turn the world. -/
def SendPost (base g bl bw : Nat) (wv : Value) (fw : Int → Option Value) (s : LS) (b : List UInt8) (w : World) (e : Ending) (w' : World) : Prop :=
  e = .returned (.int .i64 0) ∧ ∃ wv', LineAt w' base g bl bw wv' fw (s.send b) ∧ Only (fun k => k = g ∨ wv.ownBlock = some k) w w'

theorem PackAt.sent {w w' : World} {base : Nat} {wv wv' v : Value} {p : Pk} (h : PackAt w base wv v p) (hg : w.grownBy w' wv.ownBlock) (ht : ∀ k cs, Blk w k 42 cs → some k ≠ wv.ownBlock) (hat : wv'.ownBlock = wv.ownBlock ∨ wv'.ownBlock = some w.heap.size) :
    PackAt w' base wv' v p := by
  obtain ⟨dv, h1, h2, h3⟩ := h
  refine ⟨dv, own_same h1 fun k hk => ?_, own_same h2 fun k hk => ?_, ?_⟩
  · obtain ⟨cs, hb⟩ := own_blk h1 hk
    exact hg.block k hb.lt (ht k cs hb)
  · refine hg.block k (h2.lt k hk).2 fun e => ?_
    rcases h3 with h3 | h3
    · rw [h3] at hk; cases hk
    · exact h3 (hk.trans e)
  · rcases h3 with h3 | h3
    · exact .inl h3
    · rcases hat with e | e
      · right; rw [e]; exact h3
      · cases hd : dv.ownBlock with
        | none => exact .inl rfl
        | some k =>
          right
          rw [e]
          intro e'
          have := (h2.lt k hd).2
          injection e' with e'
          omega

set_option maxHeartbeats 400000 in
/-- Send. -/
theorem send_any (g bl bw base B : Nat) (wv : Value) (fw : Int → Option Value) (s : LS) (w : World) (A : Option Addr) (n c : Nat) (b : List UInt8) (h : LineAt w base g bl bw wv fw s) (hn : s.wait.length + n ≤ 4194304)
    (hr : Reads w B 1 A n (B8 b)) :
    Calls Try.prog 15 #[.pointer (some ⟨g, 0, none⟩), .slice A n c] w (SendPost base g bl bw wv fw s b w) := by
  obtain ⟨i0, hi0, hz0, hz1, hz2⟩ := info_parts u8_info
  obtain ⟨wa, wcap, hwv, _⟩ := own_form h.wait
  have c5 := h.cells.c5
  have f5 := h.cells.f 5
  rw [hwv] at c5
  have hn' : (s.wait.length : Int) + (n : Int) ≤ 4194304 := by omega
  have H := Lib.hid h
  have HV := Lib.hid hwv
  have HR := Lib.hid hr
  have HW := Lib.hid h.wait
  have hbase : base ≤ w.heap.size := Nat.le_of_lt (Nat.lt_of_le_of_lt h.g1 h.blk.lt)
  have hgw : some g ≠ (Value.slice wa s.wait.length wcap).ownBlock := fun e => own_blk_ne (hwv ▸ h.wait) h.blk (by decide) e.symm
  have hglt : g < w.heap.size := h.blk.lt
  have HGW := Lib.hid hgw
  clear h hwv hr hgw
  go_enter Try.func15, Try.ntmps15
  go_wp2_with (at_builtin; refine wpList_append_sl _ rfl (.tmp 20) (.tmp 21) _ rfl base 5 i0 _ 1 1 Try.underlying35 hi0 hz0 hz1 hz2 rfl (by omega) (.slice wa s.wait.length wcap) s.wait.length (B8 s.wait) rfl (HV.out ▸ HW.out) B A n c (B8 b) rfl HR.out (B8_oneCell _) (by simp only [maxLen]; omega) (by omega) hbase ?_; intro A1 c1 w1 hown1 hg1 hat1; (have c5' := (World.cell?_of_block (a := ⟨g, 5, none⟩) (hg1.block g hglt HGW.out)).trans c5); (have f5' := (World.frozen?_of_block (a := ⟨g, 5, none⟩) (hg1.block g hglt HGW.out)).trans f5))
  go_ret
  have hne : ∀ k cs t, t ≠ 5 → Blk w k t cs → some k ≠ wv.ownBlock := fun k cs t ht hb e => own_blk_ne HW.out hb (Ne.symm ht) e.symm
  rw [← HV.out] at hg1 hat1
  have hrl : (B8 b).length = n := by have := HR.out.1; simpa using this
  have hm : ∀ {k n' f}, MapI Try.prog 3 w k n' f → some k ≠ wv.ownBlock := fun hm e => by
    obtain ⟨cs, hb⟩ := own_blk HW.out e.symm
    exact hm.ne_blk hb rfl
  have e1 : some g ≠ wv.ownBlock := hne _ _ _ (by decide) H.out.blk
  have hb1 : Blk w1 g 63 (lineCells bl bw wv s) := H.out.blk.grown hg1 e1
  refine ⟨rfl, .slice A1 (s.wait.length + n) c1, ⟨H.out.g1, H.out.bl1, H.out.bw1, H.out.ne, ?_, ?_, ?_, ?_, ?_⟩, ?_⟩
  · have := hb1.set_ 5 (.slice A1 (s.wait.length + n) c1)
    simpa [lineCells, LS.send] using this
  · exact (H.out.lost.grown hg1 (hm H.out.lost)).setCell (hb1.cell 5) _
  · have hl : (s.send b).wait.length = s.wait.length + n := by show (s.wait ++ b).length = _; rw [List.length_append]; rw [B8_length] at hrl; omega
    rw [hl]
    refine own_same (w := w1) ?_ fun k hk => Below.heap_setCell _ _ _ _ ?_
    · rw [B8_append] at hown1; exact hown1
    · obtain ⟨cs, hb⟩ := own_blk hown1 hk
      exact hb.ne_ hb1 (by decide)
  · exact (H.out.way.grown hg1 (hm H.out.way)).setCell (hb1.cell 5) _
  · refine H.out.wayIs.imp fun p _ v hP => ?_
    have hP1 := hP.sent (wv' := .slice A1 (s.wait.length + n) c1) hg1 (fun k cs hb => hne k cs 42 (by decide) hb) hat1
    exact hP1.same fun k t cs hb ht _ => Below.heap_setCell _ _ _ _ (hb.ne_ hb1 (by rcases ht with rfl | rfl <;> decide))
  · exact ((Only.refl _ w).grown hg1 (fun k hk => .inl (.inr hk))).setCell (.inl (.inl rfl)) _
end Go.Proofs.Ytieoeednfgpoiaa
