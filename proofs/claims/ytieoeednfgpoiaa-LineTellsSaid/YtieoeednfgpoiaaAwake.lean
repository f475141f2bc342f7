/- awake answers true: the document's example. No condition. -/
import Derived.Test.YtieoeednfgpoiaaRounds
namespace Go.Proofs.Ytieoeednfgpoiaa
open Go.RowKit


theorem PackAt.cells {w : World} {base : Nat} {wv v : Value} {p : Pk} (h : PackAt w base wv v p) : ∃ pg c A dc, v = .slice (some ⟨pg, 0, none⟩) 1 c ∧ w.cell? ⟨pg, 0, none⟩ = some (.int .i64 p.seq) ∧
    w.cell? ⟨pg, 1, none⟩ = some (.slice A p.data.length dc) ∧ w.ownsRow base 5 1 (.slice A p.data.length dc) p.data.length (B8 p.data) ∧ ∃ cs, Blk w pg 42 cs := by
  obtain ⟨dv, h1, h2, _⟩ := h
  obtain ⟨A, dc, rfl, _⟩ := own_form h2
  obtain ⟨g, cap, hv, _, hlt⟩ := h1.form (by omega)
  obtain ⟨cs, hb⟩ := own_blk h1 (k := g) (by rw [hv]; rfl)
  have hc := h1.cells (g := g) (by rw [hv]; rfl)
  exact ⟨g, cap, A, dc, hv, hc 0 _ rfl, hc 1 _ rfl, h2, cs, hb⟩

theorem Both.below {w w' : World} {base g bl bw gi : Nat} {ob : Option Nat} {s : LS} {t : IS} (h : Both w base g bl bw gi ob s t) (hb : Below w.heap.size w w') : Both w' base g bl bw gi ob s t := by
  obtain ⟨⟨wv, fw, hl⟩, ⟨fm, hi⟩, h1, h2⟩ := h
  exact ⟨⟨wv, fw, hl.below hb⟩, ⟨fm, hi.below hb⟩, h1, h2⟩
/-- The call of Take at a packet that arrived, its box laid. -/
theorem take_box {w w4 : World} {base g bl bw gi : Nat} {ob : Option Nat} {s : LS} {t : IS} {p : Pk} {A : Option Addr} {dc : Nat} (h : Both w base g bl bw gi ob s t) (hb : Below w.heap.size w w4)
    (ho : w.ownsRow base 5 1 (.slice A p.data.length dc) p.data.length (B8 p.data)) (h1 : -9223372036854775808 ≤ p.seq) (h2 : p.seq ≤ 9223372036854775807) (h3 : p.data.length ≤ 65536) (h4 : t.took.length ≤ 1000000) :
    Calls Try.prog 21 #[.pointer (some ⟨gi, 0, none⟩), .agg #[.int .i64 p.seq, .slice A p.data.length dc]] w4 fun e w' => e = .returned (.tuple #[]) ∧ ∃ ob', Both w' base g bl bw gi ob' s (t.take p.seq p.data) ∧ Below base w4 w' := by
  have hB := h.below hb
  obtain ⟨fm, hi⟩ := hB.inbox
  have hod : w4.ownsRow base 5 1 (.slice A p.data.length dc) p.data.length (B8 p.data) := own_same ho fun k hk => hb.block k (ho.lt k hk).2
  have hbase : base ≤ w4.heap.size := Nat.le_of_lt (Nat.lt_of_le_of_lt hi.g1 hi.blk.lt)
  refine (take_any gi base ob fm t p.seq A p.data.length dc p.data w4 hi rfl (take_reads hi hod) h1 h2 (by omega) h4).mono fun e w' hp => ?_
  obtain ⟨he, ob', hB', hon⟩ := both_take hB hp
  refine ⟨he, ob', hB', hon.below hbase fun k hk => ?_⟩
  rintro (e | e)
  · have := hi.g1; omega
  · rcases hi.map with ⟨e', _⟩ | ⟨b, e', hb', _⟩
    · rw [e'] at e; cases e
    · rw [e'] at e; injection e with e; omega

def True_ (w : World) (e : Ending) (w' : World) : Prop := e = .returned (.bool true) ∧ Below w.heap.size w w'

set_option maxRecDepth 100000 in
set_option maxHeartbeats 2000000 in
theorem awake_any (w : World) : Calls Try.prog 10 #[] w (True_ w) := by
  have hr := reads_new w #[.int .i64 1] 3 1 1 rfl
  have hs1 : (w.alloc (.cells #[.int .i64 1] 3)).heap.size = w.heap.size + 1 := by simp
  rw [← hs1] at hr
  have HR := Lib.hid hr
  clear hr hs1
  have hbf : Below w.heap.size w (w.alloc (.cells #[.int .i64 1] 3)) := (Below.refl _ _).alloc (Nat.le_refl _) _
  have HBF := Lib.hid hbf
  clear hbf
  go_enter Try.func10, Try.ntmps10
  go_wp2_with fail
  refine (new_any 2 1 (some ⟨w.heap.size, 0, none⟩) 1 1 [1] _ (by omega) HR.out (by decide)).mono ?_
  rintro e w1 hN
  have hN0 : errNew 2 1 [1] = 0 := by decide
  rcases hN with ⟨h0, _⟩ | ⟨_, hb1, g, bl, bw, rfl, h2, h3, h4, h5, h6, h7, h8⟩
  · exact absurd hN0 h0
  simp only [World.size_alloc] at h2 h3 h4
  have hl1 := start_at (base := w.heap.size) (by omega) (by omega) (by omega) h5 h6 h7 h8
  have hbel : Below w.heap.size w w1 := HBF.out.trans (hb1.mono (by simp))
  have HL1 := Lib.hid hl1
  have HB1 := Lib.hid hbel
  clear h2 h3 h4 h5 h6 h7 h8 hl1 hbel hb1 hN0 HR HBF
  go_wp2_with fail
  have hl2 := HL1.out.below ((Below.refl w1.heap.size w1).alloc (Nat.le_refl _) (.cells #[.int .u8 1, .int .u8 2, .int .u8 3, .int .u8 4, .int .u8 5] 5))
  refine (send_any g bl bw w.heap.size (w1.heap.size + 1) (.slice none 0 0) (fun _ => none) _ _ (some ⟨w1.heap.size, 0, none⟩) 5 5 [1, 2, 3, 4, 5] hl2 (by decide) (reads_new w1 _ 5 5 1 rfl)).mono ?_
  rintro e w2 ⟨rfl, wv2, hl3, ho3⟩
  have hb2 : Below w.heap.size w w2 := (HB1.out.alloc HB1.out.size _).trans (ho3.below (by have := HB1.out.size; simp; omega) (fun k hk => by
    have hg1 := HL1.out.g1
    rintro (e | e)
    · omega
    · simp [Value.ownBlock] at e))
  have HL3 := Lib.hid hl3
  have HB2 := Lib.hid hb2
  clear hl2 hl3 ho3 hb2 HL1 HB1
  go_wp2_with fail
  have hin0 : InAt (w2.alloc (.cells #[.map none, .int .i64 0] 48)) w.heap.size w2.heap.size none (fun _ => none) ⟨[], 0⟩ :=
    ⟨HB2.out.size, Blk.new _ _ _, .inl ⟨rfl, rfl⟩, fun _ => ⟨(fun p hp => by cases hp), fun _ => rfl⟩⟩
  have hbo0 : Both (w2.alloc (.cells #[.map none, .int .i64 0] 48)) w.heap.size g bl bw w2.heap.size none demo ⟨[], 0⟩ :=
    ⟨⟨_, _, HL3.out.below ((Below.refl _ _).alloc (Nat.le_refl _) _)⟩, ⟨_, hin0⟩, by simp, by simp⟩
  have HBO0 := Lib.hid hbo0
  have HBB0 := Lib.hid (HB2.out.alloc HB2.out.size (.cells #[.map none, .int .i64 0] 48))
  clear hin0 hbo0 HL3 HB2
  generalize w2.heap.size = gi at *
  go_loopw [4, 23] (fun m i wr => ∃ k : Nat, k ≤ 4 ∧ i = .int .i64 k ∧ ∃ ob mm, m = .int .i64 mm ∧ 0 ≤ mm ∧ mm ≤ k ∧ Hid (mm = (demoR k).2.2) ∧ Hid (Both wr w.heap.size g bl bw gi ob (demoR k).1 (demoR k).2.1) ∧ Hid (Below w.heap.size w wr))
    (fun _ i _ => 4 - (intOf i).toNat)
  case atStart => exact ⟨0, by omega, rfl, none, 0, rfl, by omega, by omega, rfl, HBO0.out, HBB0.out⟩
  case round =>
    obtain ⟨k, hk, rfl, ob, mm, rfl, hm1, hm2, HM, HBo, HBe⟩ := hrel
    clear HBO0 HBB0
    by_cases hlt : k < 4
    · have hR : RInv (demoR k).1 (demoR k).2.1 ∧ (demoR k).2.1.took.length ≤ 0 + k ∧ (demoR k).1.now = 0 + k := rounds_rinv (m := 0) (start_rinv (rate := 2) (delay := 1) (lost := [1]) (by decide) [1, 2, 3, 4, 5] (by decide)) k (by show (0 : Int) + k ≤ _; omega)
      obtain ⟨hri, hrl, hrn⟩ := hR
      have HRI := Lib.hid hri
      have HRL := Lib.hid hrl
      have HRN := Lib.hid hrn
      clear hri hrl hrn
      go_wp2_with fail
      obtain ⟨wv, fw, hline⟩ := HBo.out.line
      refine (tick_any g bl bw w.heap.size wv fw (demoR k).1 wr hline HRI.out.ok).mono ?_
      intro e w3 hp
      obtain ⟨v, rfl, hbo3, hout, hon⟩ := both_tick HBo.out hp
      have hbe3 : Below w.heap.size w w3 := HBe.out.trans (hon.below HBe.out.size fun k hk => by
        have := hline.g1; have := hline.bw1; omega)
      have HBo3 := Lib.hid hbo3
      have HBe3 := Lib.hid hbe3
      clear hbo3 hbe3 hon hp hline HBo HBe
      rcases hout with ⟨hl, rfl⟩ | ⟨p, hl, hP⟩
      · have HO := Lib.hid hl
        clear hl
        go_wp2_with fail
        refine wp_loop_once ?_
        go_wp2_with fail
        go_roundw
        case rel =>
          refine ⟨k + 1, by omega, by go_num, ob, mm, rfl, hm1, by omega, ?_, ?_, HBe3.out⟩
          · show mm = (demoR k).2.2 + ((demoR k).1.out.length : Int)
            rw [HO.out, HM.out]; simp
          · show Both w3 _ g bl bw gi ob (demoR k).1.tick (takes (demoR k).2.1 (demoR k).1.out)
            rw [HO.out]
            exact HBo3.out
        case measure => simp [intOf]; omega
      · have HO := Lib.hid hl
        obtain ⟨pg, pc, A, dc, rfl, q0, q1, hod, cs, hbp⟩ := hP.cells
        clear hl hP
        go_wp2_with fail
        refine wp_loop_rounds 2 ?_
        rw [rounds_succ]
        go_wp2_with fail
        obtain ⟨p', hp', e'⟩ : ∃ p' ∈ (demoR k).1.put.way, p' = p := by
          rcases out_one HRI.out.ok with e | ⟨q, hq, _, e⟩
          · rw [HO.out] at e; cases e
          · rw [HO.out] at e; injection e with e; exact ⟨q, hq, e.symm⟩
        subst e'
        have hseq := (tick_seqs HRI.out).1 p' hp'
        have hseq2 := (tick_seqs HRI.out).2
        have hdat := put_data HRI.out.ok HRI.out.narrow.1 (fun _ => pk_len HRI.out.ok) p' hp'
        have hnow2 := HRI.out.ok.now2
        refine (take_box HBo3.out ((Below.refl _ _).alloc (Nat.le_refl _) _) hod (by omega) (by omega) hdat (by have := HRL.out; simp at this; omega)).mono ?_
        rintro e w5 ⟨rfl, ob5, hbo5, hbe5⟩
        have HBo5 := Lib.hid hbo5
        have HBe5 := Lib.hid ((HBe3.out.alloc HBe3.out.size _).trans hbe5)
        clear hbo5 hbe5 hseq hseq2 hdat hnow2 q0 q1 hod hbp hp'
        go_wp2_with fail
        rw [rounds_succ]
        go_wp2_with fail
        go_roundw
        case rel =>
          refine ⟨k + 1, by omega, by go_num, ob5, mm + 1, rfl, by omega, by omega, ?_, ?_, HBe5.out⟩
          · show mm + 1 = (demoR k).2.2 + ((demoR k).1.out.length : Int)
            rw [HO.out, HM.out]; simp
          · show Both w5 _ g bl bw gi ob5 (demoR k).1.tick (takes (demoR k).2.1 (demoR k).1.out)
            rw [HO.out]
            exact HBo5.out
        case measure => simp [intOf]; omega
    · obtain rfl : k = 4 := by omega
      obtain ⟨d1, d2, d3, d4, d5⟩ := demo4
      have hR : RInv (demoR 4).1 (demoR 4).2.1 ∧ (demoR 4).2.1.took.length ≤ 0 + 4 ∧ (demoR 4).1.now = 0 + 4 := rounds_rinv (m := 0) (start_rinv (rate := 2) (delay := 1) (lost := [1]) (by decide) [1, 2, 3, 4, 5] (by decide)) 4 (by decide)
      obtain ⟨hri, hrl, hrn⟩ := hR
      obtain rfl : mm = 2 := HM.out.trans d1
      have HRI := Lib.hid hri
      have HRL := Lib.hid hrl
      have D4 := Lib.hid d4
      have D5 := Lib.hid d5
      have D2 := Lib.hid d2
      have D3 := Lib.hid d3
      clear hri hrl hrn HM d1 d2 d3 d4 d5
      obtain ⟨fm, hi⟩ := HBo.out.inbox
      have hF := front_any gi w.heap.size ob fm (demoR 4).2.1 wr hi (by have := HRL.out; omega) (fun p hp => by have := HRI.out.narrow.2 p hp; omega)
      rw [D2.out] at hF
      have HFr := Lib.hid hF
      clear hF hi
      go_wp2_with fail
      refine HFr.out.mono ?_
      rintro e w6 ⟨A6, c6, rfl, ho6, hb6⟩
      have hbo6 := HBo.out.below hb6
      obtain ⟨fm6, hi6⟩ := hbo6.inbox
      have hG := gaps_any gi w.heap.size ob fm6 (demoR 4).2.1 w6 hi6 (by have := HRI.out.last; omega)
      rw [D3.out] at hG
      have HG := Lib.hid hG
      have HO6 := Lib.hid ho6
      have HBo6 := Lib.hid hbo6
      have HB6 := Lib.hid (HBe.out.trans (hb6.mono HBe.out.size))
      clear hG hi6 hbo6 hb6 ho6 HFr HBo HBe
      go_wp2_with fail
      refine HG.out.mono ?_
      rintro e w7 ⟨A7, c7, rfl, ho7, hb7⟩
      have hbo7 := HBo6.out.below hb7
      obtain ⟨⟨wv7, fw7, hl7⟩, _, _, _⟩ := hbo7
      obtain ⟨g6, cap6, hv6, _, hlt6⟩ := HO6.out.form (by decide)
      obtain ⟨g7, cap7, hv7, _, hlt7⟩ := ho7.form (by decide)
      have hA6 : A6 = some ⟨g6, 0, none⟩ := by injection hv6
      have hA7 : A7 = some ⟨g7, 0, none⟩ := by injection hv7
      have q6 := (hb7.cell (p := ⟨g6, 1, none⟩) hlt6).trans (HO6.out.cells (g := g6) (by rw [hv6]; rfl) 1 (.int .u8 2) rfl)
      have q7 : w7.cell? ⟨g7, 0, none⟩ = some (.int .i64 1) := ho7.cells (g := g7) (by rw [hv7]; rfl) 0 (.int .i64 1) rfl
      subst hA6 hA7
      have hidle := idle_any g bl bw w.heap.size wv7 fw7 (demoR 4).1 w7 hl7 (by have := HRI.out.ok.wait; omega) (by have := HRI.out.ok.short; omega)
      have hnow := now_any g bl bw w.heap.size wv7 fw7 (demoR 4).1 w7 hl7
      rw [D4.out] at hidle
      rw [D5.out] at hnow
      have HI := Lib.hid hidle
      have HN := Lib.hid hnow
      have HB7 := Lib.hid (HB6.out.trans (hb7.mono HB6.out.size))
      clear hl7 hv6 hv7 hidle hnow hb7 ho7 HG HO6 HBo6 HB6 hlt6 hlt7
      go_wp2_with fail
      refine HI.out.mono ?_
      rintro e w' ⟨rfl, rfl⟩
      go_wp2_with fail
      refine HN.out.mono ?_
      rintro e w' ⟨rfl, rfl⟩
      go_wp2_with fail
      go_ret
      exact ⟨rfl, HB7.out⟩
end Go.Proofs.Ytieoeednfgpoiaa
