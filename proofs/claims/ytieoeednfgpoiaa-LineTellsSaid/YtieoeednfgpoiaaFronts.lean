/- LineFronts, walked whole. No condition. -/
import Derived.Test.YtieoeednfgpoiaaOpen2
import Derived.Test.YtieoeednfgpoiaaCome
import Derived.Test.YtieoeednfgpoiaaSend2
import Derived.Test.YtieoeednfgpoiaaStr
import Derived.Deep.QuietTactic
import Derived.BigQuiet
import Derived.Deep.LoopGhost
import Derived.Deep.CutBlock
namespace Go.Proofs.Ytieoeednfgpoiaa
open Go.RowKit

theorem RowsAt.more_ {w : World} {B B' : Nat} {A : Option Addr} {n : Nat} {bs : List (List UInt8)} (h : RowsAt w B A n bs) (hB : B ≤ B') : RowsAt w B' A n bs :=
  ⟨h.1, fun hn => by
    obtain ⟨ad, e, hb, hc⟩ := h.2 hn
    refine ⟨ad, e, by omega, fun k b hkb => ?_⟩
    obtain ⟨A', c, h0, h1, h2⟩ := hc k b hkb
    exact ⟨A', c, h0, h1, h2.more hB⟩⟩

theorem OutIs.form {w : World} {base : Nat} {v : Value} {l : List Pk} (h : OutIs w base v l) : ∃ A c, v = .slice A l.length c := by
  rcases h with ⟨rfl, rfl⟩ | ⟨p, rfl, hP⟩
  · exact ⟨none, 0, rfl⟩
  · obtain ⟨dv, h1, _⟩ := hP
    obtain ⟨A, c, rfl, _⟩ := own_form h1
    exact ⟨A, c, rfl⟩
theorem outK_len (r d : Nat) (lost : List Int) (b : List UInt8) (k : Nat) : (outK r d lost b k).length = 0 ∨ (outK r d lost b k).length = 1 := by
  unfold outK
  split
  · exact .inr rfl
  · exact .inl rfl

theorem Both.drewN {w : World} {base g bl bw gi : Nat} {ob : Option Nat} {s : LS} {t : IS} (h : Both w base g bl bw gi ob s t) (n : Nat) : Both (w.drewN n) base g bl bw gi ob s t := by
  obtain ⟨wv, fw, hl⟩ := h.line
  obtain ⟨fm, hi⟩ := h.inbox
  exact ⟨⟨wv, fw, hl.drewN n⟩, ⟨fm, hi.drewN n⟩, h.3, h.4⟩
theorem below_drewN {B : Nat} {a w : World} (h : Below B a w) (n : Nat) : Below B a (w.drewN n) := h.trans ⟨rfl, rfl, rfl, Nat.le_refl _, fun _ _ => rfl⟩

set_option maxRecDepth 100000 in
set_option maxHeartbeats 4000000 in
theorem fronts_great (rate delay : Int) (A A2 : Option Addr) (n c n2 c2 : Nat) (lost : List Int) (bs : List (List UInt8)) (w : World) (hp : PlanIn w lost A n) (hr : RowsAt w w.heap.size A2 n2 bs)
    (hn : n ≤ 9223372036854775807) (hn2 : n2 ≤ 9223372036854775807) (hbl : ∀ b ∈ bs, b.length ≤ 9223372036854775807) (hg : greatB bs n = true ∨ 30 < delay) :
    Calls Try.prog 4 #[.agg #[.int .i64 rate, .int .i64 delay, .slice A n c], .slice A2 n2 c2] w (True_ w) := by
  have HP := Lib.hid hp
  have HR := Lib.hid hr
  have HBL := Lib.hid hbl
  clear hp hr hbl
  go_enter Try.func4, Try.ntmps4
  go_wp2_with fail
  refine (awake_any _).mono ?_
  rintro e w2 ⟨rfl, hb⟩
  have b2 := (Blk.new w 24 #[.int .i64 rate, .int .i64 delay, .slice A n c]).below hb (by simp)
  have hbe : Below w.heap.size w w2 := ((Below.refl _ _).alloc (Nat.le_refl _) (.cells #[.int .i64 rate, .int .i64 delay, .slice A n c] 24)).trans (hb.mono (by simp))
  have c1 := b2.cell 1
  have c2' := b2.cell 2
  simp at c1 c2'
  have HB := Lib.hid hbe
  clear hb b2 hbe
  go_wp2_with fail
  refine (great_any A2 A n2 c2 n c w.heap.size bs w2 (HR.out.below HB.out) hn2 hn HBL.out).mono ?_
  rintro e w' ⟨rfl, rfl⟩
  cases hgb : greatB bs n with
  | true =>
    clear hg hgb
    go_wp2_with fail
    refine (awake_any _).mono ?_
    rintro e w3 ⟨rfl, hb⟩
    go_wp2_with fail
    go_ret
    exact ⟨rfl, HB.out.trans (hb.mono HB.out.size)⟩
  | false =>
    have hd : 30 < delay := by
      rcases hg with h | h
      · rw [hgb] at h; cases h
      · exact h
    clear hg hgb
    go_wp2_with fail
    refine (awake_any _).mono ?_
    rintro e w3 ⟨rfl, hb⟩
    go_wp2_with fail
    go_ret
    exact ⟨rfl, HB.out.trans (hb.mono HB.out.size)⟩

theorem great_no {bs : List (List UInt8)} {l : Nat} (h : greatB bs l = false) : bs.length ≤ 30 ∧ l ≤ 30 ∧ ∀ b ∈ bs, b.length ≤ 120 := by
  unfold greatB at h
  simp at h
  exact ⟨h.1.1, h.1.2, h.2⟩

set_option maxRecDepth 100000 in
set_option maxHeartbeats 4000000 in
theorem fronts_bad (rate delay : Int) (A A2 : Option Addr) (n c n2 c2 : Nat) (lost : List Int) (bs : List (List UInt8)) (w : World) (hp : PlanIn w lost A n) (hr : RowsAt w w.heap.size A2 n2 bs)
    (hg : greatB bs n = false) (hd : delay ≤ 30) (he : errNew rate delay lost ≠ 0) :
    Calls Try.prog 4 #[.agg #[.int .i64 rate, .int .i64 delay, .slice A n c], .slice A2 n2 c2] w (True_ w) := by
  obtain ⟨g1, g2, g3⟩ := great_no hg
  have hn2 : n2 ≤ 30 := by have := hr.1; omega
  have HP := Lib.hid hp
  have HR := Lib.hid hr
  have HBL := Lib.hid g3
  have HG := Lib.hid hg
  have HE := Lib.hid he
  clear hp hr g3 hg he
  go_enter Try.func4, Try.ntmps4
  go_wp2_with fail
  refine (awake_any _).mono ?_
  rintro e w2 ⟨rfl, hb⟩
  have b2 := (Blk.new w 24 #[.int .i64 rate, .int .i64 delay, .slice A n c]).below hb (by simp)
  have hbe : Below w.heap.size w w2 := ((Below.refl _ _).alloc (Nat.le_refl _) (.cells #[.int .i64 rate, .int .i64 delay, .slice A n c] 24)).trans (hb.mono (by simp))
  have c0 := b2.cell 0
  have c1 := b2.cell 1
  have c2' := b2.cell 2
  simp at c0 c1 c2'
  have HB := Lib.hid hbe
  clear hb b2 hbe
  go_wp2_with fail
  have hgr := great_any A2 A n2 c2 n c w.heap.size bs w2 (HR.out.below HB.out) (by omega) (by omega) (fun b hb => by have := HBL.out b hb; omega)
  rw [HG.out] at hgr
  refine hgr.mono ?_
  rintro e w' ⟨rfl, rfl⟩
  clear hgr
  go_wp2_with fail
  refine (new_any rate delay A n c lost w2 (by omega) ((HP.out.reads.below HB.out).more HB.out.size) HP.out.wf).mono ?_
  rintro e w3 hN
  rcases hN with ⟨h0, rfl, hb3⟩ | ⟨h0, _⟩
  · have hne : (errNew rate delay lost == 0) = false := by rw [beq_eq_false_iff_ne]; exact h0
    clear h0
    go_wp2_with fail
    go_ret
    exact ⟨rfl, HB.out.trans (hb3.mono HB.out.size)⟩
  · exact absurd h0 HE.out

set_option maxRecDepth 100000 in
set_option maxHeartbeats 4000000 in
theorem fronts_main (r d : Nat) (A A2 : Option Addr) (n c n2 c2 : Nat) (lost : List Int) (bs : List (List UInt8)) (w : World) (hp : PlanIn w lost A n) (hr : RowsAt w w.heap.size A2 n2 bs)
    (hg : greatB bs n = false) (hd : d ≤ 30) (he : errNew r d lost = 0) :
    Calls Try.prog 4 #[.agg #[.int .i64 r, .int .i64 d, .slice A n c], .slice A2 n2 c2] w (True_ w) := by
  obtain ⟨g1, g2, g3⟩ := great_no hg
  have hn2 : n2 ≤ 30 := by have := hr.1; omega
  have hok := start_ok he
  have hr1 : 1 ≤ r := by have := hok.rate1; have e : (LS.start r d lost).rate = r := rfl; omega
  have hr2 : r ≤ 65536 := by have := hok.rate2; have e : (LS.start r d lost).rate = r := rfl; omega
  have HP := Lib.hid hp
  have HR := Lib.hid hr
  have HBL := Lib.hid g3
  have HG := Lib.hid hg
  have HE := Lib.hid he
  have hd' : (d : Int) ≤ 30 := by omega
  clear hp hr g3 hg he hok
  go_enter Try.func4, Try.ntmps4
  go_wp2_with fail
  refine (awake_any _).mono ?_
  rintro e w2 ⟨rfl, hb⟩
  have b2 := (Blk.new w 24 #[.int .i64 r, .int .i64 d, .slice A n c]).below hb (by simp)
  have hbe : Below w.heap.size w w2 := ((Below.refl _ _).alloc (Nat.le_refl _) (.cells #[.int .i64 r, .int .i64 d, .slice A n c] 24)).trans (hb.mono (by simp))
  have c0 := b2.cell 0
  have c1 := b2.cell 1
  have c2' := b2.cell 2
  simp at c0 c1 c2'
  have HB := Lib.hid hbe
  have B2 := Lib.hid b2
  have hwz := b2.lt
  clear hb b2 hbe
  go_wp2_with fail
  have hgr := great_any A2 A n2 c2 n c w.heap.size bs w2 (HR.out.below HB.out) (by omega) (by omega) (fun b hb => by have := HBL.out b hb; omega)
  rw [HG.out] at hgr
  refine hgr.mono ?_
  rintro e w' ⟨rfl, rfl⟩
  clear hgr
  go_wp2_with fail
  refine (new_any r d A n c lost w2 (by omega) ((HP.out.reads.below HB.out).more HB.out.size) HP.out.wf).mono ?_
  rintro e w3 hN
  rcases hN with ⟨h0, _⟩ | ⟨_, hb3, g, bl, bw, rfl, h2, h3, h4, h5, h6, h7, h8⟩
  · exact absurd HE.out h0
  have hl3 := start_at (base := w2.heap.size) h2 h3 h4 h5 h6 h7 h8
  have hin0 : InAt (w3.alloc (.cells #[.map none, .int .i64 0] 48)) w2.heap.size w3.heap.size none (fun _ => none) ⟨[], 0⟩ :=
    ⟨hb3.size, Blk.new _ _ _, .inl ⟨rfl, rfl⟩, fun _ => ⟨(fun p hp => by cases hp), fun _ => rfl⟩⟩
  have HL3 := Lib.hid (hl3.below ((Below.refl w3.heap.size w3).alloc (Nat.le_refl _) (.cells #[.map none, .int .i64 0] 48)))
  have HI3 := Lib.hid hin0
  have HB3 := Lib.hid (hb3.alloc hb3.size (.cells #[.map none, .int .i64 0] 48))
  have HRW := Lib.hid (HR.out.below HB.out)
  clear h2 h3 h4 h5 h6 h7 h8 hl3 hin0 hb3 c0 c1 c2' hd'
  go_wp2_with fail
  generalize w3.heap.size = gi at *
  generalize w3.alloc (.cells #[.map none, .int .i64 0] 48) = w4 at *
  refine (whole_any A2 n2 c2 bs w4 (hr := (HRW.out.below (HB3.out.mono HB.out.size)).more_ (Nat.le_trans HB.out.size HB3.out.size)) hn2 HBL.out).mono ?_
  rintro e w5 ⟨Aw, cw, hcw, rfl, how, hb5⟩
  have HCW := Lib.hid hcw
  have HOW := Lib.hid how
  have HL5 := Lib.hid (HL3.out.below hb5)
  have HI5 := Lib.hid (HI3.out.below hb5)
  have HB5 := Lib.hid (HB3.out.trans (hb5.mono HB3.out.size))
  have HZ4 := Lib.hid hb5.size
  have HL4 := Lib.hid HL3.out.blk.lt
  clear hcw how hb5 HI3
  obtain ⟨all, hall⟩ : ∃ all, all = bs.flatten.length := ⟨_, rfl⟩
  rw [← hall] at HOW HCW ⊢
  have HALL := Lib.hid hall
  clear hall
  go_wp2_with fail
  have hfl : ∀ k, k ≤ n2 → (bs.take k).flatten.length ≤ k * 120 := by
    intro k hk
    rw [List.length_flatten]
    have h1 : ∀ l : List (List UInt8), (∀ b ∈ l, b.length ≤ 120) → (l.map List.length).sum ≤ l.length * 120 := by
      intro l
      induction l with
      | nil => intro _; simp
      | cons b l ih =>
        intro hb
        have := ih fun b' hb' => hb b' (by simp [hb'])
        have := hb b (by simp)
        simp only [List.map_cons, List.sum_cons, List.length_cons]
        omega
    have h2 := h1 (bs.take k) fun b hb => HBL.out b (List.mem_of_mem_take hb)
    have h3 : (bs.take k).length ≤ k := List.length_take_le _ _
    omega
  have HFL := Lib.hid hfl
  clear hfl
  go_loopw [39] (fun i wr => ∃ k : Nat, k ≤ n2 ∧ i = .int .i64 k ∧ Hid (∃ wv, LineAt wr w2.heap.size g bl bw wv (fun _ => none) ((LS.start r d lost).send (bs.take k).flatten) ∧ ∀ j, wv.ownBlock = some j → (Value.slice Aw all cw).ownBlock ≠ some j) ∧
      Hid (InAt wr w2.heap.size gi none (fun _ => none) ⟨[], 0⟩) ∧ Hid (wr.ownsRow w4.heap.size 5 1 (.slice Aw all cw) all (B8 bs.flatten)) ∧ Hid (Below w2.heap.size w2 wr)) (fun i _ => n2 - (intOf i).toNat)
  case atStart =>
    refine ⟨0, by omega, rfl, ⟨.slice none 0 0, ?_, fun j hj => by simp [Value.ownBlock] at hj⟩, HI5.out, ?_, HB5.out⟩
    · exact HL5.out
    · rw [HALL.out]; rw [← HALL.out]; exact HOW.out
  case round =>
    obtain ⟨k, hk, rfl, HLk, HIk, HOk, HBk⟩ := hrel
    clear HL5 HI5 HOW HB5 HL3 HB3
    by_cases hlt : k < n2
    · obtain ⟨wv, hlk, hne⟩ := HLk.out
      obtain ⟨ad, b, A', c', rfl, hbk, _, hc, hrd⟩ := (HRW.out.below (HBk.out.mono HB.out.size)).at_ hlt
      have hlen : (bs.take (k + 1)).flatten = (bs.take k).flatten ++ b := flat_succ bs k b hbk
      have hfk := HFL.out (k + 1) hlt
      rw [hlen, List.length_append] at hfk
      have hw0 : ((LS.start r d lost).send (bs.take k).flatten).wait.length = (bs.take k).flatten.length := by show ([] ++ _).length = _; simp
      have hs := send_any2 g bl bw w2.heap.size w.heap.size wv _ _ wr A' b.length c' b hlk (by rw [hw0]; omega) hrd
      have HS := Lib.hid hs
      have HLEN := Lib.hid hlen
      have HNE := Lib.hid hne
      have HLK := Lib.hid hlk
      clear hbk hrd hlen hfk hw0 hs hne hlk HLk
      go_wp2_with fail
      refine HS.out.mono ?_
      rintro e w6 ⟨rfl, wv6, hl6, ho6, hat6⟩
      have hsd : (((LS.start r d lost).send (bs.take k).flatten).send b) = (LS.start r d lost).send (bs.take (k + 1)).flatten := by
        rw [HLEN.out]; unfold LS.send LS.start; simp
      rw [hsd] at hl6
      have hgi : ¬ (gi = g ∨ wv.ownBlock = some gi) := by
        rintro (e | e)
        · exact Blk.ne_ HIk.out.blk HLK.out.blk (by decide) e
        · obtain ⟨cs, hb⟩ := own_blk HLK.out.wait e
          exact Blk.ne_ hb HIk.out.blk (by decide) rfl
      have hi6 : InAt w6 w2.heap.size gi none (fun _ => none) ⟨[], 0⟩ :=
        ⟨HIk.out.g1, HIk.out.blk.only ho6 hgi, .inl ⟨rfl, rfl⟩, fun _ => ⟨(fun p hp => by cases hp), fun _ => rfl⟩⟩
      have hw6 : w6.ownsRow w4.heap.size 5 1 (.slice Aw all cw) all (B8 bs.flatten) := own_same HOk.out fun j hj => by
        obtain ⟨cs, hb⟩ := own_blk HOk.out hj
        refine ho6.block j hb.lt ?_
        rintro (e | e)
        · exact Blk.ne_ hb HLK.out.blk (by decide) e
        · exact HNE.out j e hj
      have hne6 : ∀ j, wv6.ownBlock = some j → (Value.slice Aw all cw).ownBlock ≠ some j := by
        intro j hj
        rcases hat6 with e | e
        · rw [e] at hj; exact HNE.out j hj
        · rw [e] at hj
          intro h'
          have := (HOk.out.lt j h').2
          injection hj with hj
          omega
      have hb6 : Below w2.heap.size w2 w6 := HBk.out.trans (ho6.below HBk.out.size fun j hj => by
        rintro (e | e)
        · have := HLK.out.g1; omega
        · have := (HLK.out.wait.lt j e).1; omega)
      have X1 := Lib.hid hl6
      have X2 := Lib.hid hi6
      have X3 := Lib.hid hw6
      have X4 := Lib.hid hne6
      have X5 := Lib.hid hb6
      clear hl6 hi6 hw6 hne6 hb6 hgi hsd ho6 hat6
      go_wp2_with fail
      go_roundw
      case rel => exact ⟨k + 1, by omega, by go_num, ⟨wv6, X1.out, X4.out⟩, X2.out, X3.out, X5.out⟩
      case measure => simp [intOf]; omega
    · obtain rfl : k = n2 := by omega
      have et : bs.take k = bs := List.take_of_length_le (by rw [HR.out.1]; exact Nat.le_refl _)
      have hb36 : all ≤ 3600 := by have := HFL.out k (Nat.le_refl _); rw [et] at this; have := HALL.out; omega
      have hbo : Both wr w2.heap.size g bl bw gi none (SK r d lost bs.flatten 0) (TK r d lost bs.flatten (come r d bs.flatten 0)) := by
        obtain ⟨wv, hl, _⟩ := HLk.out
        rw [et] at hl
        have ec : come r d bs.flatten 0 = 0 := by unfold come; omega
        rw [SK_zero, ec, TK_start]
        exact ⟨⟨wv, _, hl⟩, ⟨_, HIk.out⟩, by simp, by simp⟩
      have HBO := Lib.hid hbo
      have hal2 : bs.flatten.length = all := HALL.out.symm
      have HAL2 := Lib.hid hal2
      have HRE := Lib.hid HR.out.1
      clear et hbo HLk HIk hal2 HRW HFL HR HBL hlt
      generalize bs.flatten = b at *
      go_wp2_with fail
      have hW : many r b ≤ 3600 := (many_le hr1 b 3600).2 (by have := HAL2.out; have := Nat.mul_le_mul_left 3600 hr1; omega)
      obtain ⟨wo, hwo⟩ : ∃ wo : World, wo = wr := ⟨_, rfl⟩
      go_loopg [10, 13] (many r b + d) (fun gk m v wr => ∃ k : Nat, gk + k = many r b + d ∧ m = .int .i64 k ∧ Hid (∃ ob, Both wr w2.heap.size g bl bw gi ob (SK r d lost b k) (TK r d lost b (come r d b k))) ∧ Hid (wr.ownsRow w4.heap.size 5 1 (.slice Aw all cw) all (B8 b)) ∧ Hid (Below w2.heap.size w2 wr))
      case atStart => exact ⟨0, by omega, rfl, ⟨_, HBO.out⟩, HOk.out, HBk.out⟩
      case round =>
        obtain ⟨k2, hgk, rfl, HBo, HOw, HBe⟩ := hrel
        clear HBO HOk HBk
        have hok := SK_ok HE.out b (by have := HAL2.out; omega) hr1 k2 (by omega)
        obtain ⟨ob, hbo⟩ := HBo.out
        obtain ⟨wv, fw, hli⟩ := hbo.line
        have hidle := idle_any g bl bw _ wv fw _ wr hli (by have := hok.wait; omega) (by have := hok.short; omega)
        cases hib : idleB (SK r d lost b k2) with
        | true =>
          rw [hib] at hidle
          have HI := Lib.hid hidle
          have b7 : Blk wr w.heap.size 24 #[.int .i64 r, .int .i64 d, .slice A n c] := B2.out.below HBe.out hwz
          have c2' := b7.cell 2
          simp at c2'
          obtain ⟨fm7, hi7⟩ := hbo.inbox
          have hcm : come r d b k2 ≤ 3600 := by unfold come; omega
          have HBO7 := Lib.hid hbo
          rcases Nat.eq_zero_or_pos n with hn0 | hn0
          · have hl0 : lost = [] := List.length_eq_zero_iff.1 (by rw [HP.out.len, hn0])
            rw [hl0] at hib hi7
            have hdn := SK_done r d b k2 hr1 hib
            have hcm2 : come r d b k2 = many r b := by unfold come; omega
            rw [hcm2] at hi7
            have hfr := front_any gi _ ob fm7 _ wr hi7 (Nat.le_trans (TK_len _ _ _ _ _) (by omega)) (fun p hp => by have := TK_data _ _ _ _ _ p hp; omega)
            rw [TK_front, firstLost_nil, List.take_of_length_le ((many_le hr1 b _).1 (Nat.le_refl _))] at hfr
            have HI := Lib.hid hidle
            have HF := Lib.hid hfr
            have HI7 := Lib.hid hi7
            clear hidle hok hbo HBo HOw hli b7 hi7 hdn hfr hib hcm2 hl0 HBO7
            subst hn0
            go_wp2_with fail
            refine HI.out.mono ?_
            rintro e w' ⟨rfl, rfl⟩
            have i6 : ((b.length : Int) == (all : Int)) = true := by rw [HAL2.out]; exact beq_self_eq_true _
            go_wp2_with fail
            refine HF.out.mono ?_
            rintro e w8 ⟨Af, cf, rfl, hof, hb8⟩
            have hga := gaps_any gi _ ob fm7 _ w8 (HI7.out.below hb8) (by have := (TK_last r d [] b (many r b)).2; omega)
            rw [TK_gaps_nil] at hga
            have HGA := Lib.hid hga
            have HB8 := Lib.hid hb8
            clear hga hof hb8 HI7 HF HI
            go_wp2_with fail
            refine HGA.out.mono ?_
            rintro e w9 ⟨Ag, cg, rfl, hog, hb9⟩
            have HB9 := Lib.hid ((HBe.out.trans (HB8.out.mono HBe.out.size)).trans (hb9.mono (Nat.le_trans HBe.out.size HB8.out.size)))
            clear hog hb9
            go_wp2_with fail
            go_ret
            exact ⟨rfl, HB.out.trans (HB9.out.mono HB.out.size)⟩
          · have HI := Lib.hid hidle
            have i5 : decide ((0 : Int) < (n : Int)) = true := decide_eq_true (by omega)
            clear hidle hok hbo HBo HOw hli b7 hi7 HBO7
            go_wp2_with fail
            refine HI.out.mono ?_
            rintro e w' ⟨rfl, rfl⟩
            go_wp2_with fail
            go_ret
            exact ⟨rfl, HB.out.trans (HBe.out.mono HB.out.size)⟩
        | false =>
          rw [hib] at hidle
          have HI := Lib.hid hidle
          have hlt := SK_idle r d lost b k2 hr1 hib
          have HS := Lib.hid (SK_tick r d lost b k2 hr1)
          have HT := Lib.hid (tick_any g bl bw _ wv fw _ wr hli hok)
          have HLI := Lib.hid hli
          have HBO := Lib.hid hbo
          clear hidle hok hli hib hbo
          go_wp2_with fail
          refine HI.out.mono ?_
          rintro e w' ⟨rfl, rfl⟩
          go_wp2_with fail
          refine HT.out.mono ?_
          rintro e w6 hp
          obtain ⟨v6, rfl, hb6, ho6, hon6⟩ := both_tick HBO.out hp
          rw [HS.out.1] at hb6
          rw [HS.out.2] at ho6
          have hw6 := (tick_bytes HLI.out hon6).own HOw.out
          have hbe6 : Below w2.heap.size w2 w6 := HBe.out.trans (hon6.below HBe.out.size fun j hj => by
            have := HLI.out.g1
            have := HLI.out.bw1
            rintro (e | e) <;> omega)
          have hst := TK_step r d lost b k2
          have X1 := Lib.hid hb6
          have X2 := Lib.hid hw6
          have X3 := Lib.hid hbe6
          have X4 := Lib.hid hst
          clear hb6 hw6 hbe6 hst hon6 hp HT HI HBo HOw HBe HLI HBO
          obtain ⟨A6, c6, rfl⟩ := ho6.form
          obtain ⟨n6, hn6⟩ : ∃ n6, n6 = (outK r d lost b k2).length := ⟨_, rfl⟩
          rw [← hn6] at ho6 ⊢
          have HN6 := Lib.hid hn6
          have HO6 := Lib.hid ho6
          clear hn6 ho6
          go_upto_block 4 with (fail)
          go_cut [] (fun wx => Hid (∃ ob, Both wx w2.heap.size g bl bw gi ob (SK r d lost b (k2 + 1)) (TK r d lost b (come r d b (k2 + 1)))) ∧ Hid (wx.ownsRow w4.heap.size 5 1 (.slice Aw all cw) all (B8 b)) ∧ Hid (Below w2.heap.size w2 wx))
          case first =>
            rcases HO6.out with ⟨hl, hv⟩ | ⟨p, hl, hP⟩
            · have h0 : n6 = 0 := by rw [HN6.out, hl]; rfl
              subst h0
              have HX := Lib.hid (show takes (TK r d lost b (come r d b k2)) [] = _ from hl ▸ X4.out)
              clear hl hv
              go_wp2_with fail
              refine wp_loop_once ?_
              go_wp2_with fail
              go_meet
              refine ⟨⟨ob, ?_⟩, X2.out, X3.out⟩
              rw [← HX.out]; exact X1.out
            · have h1 : n6 = 1 := by rw [HN6.out, hl]; rfl
              subst h1
              have HX := Lib.hid (show takes (TK r d lost b (come r d b k2)) [p] = _ from hl ▸ X4.out)
              obtain ⟨pg, pc, A7, dc, hv, q0, q1, hod, cs, hbp⟩ := hP.cells
              injection hv with hv1 _ hv2
              subst hv1 hv2
              have hpk : p = pkJ r d b (k2 - d) := by
                unfold outK at hl
                split at hl
                · injection hl with e; exact e.symm
                · cases hl
              have hseq : p.seq = ((k2 - d : Nat) : Int) := by rw [hpk]; rfl
              have hdat : p.data.length ≤ 65536 := by rw [hpk]; show ((b.drop ((k2 - d) * r)).take r).length ≤ _; rw [List.length_take]; omega
              have htl : (TK r d lost b (come r d b k2)).took.length ≤ 1000000 := Nat.le_trans (TK_len _ _ _ _ _) (by unfold come; omega)
              have htk := take_box2 X1.out ((Below.refl _ _).alloc (Nat.le_refl _) (.cells #[.int .i64 p.seq, .slice A7 p.data.length dc] 42)) hod (by omega) (by omega) hdat htl
              have HTK := Lib.hid htk
              clear hl hP hod hbp hpk hseq hdat htl htk
              go_wp2_with fail
              refine wp_loop_rounds 2 ?_
              rw [rounds_succ]
              go_wp2_with fail
              refine HTK.out.mono ?_
              rintro e w7 ⟨rfl, ob7, hbo7, hbe7, hby7⟩
              go_wp2_with fail
              rw [rounds_succ]
              go_wp2_with fail
              go_meet
              refine ⟨⟨ob7, ?_⟩, ?_, (X3.out.alloc X3.out.size _).trans hbe7⟩
              · rw [← HX.out]; exact hbo7
              · exact hby7.own ((Bytes.of_below ((Below.refl _ _).alloc (Nat.le_refl _) _)).own X2.out)
          case rest =>
            obtain ⟨HBo7, HOw7, HBe7⟩ := hcut
            obtain ⟨ob7, hbo7⟩ := HBo7.out
            obtain ⟨fm7, hi7⟩ := hbo7.inbox
            have hcm : come r d b (k2 + 1) ≤ 3600 := by unfold come; omega
            have hfr := front_any gi _ ob7 fm7 _ wc hi7 (Nat.le_trans (TK_len _ _ _ _ _) (by omega)) (fun p hp => by have := TK_data _ _ _ _ _ p hp; omega)
            have hpre := TK_front r d lost b (come r d b (k2 + 1))
            generalize (TK r d lost b (come r d b (k2 + 1))).front = l at *
            have hlb : b.take l.length = l := by rw [hpre, List.length_take, ← List.take_eq_take_min]
            have hll : l.length ≤ all := by have := congrArg List.length hlb; rw [List.length_take] at this; have := HAL2.out; omega
            have HFR := Lib.hid hfr
            have HLB := Lib.hid hlb
            have HBO7 := Lib.hid hbo7
            clear hfr hlb hpre hi7 hbo7 HBo7 hcm X1 X2 X3 X4 HO6 HN6
            go_wp2_with fail
            refine HFR.out.mono ?_
            rintro e w8 ⟨Af, cf, rfl, hof, hb8⟩
            have hwb8 := (Bytes.of_below hb8).own HOw7.out
            have rf := Reads.of_own hof
            have ra := (Reads.of_own hwb8).take hll
            rw [Nat.mul_one, B8_take, HLB.out] at ra
            have b8 : Blk w8 w.heap.size 24 #[.int .i64 r, .int .i64 d, .slice A n c] := (B2.out.below (HBe7.out) hwz).below hb8 (Nat.lt_of_lt_of_le hwz HBe7.out.size)
            have c1 := b8.cell 1
            simp at c1
            have q1 : ∀ n, Sem.run Try.prog (convert 35 9 (.slice Af l.length cf)) (w8.drewN n) = .ok (.string ⟨l.toArray⟩) (w8.drewN n) := fun n => run_conv_string (c := cf) (rf.drewN n)
            have q2 : ∀ n, Sem.run Try.prog (convert 35 9 (.slice Aw l.length cw)) (w8.drewN n) = .ok (.string ⟨l.toArray⟩) (w8.drewN n) := fun n => run_conv_string (c := cw) (ra.drewN n)
            have q4 := run_prefix Aw all cw l.length (Nat.le_trans hll HCW.out)
            have hmb : many r b ≤ all := (many_le hr1 b all).2 (by have := HAL2.out; have := Nat.mul_le_mul_left all hr1; omega)
            have i1 : (k2 : Int) ≤ (all : Int) + (d : Int) + 1 := by omega
            have i2 : (l.length : Int) ≤ (all : Int) := by omega
            have i3 : decide ((all : Int) + (d : Int) + 1 < (k2 : Int)) = false := decide_eq_false (by omega)
            have i4 : decide ((all : Int) < (l.length : Int)) = false := decide_eq_false (by omega)
            have Y1 := Lib.hid (HBO7.out.below hb8)
            have Y2 := Lib.hid hwb8
            have Y3 := Lib.hid (HBe7.out.trans (hb8.mono HBe7.out.size))
            clear hof hb8 hwb8 rf ra b8 HFR HBO7 HOw7 HBe7
            have s1 : IntKind.i64.wrap ((all : Int) + (d : Int)) = (all : Int) + (d : Int) := IntWalk.i64_in _ (by omega)
            have s2 : IntKind.i64.wrap ((all : Int) + (d : Int) + 1) = (all : Int) + (d : Int) + 1 := IntWalk.i64_in _ (by omega)
            go_upto_region 22 with (fail)
            go_quiet (fail)
            clear s1 s2
            go_wp2_with fail
            go_roundg (gk - 1)
            case rel =>
              refine ⟨k2 + 1, by omega, by go_num, ⟨ob7, Y1.out.drewN _⟩, own_same Y2.out fun j hj => rfl, below_drewN Y3.out _⟩
            case measure => omega


theorem fronts_any (rate delay : Int) (A A2 : Option Addr) (n c n2 c2 : Nat) (lost : List Int) (bs : List (List UInt8)) (w : World) (hp : PlanIn w lost A n) (hr : RowsAt w w.heap.size A2 n2 bs)
    (hn : n ≤ 9223372036854775807) (hn2 : n2 ≤ 9223372036854775807) (hbl : ∀ b ∈ bs, b.length ≤ 9223372036854775807) :
    Calls Try.prog 4 #[.agg #[.int .i64 rate, .int .i64 delay, .slice A n c], .slice A2 n2 c2] w (True_ w) := by
  by_cases hg : greatB bs n = true ∨ 30 < delay
  · exact fronts_great rate delay A A2 n c n2 c2 lost bs w hp hr hn hn2 hbl hg
  · have h1 : greatB bs n = false := by cases h : greatB bs n with | true => exact absurd (.inl h) hg | false => rfl
    have h2 : delay ≤ 30 := by
      rcases Int.lt_or_le 30 delay with h | h
      · exact absurd (.inr h) hg
      · exact h
    by_cases he : errNew rate delay lost = 0
    · have h0 := (start_ok he)
      have hr1 : 1 ≤ rate := by have := h0.rate1; have e : (LS.start rate delay lost).rate = rate := rfl; omega
      have hd1 : 0 ≤ delay := by have := h0.delay1; have e : (LS.start rate delay lost).delay = delay := rfl; omega
      obtain ⟨r, rfl⟩ := Int.eq_ofNat_of_zero_le (show 0 ≤ rate by omega)
      obtain ⟨d, rfl⟩ := Int.eq_ofNat_of_zero_le hd1
      exact fronts_main r d A A2 n c n2 c2 lost bs w hp hr h1 (by omega) he
    · exact fronts_bad rate delay A A2 n c n2 c2 lost bs w hp hr h1 h2 he
end Go.Proofs.Ytieoeednfgpoiaa
