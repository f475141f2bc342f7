/- gypsumref15.Fan, walked. No condition but sizes. -/
import Derived.Test.YtiajlmajenabiaaGreatP15
import Derived.Test.YtiajlmajenabiaaGreatSh47
import Derived.Test.YtiajlmajenabiaaGreatCert1
import Derived.IntWalk
set_option maxRecDepth 100000
set_option maxHeartbeats 16000000
set_option linter.all false
namespace Go.Proofs.YtiajlmajenabiaaGreat
open Go.RowKit
def FanPost (w : World) (T : List Tri) (v : Int) (e : Ending) (w' : World) : Prop :=
 ∃ many : Nat, e = .returned (.tuple #[.int .i64 ((atL T T.length v).length : Int), .int .i64 (many : Int)]) ∧ ((atL T T.length v).length = many ↔ ∀ k ∈ atL T T.length v, Reach (fun a b => a ∈ atL T T.length v ∧ b ∈ atL T T.length v ∧ Nbr T v a b) ((atL T T.length v).headD 0) k) ∧ Below w.heap.size w w'
theorem bool_cell {w : World} {g n i : Nat} {p : Nat → Bool} {q : Bool} (h : Blk w g 4 (bools n p)) (hi : i < n) (hp : p i = q) : w.cell? ⟨g, i, none⟩ = some (.bool q) := by
 rw [h.cell, bools_at _ hi, hp]
def ZN (l : List Nat) : List Int := l.map fun i : Nat => (i : Int)
theorem zn_len (l : List Nat) : (ZN l).length = l.length := by simp [ZN]
theorem zn_at {l : List Nat} {i a : Nat} (h : l[i]? = some a) : (ZN l)[i]? = some (a : Int) := by simp [ZN, h]
theorem atL_step (T : List Tri) (k : Nat) (v : Int) : atL T (k + 1) v = atL T k v ++ if hasB (tri T k) v then [k] else [] := by
 unfold atL
 rw [List.range_succ, List.filter_append]
 congr 1
 cases h : hasB (tri T k) v with
 | true => simp [(hasB_iff _ _).1 h]
 | false =>
  have : ¬ v ∈ verts (tri T k) := fun e => by rw [(hasB_iff _ _).2 e] at h; cases h
  simp [this]
theorem atL_len15 (T : List Tri) (k : Nat) (v : Int) : (atL T k v).length ≤ k := by
 have := List.length_filter_le (fun i => decide (v ∈ verts (tri T i))) (List.range k)
 unfold atL
 simpa using this
theorem int_infoF : (Tryz.prog.info? 3).map (fun i => (i.zero, i.size, i.bytes)) = some (some (.int .i64 0), 1, 8) := by kernel_rfl
theorem zl_one15 (L : List Int) : ∀ u ∈ ZL L, u.oneCell' = true := by
 intro u hu
 obtain ⟨x, _, rfl⟩ := List.mem_map.1 hu
 rfl
attribute [local irreducible] Blk LRow World.alloc World.setCell World.cell? World.frozen?
theorem fan_any (N : Int) (A : Option Addr) (c : Nat) (T : List Tri) (v : Int) (m : Nat) (w : World) (hT : T.length ≤ 1000) (ht : TrisAt w w.heap.size A T.length T) (hok : ∀ t ∈ T, TriOk m t) :
  Calls Tryz.prog 39 #[.agg #[.int .i64 N, .slice A T.length c], .int .i64 v] w (FanPost w T v) := by
 have HT := Lib.hid ht
 have HOK := Lib.hid hok
 clear ht hok
 obtain ⟨i0, hi0, hz0, hz1, hz2⟩ := info_parts int_infoF
 obtain ⟨V, hV⟩ : ∃ V, V = w.alloc (.cells #[.int .i64 N, .slice A T.length c] 24) := ⟨_, rfl⟩
 have GA0 : Hid (Blk V w.heap.size 24 #[.int .i64 N, .slice A T.length c]) := by subst hV; exact Lib.hid (Blk.new _ _ _)
 have HB0 : Hid (Below w.heap.size w V) := by subst hV; exact Lib.hid (bw_alloc (Below.refl _ _) _)
 go_enter Tryz.func39, Tryz.ntmps39
 go_upto_region 1 with (fail)
 rw [← hV]
 clear hV
 obtain ⟨ga, hga⟩ : ∃ g, g = w.heap.size := ⟨_, rfl⟩
 rw [← hga] at GA0
 simp only [← hga]
 clear hga
 go_wp2_with fail
 go_loopw [6, 7] (fun lv iv wr => ∃ (k : Nat) (A' : Option Addr) (c' : Nat), k ≤ T.length ∧ lv = .slice A' (ZN (atL T k v)).length c' ∧ iv = .int .i64 k ∧ Hid (IR wr w.heap.size A' c' (ZN (atL T k v))) ∧ Hid (Blk wr ga 24 #[.int .i64 N, .slice A T.length c]) ∧ Hid (Below w.heap.size w wr)) (fun _ iv _ => T.length - (intOf iv).toNat)
 case atStart => exact ⟨0, none, 0, by omega, rfl, rfl, Lib.hid (IR.nil _ _), GA0, HB0⟩
 case round =>
  obtain ⟨k, A', c', hk, rfl, rfl, HIk, GAk, HBk⟩ := hrel
  obtain ⟨wB, hwB⟩ : ∃ wB : World, wB = wr := ⟨_, rfl⟩
  rw [← hwB] at HIk GAk HBk ⊢
  clear hwB GA0 HB0
  obtain ⟨s0, s1, _, _, _⟩ := soup_facts GAk.out
  by_cases hlt : k < T.length
  · have hki : (k : Int) < (T.length : Int) := by omega
    obtain ⟨ad, hAd, tq⟩ := (HT.out.below HBk.out).triQ HBk.out.size hlt
    subst hAd
    obtain ⟨d0, d1, d2, d3, d4, d5⟩ := tq.c
    have HH := Lib.hid (r15Has_any (tri T k) v)
    have HST := Lib.hid (atL_step T k v)
    have HLE := Lib.hid (atL_len15 T k v)
    clear tq
    generalize tri T k = t at *
    go_wp2_with fail
    refine (HH.out wB).mono ?_
    rintro e w3 ⟨rfl, hb⟩
    have GA3 := Lib.hid (blk_call GAk.out hb)
    have HI3 := Lib.hid (HIk.out.below hb)
    have HB3 := Lib.hid (bw_call HBk.out hb)
    clear hb GAk HIk HBk HH d0 d1 d2 d3 d4 d5 s0 s1
    cases hh : hasB t v with
    | false =>
     rw [hh] at HST
     have HE : Hid (atL T (k + 1) v = atL T k v) := Lib.hid (by rw [HST.out]; simp)
     clear HST hh
     rw [← HE.out] at HI3 ⊢
     go_wp2_with fail
     exact ⟨⟨k + 1, A', c', by omega, rfl, by go_num, HI3, GA3, HB3⟩, by simp [intOf]; omega⟩
    | true =>
     rw [hh] at HST
     have HE : Hid (ZN (atL T (k + 1) v) = ZN (atL T k v) ++ [(k : Int)]) := Lib.hid (by rw [HST.out]; simp [ZN])
     have HZL : Hid ((ZN (atL T k v)).length ≤ k) := Lib.hid (by rw [zn_len]; exact HLE.out)
     clear HST hh HLE
     generalize ZN (atL T k v) = L1 at *
     have hL1 := HZL.out
     have HBE : Hid (Below w.heap.size w (w3.alloc (.cells #[.int .i64 (k : Int)] 3))) := Lib.hid (bw_alloc HB3.out _)
     have HIE : Hid (IR (w3.alloc (.cells #[.int .i64 (k : Int)] 3)) w.heap.size A' c' L1) := Lib.hid (HI3.out.alloc _)
     go_upto_region 4 with (at_builtin; go_must (refine wpList_append_sl _ rfl (.tmp 27) (.tmp 29) _ rfl w.heap.size 3 i0 _ 1 8 Tryz.underlying25 hi0 hz0 hz1 hz2 rfl (by omega) (.slice A' L1.length c') L1.length (ZL L1) rfl HIE.out (w3.heap.size + 1) (some ⟨w3.heap.size, 0, none⟩) 1 1 [.int .i64 (k : Int)] rfl (reads_new w3 #[.int .i64 (k : Int)] 3 1 1 rfl) (zl_one15 [(k : Int)]) (by simp only [maxLen]; omega) (by omega) (bw_size HBE.out) ?_); intro A5 c5 w5 hown5 hg5 hat5)
     have GA5 : Hid (Blk w5 ga 24 #[.int .i64 N, .slice (some ad) T.length c]) := Lib.hid ((GA3.out.alloc _).grown hg5 (fun e => own_blk_ne HIE.out (GA3.out.alloc _) (by decide) e.symm))
     have HB5 : Hid (Below w.heap.size w w5) := Lib.hid (bw_grow HBE.out hg5 (fun q hq => (HIE.out.lt q hq).1))
     have HI5 : Hid (IR w5 w.heap.size A5 c5 (ZN (atL T (k + 1) v))) := Lib.hid (ir_of hown5 (by rw [HE.out]; simp) (by rw [HE.out]; simp [ZL]))
     have hL2 : L1.length + 1 = (ZN (atL T (k + 1) v)).length := by rw [HE.out]; simp
     rw [hL2]
     clear hown5 hg5 hat5 HBE HIE GA3 HI3 HB3 hL2 hL1
     go_wp2_with fail
     exact ⟨⟨k + 1, A5, c5, by omega, rfl, by go_num, HI5, GA5, HB5⟩, by simp [intOf]; omega⟩
  · obtain rfl : k = T.length := by omega
    have HSD : Hid (∀ j ∈ atL T T.length v, j < T.length ∧ v ∈ verts (tri T j)) := Lib.hid (fun j hj => ⟨atL_lt j hj, by
     unfold atL at hj
     simpa using (List.mem_filter.1 hj).2⟩)
    have HND := Lib.hid (atL_nodup T T.length v)
    have HSL := Lib.hid (atL_len15 T T.length v)
    go_upto_region 7 with (fail)
    clear s0 s1 hlt hk
    by_cases h0 : atL T T.length v = []
    · have HZ := Lib.hid h0
      have hz : (ZN (atL T T.length v)).length = 0 := by rw [h0]; rfl
      have hzl : (atL T T.length v).length = 0 := by rw [h0]; rfl
      clear h0
      rw [hz]
      clear hz
      go_wp2_with fail
      refine bodyPost_ret (v := .tuple #[.int .i64 0, .int .i64 0]) (by simp [results, Tryz.results39, go_sem]) rfl ?_
      exact ⟨0, by rw [hzl]; rfl, by rw [hzl]; exact ⟨fun _ k hk => (by rw [HZ.out] at hk; cases hk), fun _ => rfl⟩, HBk.out⟩
    have HNE := Lib.hid h0
    have hpos : 0 < (atL T T.length v).length := List.length_pos_iff.2 h0
    obtain ⟨hd, hhd⟩ : ∃ hd, (atL T T.length v)[0]? = some hd := ⟨_, List.getElem?_eq_getElem hpos⟩
    have hdm := HSD.out hd (List.mem_of_getElem? hhd)
    have HHD : Hid ((atL T T.length v).headD 0 = hd) := Lib.hid (by
     generalize atL T T.length v = S at *
     cases S with
     | nil => cases hhd
     | cons a l => injection hhd)
    have hZ0 : (ZN (atL T T.length v)).length = (atL T T.length v).length := zn_len _
    rw [hZ0]
    have HZ0 := Lib.hid hZ0
    have HF0 := Lib.hid (FanSt.start (T := T) (v := v) h0 HND.out)
    rw [HHD.out] at HF0
    have c0 := HIk.out.cellQ (zn_at hhd)
    obtain ⟨adl, eadl, cq0⟩ := c0
    subst eadl
    rw [show adl.add 0 = adl by simp [Addr.add]] at cq0
    obtain ⟨i1, hi1, hy0, hy1, hy2⟩ := info_parts bool_info
    have hmk := fun W => run_make_rowN (P := Tryz.prog) 72 4 i1 (.bool false) Tryz.underlying72 hi1 hy0 .i64 .i64 T.length T.length (Nat.le_refl _) (by rw [hy2]; omega) (by omega) W
    rw [hy1, Nat.mul_one, madeBools] at hmk
    clear hi1 hy0 hy1 hy2 h0 hZ0 hi0 hz0 hz1 hz2
    obtain ⟨w4, hw4⟩ : ∃ w4, w4 = wB.alloc (.cells (bools T.length fun _ => false) 4) := ⟨_, rfl⟩
    have GS4 : Hid (Blk w4 wB.heap.size 4 (bools T.length fun _ => false)) := by subst hw4; exact Lib.hid (Blk.new _ _ _)
    have GA4 : Hid (Blk w4 ga 24 #[.int .i64 N, .slice A T.length c]) := by subst hw4; exact Lib.hid (GAk.out.alloc _)
    have HI4 : Hid (IR w4 w.heap.size (some adl) c' (ZN (atL T T.length v))) := by subst hw4; exact Lib.hid (HIk.out.alloc _)
    have HB4 : Hid (Below w.heap.size w w4) := by subst hw4; exact Lib.hid (bw_alloc HBk.out _)
    have CQ4 : Hid (CellQ w4 adl (.int .i64 (hd : Int))) := by subst hw4; exact Lib.hid (cq0.below (bw_alloc (Below.refl _ _) _))
    have HGS : Hid (w.heap.size ≤ wB.heap.size) := Lib.hid HBk.out.size
    obtain ⟨s0, s1, _, _, _⟩ := soup_facts GAk.out
    have hlp : (0 : Int) < ((atL T T.length v).length : Int) := by omega
    have hlp2 : ¬ ((atL T T.length v).length : Int) = 0 := by omega
    have hlp3 : (((atL T T.length v).length : Int) == 0) = false := by simpa using hlp2
    go_upto_region 10 with (fail)
    rw [← hw4]
    generalize wB.heap.size = gs at *
    clear hw4 GAk HIk HBk cq0 s0 s1 hmk
    have x0 := bool_cell GS4.out hdm.1 (q := false) rfl
    have f0 := GS4.out.frozen hd
    have c0 := CQ4.out.c
    have hdi : (hd : Int) < (T.length : Int) := by have := hdm.1; omega
    have GS5 : Hid (Blk (w4.setCell ⟨gs, hd, none⟩ (.bool true)) gs 4 (bools T.length (fun u => false || u == hd))) := Lib.hid (by
     have h := GS4.out.set_ hd (.bool true)
     rwa [bools_set] at h)
    have GA5 := Lib.hid (GA4.out.far (GA4.out.ne_ GS4.out (by decide)) (.bool true) (p := ⟨gs, hd, none⟩))
    have HI5 := Lib.hid (HI4.out.far (i := hd) GS4.out (by decide) (.bool true))
    have HB5 := Lib.hid (bw_set HB4.out HGS.out (.bool true) (p := ⟨gs, hd, none⟩))
    clear GS4 GA4 HI4 HB4 CQ4 hhd hdm
    obtain ⟨n, HN⟩ : ∃ n, Hid ((atL T T.length v).length = n) := ⟨_, Lib.hid rfl⟩
    rw [HN.out] at hlp hlp2 hlp3 hpos HSL ⊢
    have hn1000 : n ≤ 1000 := by have := HSL.out; omega
    go_wp2_with fail
    clear x0 f0 c0
    generalize (w4.setCell ⟨gs, hd, none⟩ (.bool true)) = w5 at *
    go_loopw [9, 10] (fun mv iv wr => ∃ (r : Nat) (p : Nat → Bool) (many : Nat), r ≤ n ∧ mv = .int .i64 many ∧ iv = .int .i64 r ∧ Hid (FanSt T (atL T T.length v) v p many ∧ (Clo T (atL T T.length v) p ∨ r + 1 ≤ many)) ∧ Hid (Blk wr gs 4 (bools T.length p)) ∧ Hid (Blk wr ga 24 #[.int .i64 N, .slice A T.length c]) ∧ Hid (IR wr w.heap.size (some adl) c' (ZN (atL T T.length v))) ∧ Hid (Below w.heap.size w wr)) (fun _ iv _ => n - (intOf iv).toNat)
    case atStart => exact ⟨0, _, 1, by omega, rfl, rfl, Lib.hid ⟨HF0.out, .inr (by omega)⟩, GS5, GA5, HI5, HB5⟩
    case round =>
     obtain ⟨r, p0, many0, hr, rfl, rfl, HFS0, GSr, GAr, HIr, HBr⟩ := hrel
     obtain ⟨wR, hwR⟩ : ∃ wR : World, wR = wr := ⟨_, rfl⟩
     rw [← hwR] at GSr GAr HIr HBr ⊢
     clear hwR GS5 GA5 HI5 HB5 HF0
     by_cases hltr : r < n
     rotate_left
     · obtain rfl : r = n := by omega
       have HFI := Lib.hid (HFS0.out.1.all (by rw [HN.out]; exact HFS0.out.2) HOK.out HSD.out)
       go_wp2_with fail
       refine bodyPost_ret (v := .tuple #[.int .i64 (r : Int), .int .i64 (many0 : Int)]) (by simp [results, Tryz.results39, go_sem]) rfl ?_
       exact ⟨many0, by rw [HN.out], HFI.out, HBr.out⟩
     have hri : (r : Int) < (n : Int) := by omega
     go_wp2_with fail
     go_loopw [9, 11] (fun mv iv wr => ∃ (i : Nat) (p : Nat → Bool) (many : Nat), i ≤ n ∧ mv = .int .i64 many ∧ iv = .int .i64 i ∧ Hid (FanSt T (atL T T.length v) v p many ∧ Rnd T (atL T T.length v) p0 many0 i 0 p many) ∧ Hid (Blk wr gs 4 (bools T.length p)) ∧ Hid (Blk wr ga 24 #[.int .i64 N, .slice A T.length c]) ∧ Hid (IR wr w.heap.size (some adl) c' (ZN (atL T T.length v))) ∧ Hid (Below w.heap.size w wr)) (fun _ iv _ => n - (intOf iv).toNat)
     case atStart => exact ⟨0, p0, many0, by omega, rfl, rfl, Lib.hid ⟨HFS0.out.1, Rnd.start _ _⟩, GSr, GAr, HIr, HBr⟩
     case round =>
      obtain ⟨i, p1, many1, hi, rfl, rfl, HFS1, GSi, GAi, HIi, HBi⟩ := hrel
      obtain ⟨wI, hwI⟩ : ∃ wI : World, wI = wr := ⟨_, rfl⟩
      rw [← hwI] at GSi GAi HIi HBi ⊢
      clear hwI GSr GAr HIr HBr
      by_cases hlti : i < n
      rotate_left
      · obtain rfl : i = n := by omega
        go_wp2_with fail
        exact ⟨⟨r + 1, p1, many1, by omega, rfl, by go_num, Lib.hid ⟨HFS1.out.1, Rnd.done (by have h := HFS1.out.2; rw [← HN.out] at h; exact h) HFS0.out.2⟩, GSi, GAi, HIi, HBi⟩, by simp [intOf]; omega⟩
      have hii : (i : Int) < (n : Int) := by omega
      go_wp2_with fail
      go_loopw [9, 12] (fun mv iv wr => ∃ (j : Nat) (p : Nat → Bool) (many : Nat), j ≤ n ∧ mv = .int .i64 many ∧ iv = .int .i64 j ∧ Hid (FanSt T (atL T T.length v) v p many ∧ Rnd T (atL T T.length v) p0 many0 i j p many) ∧ Hid (Blk wr gs 4 (bools T.length p)) ∧ Hid (Blk wr ga 24 #[.int .i64 N, .slice A T.length c]) ∧ Hid (IR wr w.heap.size (some adl) c' (ZN (atL T T.length v))) ∧ Hid (Below w.heap.size w wr)) (fun _ iv _ => n - (intOf iv).toNat)
      case atStart => exact ⟨0, p1, many1, by omega, rfl, rfl, HFS1, GSi, GAi, HIi, HBi⟩
      case round =>
       obtain ⟨j, p, many, hj, rfl, rfl, HFS, GSwD, GAwD, HIwD, HBwD⟩ := hrel
       obtain ⟨wD, hwD⟩ : ∃ wD : World, wD = wr := ⟨_, rfl⟩
       rw [← hwD] at GSwD GAwD HIwD HBwD ⊢
       clear hwD GSi GAi HIi HBi
       by_cases hltj : j < n
       rotate_left
       · obtain rfl : j = n := by omega
         go_wp2_with fail
         exact ⟨⟨i + 1, p, many, by omega, rfl, by go_num, Lib.hid ⟨HFS.out.1, Rnd.next (by have h := HFS.out.2; rw [← HN.out] at h; exact h)⟩, GSwD, GAwD, HIwD, HBwD⟩, by simp [intOf]; omega⟩
       have hji : (j : Int) < (n : Int) := by omega
       obtain ⟨a, ha⟩ : ∃ a, (atL T T.length v)[i]? = some a := ⟨_, List.getElem?_eq_getElem (by rw [HN.out]; exact hlti)⟩
       obtain ⟨b, hb⟩ : ∃ b, (atL T T.length v)[j]? = some b := ⟨_, List.getElem?_eq_getElem (by rw [HN.out]; exact hltj)⟩
       have HMa := Lib.hid (List.mem_of_getElem? ha)
       have HMb := Lib.hid (List.mem_of_getElem? hb)
       have hal := (HSD.out a HMa.out).1
       have hbl := (HSD.out b HMb.out).1
       have hai : (a : Int) < (T.length : Int) := by omega
       have hbi : (b : Int) < (T.length : Int) := by omega
       have HLa := Lib.hid ha
       have HLb := Lib.hid hb
       have HLA := Lib.hid (zn_at ha)
       have HLB := Lib.hid (zn_at hb)
       have HSS := HSD
       clear ha hb
       obtain ⟨adl1, ead1, cqa⟩ := HIwD.out.cellQ HLA.out
       injection ead1 with ead1
       subst ead1
       obtain ⟨adl2, ead2, cqb⟩ := HIwD.out.cellQ HLB.out
       injection ead2 with ead2
       subst ead2
       have CAwD := Lib.hid cqa
       have CBwD := Lib.hid cqb
       obtain ⟨ad, hAd, tqa⟩ := (HT.out.below HBwD.out).triQ HBwD.out.size hal
       obtain ⟨ad', hAd', tqb⟩ := (HT.out.below HBwD.out).triQ HBwD.out.size hbl
       rw [hAd] at hAd'
       injection hAd' with hAd'
       subst hAd'
       subst hAd
       obtain ⟨ta, hta⟩ : ∃ ta, tri T a = ta := ⟨_, rfl⟩
       obtain ⟨tb, htb⟩ : ∃ tb, tri T b = tb := ⟨_, rfl⟩
       have HTa := Lib.hid hta
       have HTb := Lib.hid htb
       rw [hta] at tqa
       rw [htb] at tqb
       have TAwD := Lib.hid tqa
       have TBwD := Lib.hid tqb
       have HBS := Lib.hid (beside_any ta tb)
       clear cqa cqb tqa tqb hta htb
       go_upto_region 21 with (fail)
       cases hpa : p a with
       | false =>
        have HTR : Hid (trig T p a b = false) := Lib.hid (by unfold trig; rw [hpa]; rfl)
        refine wp_region_held_drew (S := fun w' => w'.cell? ⟨ga, 0, none⟩ = some (.int .i64 N) ∧ w'.cell? ⟨ga, 1, none⟩ = some (.slice (some ad) T.length c) ∧ w'.cell? ⟨gs, a, none⟩ = some (.bool false) ∧ w'.cell? (adl.add i) = some (.int .i64 (a : Int)) ∧ w'.cell? (adl.add j) = some (.int .i64 (b : Int)) ∧ w'.cell? (ad.add (a * 3)) = some (.int .i64 ta.a) ∧ w'.cell? ((ad.add (a * 3)).add 1) = some (.int .i64 ta.b) ∧ w'.cell? ((ad.add (a * 3)).add 2) = some (.int .i64 ta.c) ∧ w'.cell? ⟨(ad.add (a * 3)).block, (ad.add (a * 3)).off + 1, none⟩ = some (.int .i64 ta.b) ∧ w'.cell? ⟨(ad.add (a * 3)).block, (ad.add (a * 3)).off + 2, none⟩ = some (.int .i64 ta.c) ∧ w'.cell? (ad.add (b * 3)) = some (.int .i64 tb.a) ∧ w'.cell? ((ad.add (b * 3)).add 1) = some (.int .i64 tb.b) ∧ w'.cell? ((ad.add (b * 3)).add 2) = some (.int .i64 tb.c) ∧ w'.cell? ⟨(ad.add (b * 3)).block, (ad.add (b * 3)).off + 1, none⟩ = some (.int .i64 tb.b) ∧ w'.cell? ⟨(ad.add (b * 3)).block, (ad.add (b * 3)).off + 2, none⟩ = some (.int .i64 tb.c)) (by kernel_rfl) ⟨(soup_facts GAwD.out.drew).1, (soup_facts GAwD.out.drew).2.1, bool_cell GSwD.out.drew hal hpa, CAwD.out.drew.c, CBwD.out.drew.c, TAwD.out.drew.c.c0, TAwD.out.drew.c.c1, TAwD.out.drew.c.c2, TAwD.out.drew.c.f1, TAwD.out.drew.c.f2, TBwD.out.drew.c.c0, TBwD.out.drew.c.c1, TBwD.out.drew.c.c2, TBwD.out.drew.c.f1, TBwD.out.drew.c.f2⟩ (fun hHeld => ?_)
        refine hKk 0 ?_; (try simp only [zQ])
        refine hKk 1 ?_; (try simp only [zQ])
        refine hKk 2 ?_; (try simp only [zQ])
        refine hKk 3 ?_; (try simp only [zQ])
        refine hKk 4 ?_; (try simp only [zQ])
        refine hKk 5 ?_; (try simp only [zQ])
        refine hKk 6 ?_; (try simp only [zQ])
        refine hKk 7 ?_; (try simp only [zQ])
        refine hRk 8 ?_; (try simp only [zQ])
        refine hRk 9 ?_; (try simp only [zQ])
        refine hRk 10 ?_; (try simp only [zQ])
        refine hRk 11 ?_; (try simp only [zQ])
        refine hRk 12 ?_; (try simp only [zQ])
        refine hRk 13 ?_; (try simp only [zQ])
        refine hRk 14 ?_; (try simp only [zQ])
        refine hRk 15 ?_; (try simp only [zQ])
        refine hKk 16 ?_; (try simp only [zQ])
        refine hKk 17 ?_; (try simp only [zQ])
        refine hRk 18 ?_; (try simp only [zQ])
        refine hRk 19 ?_; (try simp only [zQ])
        refine hRk 20 ?_; (try simp only [zQ])
        refine hRk 21 ?_; (try simp only [zQ])
        refine hRk 22 ?_; (try simp only [zQ])
        refine hRk 23 ?_; (try simp only [zQ])
        refine hRk 24 ?_; (try simp only [zQ])
        refine hRk 25 ?_; (try simp only [zQ])
        refine hRk 26 ?_; (try simp only [zQ])
        refine hRk 27 ?_; (try simp only [zQ])
        refine hRk 28 ?_; (try simp only [zQ])
        refine hRk 29 ?_; (try simp only [zQ])
        refine hRk 30 ?_; (try simp only [zQ])
        refine hRk 31 ?_; (try simp only [zQ])
        refine hRk 32 ?_; (try simp only [zQ])
        refine hRk 33 ?_; (try simp only [zQ])
        refine hRk 34 ?_; (try simp only [zQ])
        refine hKk 35 ?_; (try simp only [zQ])
        refine wpAnyH_done (by kernel_rfl) ?_ _
        obtain ⟨wn, hwn⟩ : ∃ wn, wn = wD.drew := ⟨_, rfl⟩
        have GAn := Lib.hid (GAwD.out.drew)
        have GSn := Lib.hid (GSwD.out.drew)
        have HIn := Lib.hid (HIwD.out.drew)
        have HBn := Lib.hid (bw_drew HBwD.out)
        rw [← hwn] at GAn GSn HIn HBn ⊢
        clear hwn GAwD GSwD HIwD HBwD CAwD CBwD TAwD TBwD
        go_wp2_with fail
        exact ⟨⟨j + 1, p, many, by omega, rfl, by go_num, Lib.hid ⟨HFS.out.1, HFS.out.2.no HLa.out HLb.out HTR.out⟩, GSn, GAn, HIn, HBn⟩, by simp [intOf]; omega⟩
       | true =>
        cases hpb : p b with
        | true =>
         have HTR : Hid (trig T p a b = false) := Lib.hid (by unfold trig; rw [hpa, hpb]; rfl)
         refine wp_region_held_drew (S := fun w' => w'.cell? ⟨ga, 0, none⟩ = some (.int .i64 N) ∧ w'.cell? ⟨ga, 1, none⟩ = some (.slice (some ad) T.length c) ∧ w'.cell? ⟨gs, a, none⟩ = some (.bool true) ∧ w'.cell? ⟨gs, b, none⟩ = some (.bool true) ∧ w'.cell? (adl.add i) = some (.int .i64 (a : Int)) ∧ w'.cell? (adl.add j) = some (.int .i64 (b : Int)) ∧ w'.cell? (ad.add (a * 3)) = some (.int .i64 ta.a) ∧ w'.cell? ((ad.add (a * 3)).add 1) = some (.int .i64 ta.b) ∧ w'.cell? ((ad.add (a * 3)).add 2) = some (.int .i64 ta.c) ∧ w'.cell? ⟨(ad.add (a * 3)).block, (ad.add (a * 3)).off + 1, none⟩ = some (.int .i64 ta.b) ∧ w'.cell? ⟨(ad.add (a * 3)).block, (ad.add (a * 3)).off + 2, none⟩ = some (.int .i64 ta.c) ∧ w'.cell? (ad.add (b * 3)) = some (.int .i64 tb.a) ∧ w'.cell? ((ad.add (b * 3)).add 1) = some (.int .i64 tb.b) ∧ w'.cell? ((ad.add (b * 3)).add 2) = some (.int .i64 tb.c) ∧ w'.cell? ⟨(ad.add (b * 3)).block, (ad.add (b * 3)).off + 1, none⟩ = some (.int .i64 tb.b) ∧ w'.cell? ⟨(ad.add (b * 3)).block, (ad.add (b * 3)).off + 2, none⟩ = some (.int .i64 tb.c)) (by kernel_rfl) ⟨(soup_facts GAwD.out.drew).1, (soup_facts GAwD.out.drew).2.1, bool_cell GSwD.out.drew hal hpa, bool_cell GSwD.out.drew hbl hpb, CAwD.out.drew.c, CBwD.out.drew.c, TAwD.out.drew.c.c0, TAwD.out.drew.c.c1, TAwD.out.drew.c.c2, TAwD.out.drew.c.f1, TAwD.out.drew.c.f2, TBwD.out.drew.c.c0, TBwD.out.drew.c.c1, TBwD.out.drew.c.c2, TBwD.out.drew.c.f1, TBwD.out.drew.c.f2⟩ (fun hHeld => ?_)
         refine hKk 0 ?_; (try simp only [zQ])
         refine hKk 1 ?_; (try simp only [zQ])
         refine hKk 2 ?_; (try simp only [zQ])
         refine hKk 3 ?_; (try simp only [zQ])
         refine hKk 4 ?_; (try simp only [zQ])
         refine hKk 5 ?_; (try simp only [zQ])
         refine hKk 6 ?_; (try simp only [zQ])
         refine hKk 7 ?_; (try simp only [zQ])
         refine hKk 8 ?_; (try simp only [zQ])
         refine hKk 9 ?_; (try simp only [zQ])
         refine hKk 10 ?_; (try simp only [zQ])
         refine hKk 11 ?_; (try simp only [zQ])
         refine hKk 12 ?_; (try simp only [zQ])
         refine hKk 13 ?_; (try simp only [zQ])
         refine hKk 14 ?_; (try simp only [zQ])
         refine hKk 15 ?_; (try simp only [zQ])
         refine hKk 16 ?_; (try simp only [zQ])
         refine hKk 17 ?_; (try simp only [zQ])
         refine hRk 18 ?_; (try simp only [zQ])
         refine hRk 19 ?_; (try simp only [zQ])
         refine hRk 20 ?_; (try simp only [zQ])
         refine hRk 21 ?_; (try simp only [zQ])
         refine hRk 22 ?_; (try simp only [zQ])
         refine hRk 23 ?_; (try simp only [zQ])
         refine hRk 24 ?_; (try simp only [zQ])
         refine hRk 25 ?_; (try simp only [zQ])
         refine hRk 26 ?_; (try simp only [zQ])
         refine hRk 27 ?_; (try simp only [zQ])
         refine hRk 28 ?_; (try simp only [zQ])
         refine hRk 29 ?_; (try simp only [zQ])
         refine hRk 30 ?_; (try simp only [zQ])
         refine hRk 31 ?_; (try simp only [zQ])
         refine hRk 32 ?_; (try simp only [zQ])
         refine hRk 33 ?_; (try simp only [zQ])
         refine hRk 34 ?_; (try simp only [zQ])
         refine hKk 35 ?_; (try simp only [zQ])
         refine wpAnyH_done (by kernel_rfl) ?_ _
         obtain ⟨wn, hwn⟩ : ∃ wn, wn = wD.drew := ⟨_, rfl⟩
         have GAn := Lib.hid (GAwD.out.drew)
         have GSn := Lib.hid (GSwD.out.drew)
         have HIn := Lib.hid (HIwD.out.drew)
         have HBn := Lib.hid (bw_drew HBwD.out)
         rw [← hwn] at GAn GSn HIn HBn ⊢
         clear hwn GAwD GSwD HIwD HBwD CAwD CBwD TAwD TBwD
         go_wp2_with fail
         exact ⟨⟨j + 1, p, many, by omega, rfl, by go_num, Lib.hid ⟨HFS.out.1, HFS.out.2.no HLa.out HLb.out HTR.out⟩, GSn, GAn, HIn, HBn⟩, by simp [intOf]; omega⟩
        | false =>
         refine wp_region_held_drew (S := fun w' => w'.cell? ⟨ga, 0, none⟩ = some (.int .i64 N) ∧ w'.cell? ⟨ga, 1, none⟩ = some (.slice (some ad) T.length c) ∧ w'.cell? ⟨gs, a, none⟩ = some (.bool true) ∧ w'.cell? ⟨gs, b, none⟩ = some (.bool false) ∧ w'.cell? (adl.add i) = some (.int .i64 (a : Int)) ∧ w'.cell? (adl.add j) = some (.int .i64 (b : Int)) ∧ w'.cell? (ad.add (a * 3)) = some (.int .i64 ta.a) ∧ w'.cell? ((ad.add (a * 3)).add 1) = some (.int .i64 ta.b) ∧ w'.cell? ((ad.add (a * 3)).add 2) = some (.int .i64 ta.c) ∧ w'.cell? ⟨(ad.add (a * 3)).block, (ad.add (a * 3)).off + 1, none⟩ = some (.int .i64 ta.b) ∧ w'.cell? ⟨(ad.add (a * 3)).block, (ad.add (a * 3)).off + 2, none⟩ = some (.int .i64 ta.c) ∧ w'.cell? (ad.add (b * 3)) = some (.int .i64 tb.a) ∧ w'.cell? ((ad.add (b * 3)).add 1) = some (.int .i64 tb.b) ∧ w'.cell? ((ad.add (b * 3)).add 2) = some (.int .i64 tb.c) ∧ w'.cell? ⟨(ad.add (b * 3)).block, (ad.add (b * 3)).off + 1, none⟩ = some (.int .i64 tb.b) ∧ w'.cell? ⟨(ad.add (b * 3)).block, (ad.add (b * 3)).off + 2, none⟩ = some (.int .i64 tb.c)) (by kernel_rfl) ⟨(soup_facts GAwD.out.drew).1, (soup_facts GAwD.out.drew).2.1, bool_cell GSwD.out.drew hal hpa, bool_cell GSwD.out.drew hbl hpb, CAwD.out.drew.c, CBwD.out.drew.c, TAwD.out.drew.c.c0, TAwD.out.drew.c.c1, TAwD.out.drew.c.c2, TAwD.out.drew.c.f1, TAwD.out.drew.c.f2, TBwD.out.drew.c.c0, TBwD.out.drew.c.c1, TBwD.out.drew.c.c2, TBwD.out.drew.c.f1, TBwD.out.drew.c.f2⟩ (fun hHeld => ?_)
         refine hKk 0 ?_; (try simp only [zQ])
         refine hKk 1 ?_; (try simp only [zQ])
         refine hKk 2 ?_; (try simp only [zQ])
         refine hKk 3 ?_; (try simp only [zQ])
         refine hKk 4 ?_; (try simp only [zQ])
         refine hKk 5 ?_; (try simp only [zQ])
         refine hKk 6 ?_; (try simp only [zQ])
         refine hKk 7 ?_; (try simp only [zQ])
         refine hKk 8 ?_; (try simp only [zQ])
         refine hKk 9 ?_; (try simp only [zQ])
         refine hKk 10 ?_; (try simp only [zQ])
         refine hKk 11 ?_; (try simp only [zQ])
         refine hKk 12 ?_; (try simp only [zQ])
         refine hKk 13 ?_; (try simp only [zQ])
         refine hKk 14 ?_; (try simp only [zQ])
         refine hKk 15 ?_; (try simp only [zQ])
         refine hKk 16 ?_; (try simp only [zQ])
         refine hKk 17 ?_; (try simp only [zQ])
         refine hKk 18 ?_; (try simp only [zQ])
         refine hKk 19 ?_; (try simp only [zQ])
         refine hKk 20 ?_; (try simp only [zQ])
         refine hKk 21 ?_; (try simp only [zQ])
         refine hKk 22 ?_; (try simp only [zQ])
         refine hKk 23 ?_; (try simp only [zQ])
         refine hKk 24 ?_; (try simp only [zQ])
         refine hKk 25 ?_; (try simp only [zQ])
         refine hKk 26 ?_; (try simp only [zQ])
         refine hKk 27 ?_; (try simp only [zQ])
         refine hKk 28 ?_; (try simp only [zQ])
         refine hKk 29 ?_; (try simp only [zQ])
         refine hKk 30 ?_; (try simp only [zQ])
         refine hKk 31 ?_; (try simp only [zQ])
         refine hKk 32 ?_; (try simp only [zQ])
         refine hKk 33 ?_; (try simp only [zQ])
         refine wpAnyH_ready (rs := [34]) (by kernel_rfl) (by simp) ?_
         refine held_cons rfl (fun K hK => ?_) ?_
         · go_simp
           go_wp2_with (go_at_call 75; refine (HBS.out wD.drew).mono ?_; rintro e v3 ⟨rfl, hb⟩)
           have GAv3 := Lib.hid (blk_call GAwD.out.drew hb)
           have GSv3 := Lib.hid (blk_call GSwD.out.drew hb)
           have CAv3 := Lib.hid (CAwD.out.drew.below hb)
           have CBv3 := Lib.hid (CBwD.out.drew.below hb)
           have TAv3 := Lib.hid (TAwD.out.drew.below hb)
           have TBv3 := Lib.hid (TBwD.out.drew.below hb)
           have HIv3 := Lib.hid (HIwD.out.drew.below hb)
           have HBv3 := Lib.hid (bw_call (bw_drew HBwD.out) hb)
           clear hb
           refine hK.out _ _ ?_ (fun hHeld => ?_)
           · exact ⟨(soup_facts GAv3.out).1, (soup_facts GAv3.out).2.1, bool_cell GSv3.out hal hpa, bool_cell GSv3.out hbl hpb, CAv3.out.c, CBv3.out.c, TAv3.out.c.c0, TAv3.out.c.c1, TAv3.out.c.c2, TAv3.out.c.f1, TAv3.out.c.f2, TBv3.out.c.c0, TBv3.out.c.c1, TBv3.out.c.c2, TBv3.out.c.f1, TBv3.out.c.f2⟩
           clear hK K
           (try simp only [zQ])
           refine hKk 35 ?_; (try simp only [zQ])
           refine wpAnyH_done (by kernel_rfl) ?_ _
           have GSc := GSv3
           clear CAv3 CBv3 TAv3 TBv3 HBS
           cases hbs : besB ta tb with
           | false =>
            have HTR : Hid (trig T p a b = false) := Lib.hid (by unfold trig; rw [HTa.out, HTb.out, hbs]; simp)
            go_wp2_with fail
            exact ⟨⟨j + 1, p, many, by omega, rfl, by go_num, Lib.hid ⟨HFS.out.1, HFS.out.2.no HLa.out HLb.out HTR.out⟩, GSv3, GAv3, HIv3, HBv3⟩, by simp [intOf]; omega⟩
           | true =>
            have HTR : Hid (trig T p a b = true) := Lib.hid (by unfold trig; rw [hpa, hpb, HTa.out, HTb.out, hbs]; rfl)
            have HS2 := Lib.hid (HFS.out.1.step (atL_nodup _ _ _) HOK.out HSS.out HMa.out HMb.out HTR.out)
            have HR2 := Lib.hid (HFS.out.2.yes HMa.out HMb.out HTR.out (fun u => p u || u == b))
            obtain ⟨s0, s1, _, _, _⟩ := soup_facts GAv3.out
            have x0 := bool_cell GSv3.out hbl hpb
            have f0 := GSv3.out.frozen b
            have cb := (HIv3.out.cellQ HLB.out)
            obtain ⟨adl', ead, cbb⟩ := cb
            injection ead with ead
            subst ead
            have cbc := cbb.c
            have GSn : Hid (Blk (v3.setCell ⟨gs, b, none⟩ (.bool true)) gs 4 (bools T.length (fun u => p u || u == b))) := Lib.hid (by
             have h := GSv3.out.set_ b (.bool true)
             rwa [bools_set] at h)
            have GAn := Lib.hid (GAv3.out.far (GAv3.out.ne_ GSv3.out (by decide)) (.bool true) (p := ⟨gs, b, none⟩))
            have HIn := Lib.hid (HIv3.out.far (i := b) GSv3.out (by decide) (.bool true))
            have HBn := Lib.hid (bw_set HBv3.out HGS.out (.bool true) (p := ⟨gs, b, none⟩))
            have hml : many < 100000 := by have h1 := HFS.out.1.le; have h2 := HSL.out; have h3 := HN.out; omega
            have hw1 : IntKind.i64.wrap ((many : Int) + 1) = (many : Int) + 1 := IntWalk.i64_in _ (by omega)
            clear GSv3 GAv3 HIv3 HBv3 GSc cbb
            go_wp2_with fail
            exact ⟨⟨j + 1, _, many + 1, by omega, by go_num, by go_num, Lib.hid ⟨HS2.out, HR2.out⟩, GSn, GAn, HIn, HBn⟩, by simp [intOf]; omega⟩
         exact AllReadyH.nil
end Go.Proofs.YtiajlmajenabiaaGreat
