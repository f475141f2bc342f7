/- symmetry.All, walked. No condition but sizes. -/
import Derived.Test.YtiajlmajenabiaaGreatAllW
import Derived.Test.YtiajlmajenabiaaGreatSp47
import Derived.Laws.EntriesVeiled
set_option maxRecDepth 100000
set_option maxHeartbeats 16000000
set_option linter.all false
namespace Go.Proofs.YtiajlmajenabiaaGreat
open Go.RowKit
def allR (m : Nat) (T : List Tri) : List (List Int) := (goR (kindsL T (kN T)) (kN T) 0 (fun _ => false) ([], List.replicate m 0)).1
def AllYes (w : World) (R : List (List Int)) (e : Ending) (w' : World) : Prop :=
 ∃ (A : Option Addr) (c : Nat) (ws : List (List Int)), e = .returned (.tuple #[.slice A ws.length c, .int .i64 0]) ∧ ws.Perm R ∧ (ws.Pairwise fun x y => ¬ ltL y x) ∧ WaysAt w' w.heap.size A c ws ∧ Below w.heap.size w w'
def AllErr (w : World) (er : Int) (e : Ending) (w' : World) : Prop := e = .returned (.tuple #[.slice none 0 0, .int .i64 er]) ∧ Below w.heap.size w w'
theorem held_ways {W : World} {B g : Nat} {L : List Way} {cs : Array Value} (hg : Blk W g 25 cs) (h : ∀ x ∈ L, IR W B x.1.1 x.1.2 x.2) : Held g L L W := fun x hx y hy W' hW => by
 have key : ∀ z ∈ L, IR W' B z.1.1 z.1.2 z.2 := fun z hz => own_same (h z hz) fun q hq => hW.block q (World.ownsRow.lt (h z hz) q hq).2 fun e => own_blk_ne (h z hz) hg (by decide) (by rw [hq, e])
 exact cmpL_any W' B B x.1.1 y.1.1 x.1.2 y.1.2 x.2 y.2 (key x hx) (key y hy)
attribute [local irreducible] Blk World.alloc World.setCell World.cell? World.frozen? MapV MapI
theorem symAll_no (N : Int) (A : Option Addr) (c : Nat) (T : List Tri) (w : World) (hs : checkR N T ≠ (0, 0, 0)) (hn : T.length ≤ 1000) (ht : TrisAt w w.heap.size A T.length T) :
  Calls Tryz.prog 25 #[.agg #[.int .i64 N, .slice A T.length c]] w (AllErr w 11) := by
 have HT := Lib.hid ht
 have HS := Lib.hid hs
 clear ht hs
 go_enter Tryz.func25, Tryz.ntmps25
 go_upto_region 1 with (fail)
 obtain ⟨wA, hwA⟩ : ∃ U, U = w.alloc (.cells #[.int .i64 N, .slice A T.length c] 24) := ⟨_, rfl⟩
 have K1A : Hid (Blk wA w.heap.size 24 #[.int .i64 N, .slice A T.length c]) := by subst hwA; exact Lib.hid (Blk.new _ _ _)
 have HBA : Hid (Below w.heap.size w wA) := by subst hwA; exact Lib.hid (bw_alloc (Below.refl _ _) _)
 rw [← hwA]
 have HKI := Lib.hid (kindsNo_any N A c T wA HS.out hn (tris_on HBA.out HT.out))
 have p0 : wA.cell? ⟨w.heap.size, 0, none⟩ = some (.int .i64 N) := K1A.out.cell 0
 have p1 : wA.cell? ⟨w.heap.size, 1, none⟩ = some (.slice A T.length c) := K1A.out.cell 1
 clear hwA
 go_wp2_with fail
 refine HKI.out.mono ?_
 rintro e w1 ⟨rfl, hb⟩
 have HB1 := Lib.hid (bw_call HBA.out hb)
 clear hb
 go_wp2_with fail
 refine bodyPost_ret (v := .tuple #[.slice none 0 0, .int .i64 11]) ?_ rfl ⟨rfl, bw_alloc HB1.out _⟩
 simp [results, Tryz.results25, go_sem]
theorem symAll_full (m : Nat) (A : Option Addr) (c : Nat) (T : List Tri) (w : World) (hs : checkR (m : Int) T = (0, 0, 0)) (hn : T.length ≤ 1000) (hp : PartsOk T) (hf : ∀ n, orderN (kindsL T (kN T)) (kN T) = some n → 1000 < n) (ht : TrisAt w w.heap.size A T.length T) :
  Calls Tryz.prog 25 #[.agg #[.int .i64 (m : Int), .slice A T.length c]] w (AllErr w 7) := by
 have HT := Lib.hid ht
 have HS := Lib.hid hs
 have HP := Lib.hid hp
 have HF := Lib.hid hf
 clear ht hs hp hf
 go_enter Tryz.func25, Tryz.ntmps25
 go_upto_region 1 with (fail)
 obtain ⟨wA, hwA⟩ : ∃ U, U = w.alloc (.cells #[.int .i64 (m : Int), .slice A T.length c] 24) := ⟨_, rfl⟩
 have K1A : Hid (Blk wA w.heap.size 24 #[.int .i64 (m : Int), .slice A T.length c]) := by subst hwA; exact Lib.hid (Blk.new _ _ _)
 have HBA : Hid (Below w.heap.size w wA) := by subst hwA; exact Lib.hid (bw_alloc (Below.refl _ _) _)
 rw [← hwA]
 have HKI := Lib.hid (kindsYes_any m A c T wA HS.out hn HP.out (tris_on HBA.out HT.out))
 have p0 : wA.cell? ⟨w.heap.size, 0, none⟩ = some (.int .i64 (m : Int)) := K1A.out.cell 0
 have p1 : wA.cell? ⟨w.heap.size, 1, none⟩ = some (.slice A T.length c) := K1A.out.cell 1
 clear hwA
 go_wp2_with fail
 refine HKI.out.mono ?_
 rintro e w1 ⟨Ak, ck, rfl, hk, hb⟩
 have HB1 := Lib.hid (bw_call HBA.out hb)
 have HKS := Lib.hid hk
 obtain ⟨K, hK⟩ : ∃ K, K = kN T := ⟨_, rfl⟩
 have HKE := Lib.hid hK
 rw [← hK]
 clear hb hk HKI p0 p1 hK
 go_upto_region 4 with (fail)
 obtain ⟨w2, hw2⟩ : ∃ U, U = w1.alloc (.cells #[.slice Ak K ck] 73) := ⟨_, rfl⟩
 have KL2 : Hid (Blk w2 w1.heap.size 73 #[.slice Ak K ck]) := by subst hw2; exact Lib.hid (Blk.new _ _ _)
 have HB2 : Hid (Below w.heap.size w w2) := by subst hw2; exact Lib.hid (bw_alloc HB1.out _)
 have HK2 : Hid (KindsAt w2 wA.heap.size Ak ck (kindsL T (kN T))) := by subst hw2; exact Lib.hid (HKS.out.alloc _)
 rw [← hw2]
 obtain ⟨bl, hbl⟩ : ∃ b, b = w1.heap.size := ⟨_, rfl⟩
 rw [← hbl] at KL2
 simp only [← hbl]
 clear hw2 hbl HKS HB1
 have l0 := KL2.out.cell 0
 simp at l0
 have HOR : Hid (Calls Tryz.prog 46 #[.slice Ak K ck] w2 (OrderPost w2 (orderN (kindsL T (kN T)) (kN T)))) := Lib.hid (by
  have hl := kindsL_len T (kN T)
  have := order_any wA.heap.size Ak ck (kindsL T (kN T)) w2 (by rw [hl]; exact Nat.le_trans (kN_le T) hn) (kinds_small HP.out hn).1 (kinds_small HP.out hn).2 HK2.out
  rw [hl, ← HKE.out] at this
  rw [← HKE.out]
  exact this)
 obtain ⟨o, ho⟩ : ∃ o, o = orderN (kindsL T (kN T)) (kN T) := ⟨_, rfl⟩
 rw [← ho] at HOR
 have HOE := Lib.hid ho
 clear ho
 go_wp2_with fail
 refine HOR.out.mono ?_
 rintro e w3 ⟨rfl, hb⟩
 have HB3 := Lib.hid (bw_call HB2.out hb)
 clear hb
 cases o with
 | none =>
  unfold ordV
  dsimp only
  go_wp2_with fail
  refine bodyPost_ret (v := .tuple #[.slice none 0 0, .int .i64 7]) ?_ rfl ⟨rfl, HB3.out⟩
  simp [results, Tryz.results25, go_sem]
 | some n =>
  have hbig : (1000 : Int) < (n : Int) := by have := HF.out n HOE.out.symm; omega
  unfold ordV
  dsimp only
  go_wp2_with fail
  refine bodyPost_ret (v := .tuple #[.slice none 0 0, .int .i64 7]) ?_ rfl ⟨rfl, HB3.out⟩
  simp [results, Tryz.results25, go_sem]
theorem symAll_yes (m : Nat) (A : Option Addr) (c : Nat) (T : List Tri) (w : World) (hs : checkR (m : Int) T = (0, 0, 0)) (hn : T.length ≤ 1000) (hp : PartsOk T) (n : Nat) (ho : orderN (kindsL T (kN T)) (kN T) = some n) (hn1 : n ≤ 1000) (hok : KOk m (kindsL T (kN T))) (hm : m ≤ 4096) (hc1 : (allR m T).length ≤ 100000) (hc2 : 0 < (allR m T).length) (ht : TrisAt w w.heap.size A T.length T) :
  Calls Tryz.prog 25 #[.agg #[.int .i64 (m : Int), .slice A T.length c]] w (AllYes w (allR m T)) := by
 have HT := Lib.hid ht
 have HS := Lib.hid hs
 have HP := Lib.hid hp
 have HOK := Lib.hid hok
 have HC1 := Lib.hid hc1
 have HC2 := Lib.hid hc2
 obtain ⟨i0, hi0, hz0, hz1, hz2⟩ := info_parts int_infoC
 obtain ⟨i4, hi4, kz0, kz1, kz2⟩ := info_parts bool_infoG
 clear ht hs hp hok hc1 hc2
 go_enter Tryz.func25, Tryz.ntmps25
 go_upto_region 1 with (fail)
 obtain ⟨wA, hwA⟩ : ∃ U, U = w.alloc (.cells #[.int .i64 (m : Int), .slice A T.length c] 24) := ⟨_, rfl⟩
 have K1A : Hid (Blk wA w.heap.size 24 #[.int .i64 (m : Int), .slice A T.length c]) := by subst hwA; exact Lib.hid (Blk.new _ _ _)
 have HBA : Hid (Below w.heap.size w wA) := by subst hwA; exact Lib.hid (bw_alloc (Below.refl _ _) _)
 rw [← hwA]
 have HKI := Lib.hid (kindsYes_any m A c T wA HS.out hn HP.out (tris_on HBA.out HT.out))
 have p0 : wA.cell? ⟨w.heap.size, 0, none⟩ = some (.int .i64 (m : Int)) := K1A.out.cell 0
 have p1 : wA.cell? ⟨w.heap.size, 1, none⟩ = some (.slice A T.length c) := K1A.out.cell 1
 clear hwA
 go_wp2_with fail
 refine HKI.out.mono ?_
 rintro e w1 ⟨Ak, ck, rfl, hk, hb⟩
 have HB1 := Lib.hid (bw_call HBA.out hb)
 have K11 := Lib.hid (K1A.out.below hb K1A.out.lt)
 have HKS := Lib.hid hk
 obtain ⟨K, hK⟩ : ∃ K, K = kN T := ⟨_, rfl⟩
 have HKE := Lib.hid hK
 rw [← hK]
 clear hb hk HKI p0 p1 hK
 go_upto_region 4 with (fail)
 obtain ⟨w2, hw2⟩ : ∃ U, U = w1.alloc (.cells #[.slice Ak K ck] 73) := ⟨_, rfl⟩
 have KL2 : Hid (Blk w2 w1.heap.size 73 #[.slice Ak K ck]) := by subst hw2; exact Lib.hid (Blk.new _ _ _)
 have HB2 : Hid (Below w.heap.size w w2) := by subst hw2; exact Lib.hid (bw_alloc HB1.out _)
 have HK2 : Hid (KindsAt w2 wA.heap.size Ak ck (kindsL T (kN T))) := by subst hw2; exact Lib.hid (HKS.out.alloc _)
 rw [← hw2]
 obtain ⟨bl, hbl⟩ : ∃ b, b = w1.heap.size := ⟨_, rfl⟩
 rw [← hbl] at KL2
 simp only [← hbl]
 have K1B : Hid (Blk w2 w.heap.size 24 #[.int .i64 (m : Int), .slice A T.length c]) := by subst hw2; exact Lib.hid (K11.out.alloc _)
 clear hw2 hbl HKS HB1
 have l0 := KL2.out.cell 0
 simp at l0
 have HOR : Hid (Calls Tryz.prog 46 #[.slice Ak K ck] w2 (OrderPost w2 (orderN (kindsL T (kN T)) (kN T)))) := Lib.hid (by
  have hl := kindsL_len T (kN T)
  have := order_any wA.heap.size Ak ck (kindsL T (kN T)) w2 (by rw [hl]; exact Nat.le_trans (kN_le T) hn) (kinds_small HP.out hn).1 (kinds_small HP.out hn).2 HK2.out
  rw [hl, ← HKE.out] at this
  rw [← HKE.out]
  exact this)
 rw [ho] at HOR
 have hKT : K ≤ 1000 := by rw [HKE.out]; exact Nat.le_trans (kN_le T) hn
 go_wp2_with fail
 refine HOR.out.mono ?_
 rintro e w3 ⟨rfl, hb⟩
 have HB3 := Lib.hid (bw_call HB2.out hb)
 have HK3 := Lib.hid (HK2.out.below hb)
 have KL3 := Lib.hid (KL2.out.below hb KL2.out.lt)
 have K13 := Lib.hid (K1B.out.below hb K1B.out.lt)
 have hsm : ¬ (1000 : Int) < (n : Int) := by omega
 unfold ordV
 dsimp only
 clear hb HOR HK2 KL2 K1B HB2 l0
 have hmkI : ∀ wx : World, (Instr.makeSlice 25 (.int .i64 (m : Int)) (.int .i64 (m : Int))).run Tryz.prog wx = .ok (.slice (some ⟨wx.heap.size, 0, none⟩) m m) (wx.alloc (.cells (intsA (List.replicate m 0)) 3)) := fun wx => by
  have := run_make_rowN (P := Tryz.prog) 25 3 i0 _ Tryz.underlying25 hi0 hz0 .i64 .i64 m m (Nat.le_refl _) (by rw [hz2]; omega) (by omega) wx
  rw [hz1, madeI1] at this
  exact this
 have hmkB : ∀ wx : World, (Instr.makeSlice 72 (.int .i64 (K : Int)) (.int .i64 (K : Int))).run Tryz.prog wx = .ok (.slice (some ⟨wx.heap.size, 0, none⟩) K K) (wx.alloc (.cells (boolA K (fun _ => false)) 4)) := fun wx => by
  have := run_make_rowN (P := Tryz.prog) 72 4 i4 _ Tryz.underlying72 hi4 kz0 .i64 .i64 K K (Nat.le_refl _) (by rw [kz2]; omega) (by omega) wx
  rw [kz1, madeBoolA] at this
  exact this
 go_upto_region 8 with (fail)
 obtain ⟨w4, hw4⟩ : ∃ U, U = w3.alloc (.cells #[.slice none 0 0] 33) := ⟨_, rfl⟩
 have KO4 : Hid (Blk w4 w3.heap.size 33 #[.slice none 0 0]) := by subst hw4; exact Lib.hid (Blk.new _ _ _)
 have KL4 : Hid (Blk w4 bl 73 #[.slice Ak K ck]) := by subst hw4; exact Lib.hid (KL3.out.alloc _)
 have K14 : Hid (Blk w4 w.heap.size 24 #[.int .i64 (m : Int), .slice A T.length c]) := by subst hw4; exact Lib.hid (K13.out.alloc _)
 have H34 : Hid (Below w3.heap.size w3 w4) := by subst hw4; exact Lib.hid (bw_alloc (Below.refl _ _) _)
 rw [← hw4]
 obtain ⟨bo, hbo⟩ : ∃ b, b = w3.heap.size := ⟨_, rfl⟩
 have HGo : Hid (w3.heap.size ≤ bo) := Lib.hid (by omega)
 rw [← hbo] at KO4
 simp only [← hbo]
 have p0 : w4.cell? ⟨w.heap.size, 0, none⟩ = some (.int .i64 (m : Int)) := K14.out.cell 0
 clear hw4 hbo KL3 K13
 go_upto_region 9 with (fail)
 obtain ⟨w5, hw5⟩ : ∃ U, U = (w4.alloc (.cells (intsA (List.replicate m 0)) 3)).alloc (.cells #[.slice (some ⟨w4.heap.size, 0, none⟩) m m] 25) := ⟨_, rfl⟩
 have KG5 : Hid (Blk w5 w4.heap.size 3 (intsA (List.replicate m 0))) := by subst hw5; exact Lib.hid ((Blk.new _ _ _).alloc _)
 have KT5 : Hid (Blk w5 (w4.heap.size + 1) 25 #[.slice (some ⟨w4.heap.size, 0, none⟩) m m]) := by subst hw5; exact Lib.hid (Blk.new_ (by rw [World.size_alloc]) _ _)
 have KO5 : Hid (Blk w5 bo 33 #[.slice none 0 0]) := by subst hw5; exact Lib.hid ((KO4.out.alloc _).alloc _)
 have KL5 : Hid (Blk w5 bl 73 #[.slice Ak K ck]) := by subst hw5; exact Lib.hid ((KL4.out.alloc _).alloc _)
 have H35 : Hid (Below w3.heap.size w3 w5) := by subst hw5; exact Lib.hid (bw_alloc (bw_alloc H34.out _) _)
 have HGt : Hid (w3.heap.size ≤ w4.heap.size) := Lib.hid H34.out.size
 rw [← hw5]
 obtain ⟨bt, hbt⟩ : ∃ b, b = w4.heap.size + 1 := ⟨_, rfl⟩
 obtain ⟨gt, hgt⟩ : ∃ b, b = w4.heap.size := ⟨_, rfl⟩
 rw [← hbt, ← hgt] at KT5
 rw [← hgt] at KG5 HGt
 simp only [← hbt]
 simp only [← hgt]
 have l0 := KL5.out.cell 0
 simp at l0
 clear hw5 hbt hgt KO4 KL4 K14 H34 p0 hmkI
 go_upto_region 10 with (fail)
 obtain ⟨w6, hw6⟩ : ∃ U, U = (w5.alloc (.cells (boolA K (fun _ => false)) 4)).alloc (.cells #[.slice (some ⟨w5.heap.size, 0, none⟩) K K] 72) := ⟨_, rfl⟩
 have KH6 : Hid (Blk w6 w5.heap.size 4 (boolA K (fun _ => false))) := by subst hw6; exact Lib.hid ((Blk.new _ _ _).alloc _)
 have KU6 : Hid (Blk w6 (w5.heap.size + 1) 72 #[.slice (some ⟨w5.heap.size, 0, none⟩) K K]) := by subst hw6; exact Lib.hid (Blk.new_ (by rw [World.size_alloc]) _ _)
 have KG6 : Hid (Blk w6 gt 3 (intsA (List.replicate m 0))) := by subst hw6; exact Lib.hid ((KG5.out.alloc _).alloc _)
 have KT6 : Hid (Blk w6 bt 25 #[.slice (some ⟨gt, 0, none⟩) m m]) := by subst hw6; exact Lib.hid ((KT5.out.alloc _).alloc _)
 have KO6 : Hid (Blk w6 bo 33 #[.slice none 0 0]) := by subst hw6; exact Lib.hid ((KO5.out.alloc _).alloc _)
 have KL6 : Hid (Blk w6 bl 73 #[.slice Ak K ck]) := by subst hw6; exact Lib.hid ((KL5.out.alloc _).alloc _)
 have H36 : Hid (Below w3.heap.size w3 w6) := by subst hw6; exact Lib.hid (bw_alloc (bw_alloc H35.out _) _)
 have HGu : Hid (w3.heap.size ≤ w5.heap.size) := Lib.hid H35.out.size
 rw [← hw6]
 obtain ⟨bu, hbu⟩ : ∃ b, b = w5.heap.size + 1 := ⟨_, rfl⟩
 obtain ⟨gu, hgu⟩ : ∃ b, b = w5.heap.size := ⟨_, rfl⟩
 rw [← hbu, ← hgu] at KU6
 rw [← hgu] at KH6 HGu
 simp only [← hbu]
 simp only [← hgu]
 clear hw6 hbu hgu KG5 KT5 KO5 KL5 H35 l0 hmkB
 go_upto_region 12 with (fail)
 obtain ⟨bg, hbg⟩ : ∃ b, b = w6.heap.size := ⟨_, rfl⟩
 simp only [← hbg]
 obtain ⟨w7, hw7⟩ : ∃ U, U = w6.alloc (.cells #[.func (.func 52) #[] #[.pointer (some ⟨bl, 0, none⟩), .pointer (some ⟨bo, 0, none⟩), .pointer (some ⟨bt, 0, none⟩), .pointer (some ⟨bu, 0, none⟩), .pointer (some ⟨bg, 0, none⟩)]] 88) := ⟨_, rfl⟩
 have KF7 : Hid (Blk w7 bg 88 #[.func (.func 52) #[] #[.pointer (some ⟨bl, 0, none⟩), .pointer (some ⟨bo, 0, none⟩), .pointer (some ⟨bt, 0, none⟩), .pointer (some ⟨bu, 0, none⟩), .pointer (some ⟨bg, 0, none⟩)]]) := by subst hw7; exact Lib.hid (Blk.new_ hbg.symm _ _)
 have KH7 : Hid (Blk w7 gu 4 (boolA K (fun _ => false))) := by subst hw7; exact Lib.hid (KH6.out.alloc _)
 have KU7 : Hid (Blk w7 bu 72 #[.slice (some ⟨gu, 0, none⟩) K K]) := by subst hw7; exact Lib.hid (KU6.out.alloc _)
 have KG7 : Hid (Blk w7 gt 3 (intsA (List.replicate m 0))) := by subst hw7; exact Lib.hid (KG6.out.alloc _)
 have KT7 : Hid (Blk w7 bt 25 #[.slice (some ⟨gt, 0, none⟩) m m]) := by subst hw7; exact Lib.hid (KT6.out.alloc _)
 have KO7 : Hid (Blk w7 bo 33 #[.slice none 0 0]) := by subst hw7; exact Lib.hid (KO6.out.alloc _)
 have KL7 : Hid (Blk w7 bl 73 #[.slice Ak K ck]) := by subst hw7; exact Lib.hid (KL6.out.alloc _)
 have H37 : Hid (Below w3.heap.size w3 w7) := by subst hw7; exact Lib.hid (bw_alloc H36.out _)
 rw [← hw7]
 clear hw7 hbg KH6 KU6 KG6 KT6 KO6 KL6 H36
 obtain ⟨ks, hks⟩ : ∃ ks, ks = kindsL T (kN T) := ⟨_, rfl⟩
 rw [← hks] at HK3 HOK
 have hkl : ks.length = K := by rw [hks, kindsL_len]; exact HKE.out.symm
 have HAR : Hid (allR m T = (goR ks K 0 (fun _ => false) ([], List.replicate m 0)).1) := Lib.hid (by unfold allR; rw [hks, HKE.out])
 have HGC : Hid (GoC w7 bl bo bt bu bg gt gu m Ak ck ks) := Lib.hid ⟨by rw [hkl]; exact KL7.out, ⟨_, KO7.out⟩, KT7.out, by rw [hkl]; exact KU7.out, KF7.out, ⟨_, KG7.out⟩, ⟨_, KH7.out⟩, ⟨w3, wA.heap.size, HK3.out, H37.out, HGo.out, HGt.out, HGu.out⟩, hm⟩
 have HGA : Hid (GAt w7 bo gt gu m ks.length (fun _ => false) ([], List.replicate m 0) w7) := Lib.hid ⟨Only.refl _ _, ⟨none, 0, KO7.out, WaysAt.nil _ _⟩, KG7.out, by simp, by rw [hkl]; exact KH7.out⟩
 have HGO : Hid (Calls Tryz.prog 52 #[.int .i64 0, .pointer (some ⟨bl, 0, none⟩), .pointer (some ⟨bo, 0, none⟩), .pointer (some ⟨bt, 0, none⟩), .pointer (some ⟨bu, 0, none⟩), .pointer (some ⟨bg, 0, none⟩)] w7 (GoPost w7 bo gt gu m ks.length (fun _ => false) (goR ks K 0 (fun _ => false) ([], List.replicate m 0)))) := Lib.hid (go1_any HGC.out HOK.out (by rw [hkl]; exact hKT) K 0 (fun _ => false) ([], List.replicate m 0) w7 (by omega) (by rw [← HAR.out]; exact HC1.out) HGA.out)
 have g0 := KF7.out.cell 0
 simp at g0
 clear hks HK3 KH7 KU7 KG7 KT7 KO7 KL7 HGA
 go_wp2_with fail
 refine HGO.out.mono ?_
 rintro e w8 ⟨rfl, hG⟩
 obtain ⟨Ao, co, hko, hws⟩ := hG.out
 rw [← HAR.out] at hko hws
 have H38 : Hid (Below w3.heap.size w3 w8) := Lib.hid (H37.out.trans (hG.o.below H37.out.size fun k hk hf => by have h1 := HGo.out; have h2 := HGt.out; have h3 := HGu.out; rcases hf with e | e | e <;> omega))
 obtain ⟨L, hL1, hL2, hL3⟩ := hws.ex
 have hLl : L.length = (allR m T).length := by rw [← hL1, List.length_map]
 obtain ⟨g, cg, hAo, _⟩ := World.ownsRow.form hL2 HC2.out
 injection hAo with hAo _ hcg
 subst hAo
 subst hcg
 rw [← hLl] at hL2 hko
 have HSO := Lib.hid (sortRows_any w7.heap.size g co L w8 (by rw [hLl]; exact HC2.out) (by rw [hLl]; have := HC1.out; omega) hL2 (by
  obtain ⟨cs, hbk⟩ := own_blk hL2 (k := g) rfl
  exact held_ways hbk hL3))
 have HLS : Hid (L.map Prod.snd = allR m T) := Lib.hid hL1
 have HLI := Lib.hid hL3
 obtain ⟨nL, hnL⟩ : ∃ n, n = L.length := ⟨_, rfl⟩
 rw [← hnL] at HSO hko
 have HNL := Lib.hid hnL
 have KO8 := Lib.hid hko
 have HGE : Hid (w7.heap.size ≤ g ∧ g < w8.heap.size) := Lib.hid (World.ownsRow.lt hL2 g rfl)
 have o0 := hko.cell 0
 have HBG : Hid (∃ cs, Blk w8 g 25 cs) := Lib.hid (own_blk hL2 (k := g) rfl)
 simp at o0
 clear hG hko hws hL1 hL2 hL3 hLl hnL HGO HGC g0 KF7
 go_wp2_with fail
 refine HSO.out.mono ?_
 rintro e w9 ⟨rfl, L', hp, hs, ho, hb⟩
 have hne : bo ≠ g := by
  obtain ⟨cs, h⟩ := HBG.out
  exact KO8.out.ne_ h (by decide)
 have KO9 := Lib.hid (KO8.out.only hb hne)
 have o0 := KO9.out.cell 0
 have H39 : Hid (Below w.heap.size w w9) := Lib.hid (HB3.out.trans ((H38.out.trans (hb.below H38.out.size fun k hk e => by have := HGE.out.1; have := H37.out.size; omega)).mono HB3.out.size))
 have hws9 : WaysAt w9 w.heap.size (some ⟨g, 0, none⟩) co (L'.map Prod.snd) := by
  have hle : w.heap.size ≤ w7.heap.size := Nat.le_trans HB3.out.size H37.out.size
  refine ⟨⟨L', rfl, ?_, fun x hx => ?_⟩⟩
  · rw [List.length_map, hp.length_eq, ← HNL.out]
    exact own_low ho hle
  · have h1 := HLI.out x (hp.mem_iff.1 hx)
    refine own_low (own_same h1 fun q hq => hb.block q (World.ownsRow.lt h1 q hq).2 fun e => ?_) hle
    obtain ⟨cs, h⟩ := HBG.out
    exact own_blk_ne h1 h (by decide) (by rw [hq, e])
 have HWS9 := Lib.hid hws9
 have hnl : nL = (L'.map Prod.snd).length := by rw [List.length_map, hp.length_eq]; exact HNL.out
 have HNL2 := Lib.hid hnl
 have HPE : Hid ((L'.map Prod.snd).Perm (allR m T)) := Lib.hid (by rw [← HLS.out]; exact hp.map _)
 have HSW : Hid ((L'.map Prod.snd).Pairwise fun x y => ¬ ltL y x) := Lib.hid (by rw [List.pairwise_map]; exact hs)
 simp at o0
 clear hp hs ho hb hws9 hnl
 go_wp2_with fail
 refine bodyPost_ret (v := .tuple #[.slice (some ⟨g, 0, none⟩) nL co, .int .i64 0]) ?_ rfl ⟨some ⟨g, 0, none⟩, co, L'.map Prod.snd, by rw [← HNL2.out], HPE.out, HSW.out, HWS9.out, H39.out⟩
 simp [results, Tryz.results25, go_sem]
end Go.Proofs.YtiajlmajenabiaaGreat
