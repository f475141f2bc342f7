/- predict.Known, walked. No condition but sizes. -/
import Derived.Test.YtcpfolojfdnojaaKnB
import Derived.Test.YtcpfolojfdnojaaIs
import Derived.IntWalk
namespace Go.Proofs.Ytcpfolojfdnojaa
open Go.RowKit

set_option linter.unusedSimpArgs false
set_option linter.unusedVariables false
theorem around_info : (Try.prog.info? 32).map (fun i => (i.zero, i.size, i.bytes)) = some (some (.agg #[.int .i64 0, .int .i64 0, .int .i64 0, .int .i64 0, .int .i64 0]), 5, 40) := by kernel_rfl
def KnPost (w : World) (N : Int) (T : List Tri) (e : Ending) (w' : World) : Prop :=
  (checkR N T ≠ (0, 0, 0) ∧ e = .returned (.slice none 0 0) ∧ Below w.heap.size w w') ∨
  (∃ (m g : Nat), N = (m : Int) ∧ checkR N T = (0, 0, 0) ∧ e = .returned (.slice (some ⟨g, 0, none⟩) m m) ∧ w.heap.size ≤ g ∧ Blk w' g 32 (arr m (known T)) ∧ Below w.heap.size w w')
def fillF (k : Nat) : Nat → Ar := fun v => if v < k then ar0 (v : Int) else ⟨0, 0, 0, 0, 0⟩
theorem fill_zero (m : Nat) : arr m (fun _ => ⟨0, 0, 0, 0, 0⟩) = arr m (fillF 0) := rfl
theorem fill_step (k : Nat) : updF (fillF k) k ⟨(k : Int) - 1, -1, -1, -1, -1⟩ = fillF (k + 1) := by
  funext u
  unfold updF fillF
  by_cases e : u = k
  · subst e
    rw [if_pos rfl, if_pos (by omega)]
    rfl
  · rw [if_neg e]
    by_cases h : u < k
    · rw [if_pos h, if_pos (by omega)]
    · rw [if_neg h, if_neg (by omega)]
theorem fill_end (m : Nat) (T : List Tri) : arr m (fillF m) = arr m (knK T 0) := arr_congr fun v hv => by
  unfold fillF
  rw [if_pos hv, knK_zero]
theorem blk_fld {w : World} {g m v j : Nat} {f : Nat → Ar} (h : Blk w g 32 (arr m f)) (hv : v < m) (hj : j < 5) : w.cell? ⟨g, v * 5 + j, none⟩ = some (.int .i64 (fld (f v) j)) := by
  rw [h.cell]
  exact arr_at f hv hj
theorem blk_setF {w : World} {g m v j : Nat} {f : Nat → Ar} (h : Blk w g 32 (arr m f)) (hv : v < m) (hj : j < 5) (u : Int) : Blk (w.setCell ⟨g, v * 5 + j, none⟩ (.int .i64 u)) g 32 (arr m (updF f v (setfld (f v) j u))) := by
  have h1 := h.set_ (v * 5 + j) (.int .i64 u)
  rwa [arr_set f u hv hj] at h1
theorem blk_set5 {w : World} {g m v : Nat} {f : Nat → Ar} (h : Blk w g 32 (arr m f)) (hv : v < m) (a b c d e : Int) :
    Blk (((((w.setCell ⟨g, v * 5, none⟩ (.int .i64 a)).setCell ⟨g, v * 5 + 1, none⟩ (.int .i64 b)).setCell ⟨g, v * 5 + 2, none⟩ (.int .i64 c)).setCell ⟨g, v * 5 + 3, none⟩ (.int .i64 d)).setCell ⟨g, v * 5 + 4, none⟩ (.int .i64 e)) g 32 (arr m (updF f v ⟨a, b, c, d, e⟩)) := by
  have h0 := blk_setF h hv (j := 0) (by omega) a
  have h1 := blk_setF h0 hv (j := 1) (by omega) b
  have h2 := blk_setF h1 hv (j := 2) (by omega) c
  have h3 := blk_setF h2 hv (j := 3) (by omega) d
  have h4 := blk_setF h3 hv (j := 4) (by omega) e
  simp only [updF_upd, updF_at] at h4
  exact h4
theorem blk_fldU {w : World} {g m v j : Nat} {f : Nat → Ar} {x : Ar} (h : Blk w g 32 (arr m (updF f v x))) (hv : v < m) (hj : j < 5) : w.cell? ⟨g, v * 5 + j, none⟩ = some (.int .i64 (fld x j)) := by
  have h1 := blk_fld h hv hj
  rwa [updF_at] at h1
theorem blk_setU {w : World} {g m v j : Nat} {f : Nat → Ar} {x : Ar} (h : Blk w g 32 (arr m (updF f v x))) (hv : v < m) (hj : j < 5) (u : Int) : Blk (w.setCell ⟨g, v * 5 + j, none⟩ (.int .i64 u)) g 32 (arr m (updF f v (setfld x j u))) := by
  have h1 := blk_setF h hv hj u
  rwa [updF_upd, updF_at] at h1
theorem top_iff {T : List Tri} {v : Int} {c : Nat} : topB T v c = true ↔ cv T c = v ∧ cv T (nxc c) < v ∧ cv T (pvc c) < v := by
  unfold topB
  rw [decide_eq_true_eq]
attribute [local irreducible] Blk LRow World.alloc World.setCell World.cell? World.frozen? MapV
set_option maxRecDepth 100000 in
set_option maxHeartbeats 8000000 in
theorem known_any (N : Int) (A : Option Addr) (n c : Nat) (T : List Tri) (w : World) (hn : n ≤ 1000) (ht : TrisAt w w.heap.size A n T) :
    Calls Try.prog 11 #[.agg #[.int .i64 N, .slice A n c]] w (KnPost w N T) := by
  obtain rfl : n = T.length := ht.len.symm
  have HT := Lib.hid ht
  clear ht
  obtain ⟨V, hV⟩ : ∃ V, V = w.alloc (.cells #[.int .i64 N, .slice A T.length c] 24) := ⟨_, rfl⟩
  have GA0 : Hid (Blk V w.heap.size 24 #[.int .i64 N, .slice A T.length c]) := by subst hV; exact Lib.hid (Blk.new _ _ _)
  have HB0 : Hid (Below w.heap.size w V) := by subst hV; exact Lib.hid (bw_alloc (Below.refl _ _) _)
  go_enter Try.func11, Try.ntmps11
  go_upto_region 1 with (fail)
  rw [← hV]
  clear hV
  obtain ⟨ga, hga⟩ : ∃ g, g = w.heap.size := ⟨_, rfl⟩
  rw [← hga] at GA0
  simp only [← hga]
  clear hga
  obtain ⟨s0, s1, _, _, _⟩ := soup_facts GA0.out
  go_wp2_with fail
  refine (is_any N A T.length c T V (by omega) ((HT.out.below HB0.out).more HB0.out.size)).mono ?_
  rintro e w1 ⟨rfl, hb⟩
  have GA1 := Lib.hid (blk_call GA0.out hb)
  have HB1 := Lib.hid (bw_call HB0.out hb)
  clear hb GA0 HB0 s0 s1
  by_cases hck : checkR N T = (0, 0, 0)
  rotate_left
  · rw [decide_eq_false hck]
    have HCK := Lib.hid hck
    clear hck
    go_wp2_with fail
    go_ret
    exact Or.inl ⟨HCK.out, rfl, HB1.out⟩
  rw [decide_eq_true hck]
  obtain ⟨m, hs⟩ := surf_of (checkR_zero (by rw [hck])).1
  obtain rfl : N = (m : Int) := hs.n
  have hm1 := hs.m1
  have HS := Lib.hid hs
  have HCK := Lib.hid hck
  clear hck hs
  obtain ⟨s0, s1, _, _, _⟩ := soup_facts GA1.out
  go_wp2_with fail
  refine (new_any (m : Int) A T.length c T w1 (by omega) ((HT.out.below HB1.out).more HB1.out.size)).mono ?_
  rintro e w2 (⟨hx, g, rfl, htab, hb⟩ | ⟨hx, rfl, hb⟩)
  rotate_left
  · exact absurd HCK.out hx
  have GA2 := Lib.hid (blk_call GA1.out hb)
  have HB2 := Lib.hid (bw_call HB1.out hb)
  have TB2 : Hid (TabAt w2 0 g (m : Int) T) := Lib.hid (htab.base (Nat.zero_le _))
  clear hb htab hx GA1 HB1 s0 s1
  unfold wv
  simp only
  obtain ⟨w3, hw3⟩ : ∃ w3, w3 = w2.alloc (.cells #[.int .i64 0, .int .i64 0, .int .i64 0] 52) := ⟨_, rfl⟩
  have GA3 : Hid (Blk w3 ga 24 #[.int .i64 (m : Int), .slice A T.length c]) := by subst hw3; exact Lib.hid (GA2.out.alloc _)
  have TB3 : Hid (TabAt w3 0 g (m : Int) T) := by subst hw3; exact Lib.hid (TB2.out.alloc _)
  have HB3 : Hid (Below w.heap.size w w3) := by subst hw3; exact Lib.hid (bw_alloc HB2.out _)
  go_upto_region 4 with (fail)
  rw [← hw3]
  generalize w2.heap.size = gx at *
  clear hw3 GA2 TB2 HB2
  obtain ⟨i1, hi1, hy0, hy1, hy2⟩ := info_parts around_info
  have hmk := fun W => run_make_rowN (P := Try.prog) 26 32 i1 (.agg #[.int .i64 0, .int .i64 0, .int .i64 0, .int .i64 0, .int .i64 0]) Try.underlying26 hi1 hy0 .i64 .i64 m m (Nat.le_refl _) (by rw [hy2]; omega) (by omega) W
  rw [hy1, madeAr] at hmk
  clear hi1 hy0 hy1 hy2
  obtain ⟨w4, hw4⟩ : ∃ w4, w4 = w3.alloc (.cells (arr m fun _ => ⟨0, 0, 0, 0, 0⟩) 32) := ⟨_, rfl⟩
  have GK4 : Hid (Blk w4 w3.heap.size 32 (arr m (fillF 0))) := by subst hw4; exact Lib.hid (Blk.new _ _ _)
  have GA4 : Hid (Blk w4 ga 24 #[.int .i64 (m : Int), .slice A T.length c]) := by subst hw4; exact Lib.hid (GA3.out.alloc _)
  have TB4 : Hid (TabAt w4 0 g (m : Int) T) := by subst hw4; exact Lib.hid (TB3.out.alloc _)
  have HB4 : Hid (Below w.heap.size w w4) := by subst hw4; exact Lib.hid (bw_alloc HB3.out _)
  have HGK : Hid (w.heap.size ≤ w3.heap.size) := Lib.hid HB3.out.size
  obtain ⟨s0, s1, _, _, _⟩ := soup_facts GA3.out
  go_upto_region 5 with (fail)
  rw [← hw4]
  generalize w3.heap.size = gk at *
  clear hw4 GA3 TB3 HB3 s0 s1 hmk
  go_wp2_with fail
  go_loopw [25] (fun iv wr => ∃ k : Nat, k ≤ m ∧ iv = .int .i64 k ∧ Hid (Blk wr gk 32 (arr m (fillF k))) ∧ Hid (Blk wr ga 24 #[.int .i64 (m : Int), .slice A T.length c]) ∧ Hid (TabAt wr 0 g (m : Int) T) ∧ Hid (Below w.heap.size w wr)) (fun iv _ => m - (intOf iv).toNat)
  case atStart => exact ⟨0, by omega, rfl, GK4, GA4, TB4, HB4⟩
  case round =>
    obtain ⟨k, hk, rfl, GKk, GAk, TBk, HBk⟩ := hrel
    obtain ⟨wB, hwB⟩ : ∃ wB : World, wB = wr := ⟨_, rfl⟩
    rw [← hwB] at GKk GAk TBk HBk ⊢
    clear hwB GK4 GA4 TB4 HB4
    by_cases hlt : k < m
    · have e0 := blk_fld GKk.out hlt (j := 0) (by omega)
      have e1 := blk_fld GKk.out hlt (j := 1) (by omega)
      have e2 := blk_fld GKk.out hlt (j := 2) (by omega)
      have e3 := blk_fld GKk.out hlt (j := 3) (by omega)
      have e4 := blk_fld GKk.out hlt (j := 4) (by omega)
      rw [Nat.add_zero] at e0
      generalize fld (fillF k k) 0 = z0 at e0
      generalize fld (fillF k k) 1 = z1 at e1
      generalize fld (fillF k k) 2 = z2 at e2
      generalize fld (fillF k k) 3 = z3 at e3
      generalize fld (fillF k k) 4 = z4 at e4
      have f0 := GKk.out.frozen (k * 5)
      have f1 := GKk.out.frozen (k * 5 + 1)
      have f2 := GKk.out.frozen (k * 5 + 2)
      have f3 := GKk.out.frozen (k * 5 + 3)
      have f4 := GKk.out.frozen (k * 5 + 4)
      have hki : (k : Int) < (m : Int) := by omega
      have hw1 : IntKind.i64.wrap ((k : Int) - 1) = (k : Int) - 1 := IntWalk.i64_in _ (by omega)
      have hS := blk_set5 GKk.out hlt ((k : Int) - 1) (-1) (-1) (-1) (-1)
      rw [fill_step] at hS
      have HS5 := Lib.hid hS
      have GA5 := ((((GAk.out.far (GAk.out.ne_ GKk.out (by decide)) (.int .i64 ((k : Int) - 1)) (p := ⟨gk, k * 5, none⟩)).far (GAk.out.ne_ GKk.out (by decide)) (.int .i64 (-1)) (p := ⟨gk, k * 5 + 1, none⟩)).far (GAk.out.ne_ GKk.out (by decide)) (.int .i64 (-1)) (p := ⟨gk, k * 5 + 2, none⟩)).far (GAk.out.ne_ GKk.out (by decide)) (.int .i64 (-1)) (p := ⟨gk, k * 5 + 3, none⟩)).far (GAk.out.ne_ GKk.out (by decide)) (.int .i64 (-1)) (p := ⟨gk, k * 5 + 4, none⟩)
      have GAn := Lib.hid GA5
      have q0 := GKk.out.set_ (k * 5) (.int .i64 ((k : Int) - 1))
      have q1 := q0.set_ (k * 5 + 1) (.int .i64 (-1))
      have q2 := q1.set_ (k * 5 + 2) (.int .i64 (-1))
      have q3 := q2.set_ (k * 5 + 3) (.int .i64 (-1))
      have TB5 := TBk.out.setAr (k := k * 5) GKk.out (by rw [arr_size]; omega) (.int .i64 ((k : Int) - 1))
      have TB6 := TB5.setAr (k := k * 5 + 1) q0 (by simp [arr_size]; omega) (.int .i64 (-1))
      have TB7 := TB6.setAr (k := k * 5 + 2) q1 (by simp [arr_size]; omega) (.int .i64 (-1))
      have TB8 := TB7.setAr (k := k * 5 + 3) q2 (by simp [arr_size]; omega) (.int .i64 (-1))
      have TBn := Lib.hid (TB8.setAr (k := k * 5 + 4) q3 (by simp [arr_size]; omega) (.int .i64 (-1)))
      have HBn := Lib.hid (bw_set (bw_set (bw_set (bw_set (bw_set HBk.out HGK.out (.int .i64 ((k : Int) - 1)) (p := ⟨gk, k * 5, none⟩)) HGK.out (.int .i64 (-1)) (p := ⟨gk, k * 5 + 1, none⟩)) HGK.out (.int .i64 (-1)) (p := ⟨gk, k * 5 + 2, none⟩)) HGK.out (.int .i64 (-1)) (p := ⟨gk, k * 5 + 3, none⟩)) HGK.out (.int .i64 (-1)) (p := ⟨gk, k * 5 + 4, none⟩))
      clear hS GA5 q0 q1 q2 q3 TB5 TB6 TB7 TB8 GKk GAk TBk HBk
      go_wp2_with fail
      exact ⟨⟨k + 1, by omega, by go_num, HS5, GAn, TBn, HBn⟩, by simp [intOf]; omega⟩
    · obtain rfl : k = m := by omega
      rw [fill_end k T] at GKk
      obtain ⟨s0, s1, _, _, _⟩ := soup_facts GAk.out
      have hT8 : T.length ≤ 8192 := by omega
      have hw3 : IntKind.i64.wrap (3 * (T.length : Int)) = 3 * (T.length : Int) := IntWalk.i64_in _ (by omega)
      go_wp2_with fail
      clear s0 s1
      go_loopw [39] (fun iv wr => ∃ k' : Nat, k' ≤ 3 * T.length ∧ iv = .int .i64 k' ∧ Hid (Blk wr gk 32 (arr k (knK T k'))) ∧ Hid (TabAt wr 0 g (k : Int) T) ∧ Hid (Below w.heap.size w wr)) (fun iv _ => 3 * T.length - (intOf iv).toNat)
      case atStart => exact ⟨0, by omega, rfl, GKk, TBk, HBk⟩
      case round =>
        obtain ⟨j, hj, rfl, GKj, TBj, HBj⟩ := hrel
        obtain ⟨wC, hwC⟩ : ∃ wC : World, wC = wr := ⟨_, rfl⟩
        rw [← hwC] at GKj TBj HBj ⊢
        clear hwC GKk GAk TBk HBk
        by_cases hlt : j < 3 * T.length
        · have hji : (j : Int) < 3 * (T.length : Int) := by omega
          have o0 := cv_ok HS.out.ok hlt
          have o1 := cv_ok HS.out.ok (nxc_lt hlt)
          have o2 := cv_ok HS.out.ok (pvc_lt hlt)
          have HV0 : Hid (∀ (W : World), TabAt W 0 g (k : Int) T → Calls Try.prog 20 #[.pointer (some ⟨g, 0, none⟩), .int .i64 (j : Int)] W (IsPost W (.int .i64 (cv T j)))) := Lib.hid fun W h => vertexI_nat hlt ▸ vertex_any g 0 k T j W hT8 h.s
          have HN0 : Hid (∀ (W : World), TabAt W 0 g (k : Int) T → Calls Try.prog 21 #[.pointer (some ⟨g, 0, none⟩), .int .i64 (j : Int)] W (IsPost W (.int .i64 (nxc j : Int)))) := Lib.hid fun W h => nextI_nat hlt ▸ next_any g 0 k T j W hT8 h.s
          have HP0 : Hid (∀ (W : World), TabAt W 0 g (k : Int) T → Calls Try.prog 22 #[.pointer (some ⟨g, 0, none⟩), .int .i64 (j : Int)] W (IsPost W (.int .i64 (pvc j : Int)))) := Lib.hid fun W h => prevI_nat hlt ▸ prev_any g 0 k T j W hT8 h.s
          have HV1 : Hid (∀ (W : World), TabAt W 0 g (k : Int) T → Calls Try.prog 20 #[.pointer (some ⟨g, 0, none⟩), .int .i64 (nxc j : Int)] W (IsPost W (.int .i64 (cv T (nxc j))))) := Lib.hid fun W h => vertexI_nat (nxc_lt hlt) ▸ vertex_any g 0 k T (nxc j) W hT8 h.s
          have HV2 : Hid (∀ (W : World), TabAt W 0 g (k : Int) T → Calls Try.prog 20 #[.pointer (some ⟨g, 0, none⟩), .int .i64 (pvc j : Int)] W (IsPost W (.int .i64 (cv T (pvc j))))) := Lib.hid fun W h => vertexI_nat (pvc_lt hlt) ▸ vertex_any g 0 k T (pvc j) W hT8 h.s
          obtain ⟨vn, hvn⟩ : ∃ vn : Nat, cv T j = (vn : Int) := ⟨(cv T j).toNat, by omega⟩
          have hvk : vn < k := by omega
          have hvki : (vn : Int) < (k : Int) := by omega
          have HTI := Lib.hid (@top_iff T (vn : Int) j)
          have HAO : Hid (arOf T (vn : Int) j = ⟨(vn : Int) - 1, cv T (nxc j), cv T (pvc j), overI T (cv T (pvc j)) (cv T (nxc j)) (vn : Int), if overI T (cv T (pvc j)) (cv T (nxc j)) (vn : Int) < 0 then -1 else if overI T (cv T (pvc j)) (overI T (cv T (pvc j)) (cv T (nxc j)) (vn : Int)) (vn : Int) < 0 then overI T (overI T (cv T (pvc j)) (cv T (nxc j)) (vn : Int)) (cv T (nxc j)) (vn : Int) else overI T (cv T (pvc j)) (overI T (cv T (pvc j)) (cv T (nxc j)) (vn : Int)) (vn : Int)⟩) := Lib.hid rfl
          have HKS := Lib.hid (knK_step (k := j) hvn)
          have HCV := Lib.hid hvn
          rw [hvn] at HV0 HTI
          clear hvn
          generalize cv T (nxc j) = av at *
          generalize cv T (pvc j) = bv at *
          generalize nxc j = n1 at *
          generalize pvc j = n2 at *
          go_wp2_with fail
          refine (HV0.out wC TBj.out).mono ?_
          rintro e w6 ⟨rfl, hw6⟩
          replace hw6 := hw6.symm
          subst hw6
          go_wp2_with fail
          refine (HN0.out wC TBj.out).mono ?_
          rintro e w6 ⟨rfl, hw6⟩
          replace hw6 := hw6.symm
          subst hw6
          go_wp2_with fail
          refine (HV1.out wC TBj.out).mono ?_
          rintro e w6 ⟨rfl, hw6⟩
          replace hw6 := hw6.symm
          subst hw6
          go_wp2_with fail
          refine (HP0.out wC TBj.out).mono ?_
          rintro e w6 ⟨rfl, hw6⟩
          replace hw6 := hw6.symm
          subst hw6
          go_wp2_with fail
          refine (HV2.out wC TBj.out).mono ?_
          rintro e w6 ⟨rfl, hw6⟩
          replace hw6 := hw6.symm
          subst hw6
          clear HV0 HV1 HV2 HN0 HP0
          have y1 := blk_fld GKj.out hvk (j := 1) (by omega)
          cases hlf : leastF (topB T (vn : Int)) 0 j with
          | some cc =>
            have hgo := leastF_some hlf
            have hEQ := knK_had hlf
            have hf1 : fld (knK T j vn) 1 = cv T (nxc cc) := by unfold knK; rw [hlf]; rfl
            have oa := cv_ok HS.out.ok (c := nxc cc) (nxc_lt (by omega))
            rw [hf1] at y1
            have GKn : Hid (Blk wC gk 32 (arr k (knK T (j + 1)))) := Lib.hid (by rw [HKS.out, hEQ, updF_same]; exact GKj.out)
            generalize cv T (nxc cc) = ac at *
            have hac : 0 ≤ ac := oa.1
            clear hgo hEQ hf1 oa hlf
            go_wp2_with fail
            exact ⟨⟨j + 1, by omega, by go_num, GKn, TBj, HBj⟩, by simp [intOf]; omega⟩
          | none =>
            have hf1 : fld (knK T j vn) 1 = -1 := by unfold knK; rw [hlf]; rfl
            rw [hf1] at y1
            by_cases hab : av < (vn : Int) ∧ bv < (vn : Int)
            rotate_left
            · have hEQ := knK_other (T := T) (k := j) (v := vn) (by
                cases ht : topB T (vn : Int) j with
                | false => rfl
                | true => exact absurd (HTI.out.1 ht).2 hab)
              have GKn : Hid (Blk wC gk 32 (arr k (knK T (j + 1)))) := Lib.hid (by rw [HKS.out, hEQ, updF_same]; exact GKj.out)
              clear hEQ hlf hf1
              by_cases ha : (vn : Int) ≤ av
              · clear hab
                go_wp2_with fail
                exact ⟨⟨j + 1, by omega, by go_num, GKn, TBj, HBj⟩, by simp [intOf]; omega⟩
              · have hb' : (vn : Int) ≤ bv := by omega
                clear hab
                go_wp2_with fail
                exact ⟨⟨j + 1, by omega, by go_num, GKn, TBj, HBj⟩, by simp [intOf]; omega⟩
            obtain ⟨ha, hb⟩ := hab
            have hKN := knK_new hlf (HTI.out.2 ⟨by trivial, ha, hb⟩)
            have HKN := Lib.hid hKN
            rw [hKN.2, HAO.out] at HKS
            have ha' : ¬ (vn : Int) ≤ av := by omega
            have hb' : ¬ (vn : Int) ≤ bv := by omega
            clear hKN hlf hf1
            have GKw0 : Hid (Blk wC gk 32 (arr k (updF (knK T j) vn (ar0 (vn : Int))))) := Lib.hid (by rw [← HKN.out.1, updF_same]; exact GKj.out)
            have HWF1 : Hid (wfE (bv, av)) := Lib.hid ⟨wf_small (by omega) (by omega), wf_small (by omega) (by omega)⟩
            obtain ⟨xv, HO1⟩ : ∃ xv, Hid (overI T bv av (vn : Int) = xv) := ⟨_, Lib.hid rfl⟩
            have hx := overI_le HS.out.ok bv av (vn : Int)
            rw [HO1.out] at hx HKS
            have y2 := blk_fldU GKw0.out hvk (j := 2) (by omega)
            have y3 := blk_fldU GKw0.out hvk (j := 3) (by omega)
            have y4 := blk_fldU GKw0.out hvk (j := 4) (by omega)
            rw [show fld (ar0 (vn : Int)) 2 = -1 from rfl] at y2
            rw [show fld (ar0 (vn : Int)) 3 = -1 from rfl] at y3
            rw [show fld (ar0 (vn : Int)) 4 = -1 from rfl] at y4
            have f1 := GKw0.out.frozen (vn * 5 + 1)
            have f2 := GKw0.out.frozen (vn * 5 + 2)
            have TBw0 := TBj
            have HBw0 := HBj
            obtain ⟨w1, hw1⟩ : ∃ w1, w1 = wC.setCell ⟨gk, vn * 5 + 1, none⟩ (.int .i64 av) := ⟨_, rfl⟩
            have GKw1 : Hid (Blk w1 gk 32 (arr k (updF (knK T j) vn ⟨(vn : Int) - 1, av, -1, -1, -1⟩))) := by subst hw1; exact Lib.hid (blk_setU GKw0.out hvk (j := 1) (by omega) av)
            have TBw1 : Hid (TabAt w1 0 g (k : Int) T) := by subst hw1; exact Lib.hid (TBw0.out.setAr GKw0.out (by rw [arr_size]; omega) _)
            have HBw1 : Hid (Below w.heap.size w w1) := by subst hw1; exact Lib.hid (bw_set HBw0.out HGK.out _)
            obtain ⟨w2', hw2'⟩ : ∃ w2', w2' = w1.setCell ⟨gk, vn * 5 + 2, none⟩ (.int .i64 bv) := ⟨_, rfl⟩
            have GKw2' : Hid (Blk w2' gk 32 (arr k (updF (knK T j) vn ⟨(vn : Int) - 1, av, bv, -1, -1⟩))) := by subst hw2'; exact Lib.hid (blk_setU GKw1.out hvk (j := 2) (by omega) bv)
            have TBw2' : Hid (TabAt w2' 0 g (k : Int) T) := by subst hw2'; exact Lib.hid (TBw1.out.setAr GKw1.out (by rw [arr_size]; omega) _)
            have HBw2' : Hid (Below w.heap.size w w2') := by subst hw2'; exact Lib.hid (bw_set HBw1.out HGK.out _)
            go_wp2_with fail
            rw [← hw1, ← hw2']
            clear hw1 hw2' GKw0 TBw0 HBw0 GKw1 TBw1 HBw1 y1 y2 y3 y4 f1 f2 GKj TBj HBj
            refine (over_any g 0 k T bv av (vn : Int) w2' hT8 HWF1.out TBw2'.out).mono ?_
            rw [HO1.out]
            rintro e w3' ⟨rfl, hb⟩
            have GKw3' := Lib.hid (blk_call GKw2'.out hb)
            have TBw3' := Lib.hid (TBw2'.out.below hb)
            have HBw3' := Lib.hid (bw_call HBw2'.out hb)
            clear hb GKw2' TBw2' HBw2'
            have y3 := blk_fldU GKw3'.out hvk (j := 3) (by omega)
            rw [show fld ⟨(vn : Int) - 1, av, bv, -1, -1⟩ 3 = -1 from rfl] at y3
            have f3 := GKw3'.out.frozen (vn * 5 + 3)
            obtain ⟨w4', hw4'⟩ : ∃ w4', w4' = w3'.setCell ⟨gk, vn * 5 + 3, none⟩ (.int .i64 xv) := ⟨_, rfl⟩
            have GKw4' : Hid (Blk w4' gk 32 (arr k (updF (knK T j) vn ⟨(vn : Int) - 1, av, bv, xv, -1⟩))) := by subst hw4'; exact Lib.hid (blk_setU GKw3'.out hvk (j := 3) (by omega) xv)
            have TBw4' : Hid (TabAt w4' 0 g (k : Int) T) := by subst hw4'; exact Lib.hid (TBw3'.out.setAr GKw3'.out (by rw [arr_size]; omega) _)
            have HBw4' : Hid (Below w.heap.size w w4') := by subst hw4'; exact Lib.hid (bw_set HBw3'.out HGK.out _)
            have z3 := blk_fldU GKw4'.out hvk (j := 3) (by omega)
            rw [show fld ⟨(vn : Int) - 1, av, bv, xv, -1⟩ 3 = xv from rfl] at z3
            go_upto_region 18 with (fail)
            rw [← hw4']
            clear hw4' GKw3' TBw3' HBw3' y3 f3
            by_cases hx0 : xv < 0
            · rw [if_pos hx0] at HKS
              rw [← HKS.out] at GKw4'
              go_wp2_with fail
              exact ⟨⟨j + 1, by omega, by go_num, GKw4', TBw4', HBw4'⟩, by simp [intOf]; omega⟩
            rw [if_neg hx0] at HKS
            have HWF2 : Hid (wfE (bv, xv)) := Lib.hid ⟨wf_small (by omega) (by omega), wf_small (by omega) (by omega)⟩
            have HWF3 : Hid (wfE (xv, av)) := Lib.hid ⟨wf_small (by omega) (by omega), wf_small (by omega) (by omega)⟩
            obtain ⟨yv, HO2⟩ : ∃ yv, Hid (overI T bv xv (vn : Int) = yv) := ⟨_, Lib.hid rfl⟩
            rw [HO2.out] at HKS
            go_wp2_with fail
            refine (over_any g 0 k T bv xv (vn : Int) w4' hT8 HWF2.out TBw4'.out).mono ?_
            rw [HO2.out]
            rintro e w5' ⟨rfl, hb⟩
            have GKw5' := Lib.hid (blk_call GKw4'.out hb)
            have TBw5' := Lib.hid (TBw4'.out.below hb)
            have HBw5' := Lib.hid (bw_call HBw4'.out hb)
            clear z3 hb GKw4' TBw4' HBw4'
            have y4 := blk_fldU GKw5'.out hvk (j := 4) (by omega)
            rw [show fld ⟨(vn : Int) - 1, av, bv, xv, -1⟩ 4 = -1 from rfl] at y4
            have f4 := GKw5'.out.frozen (vn * 5 + 4)
            obtain ⟨w6', hw6'⟩ : ∃ w6', w6' = w5'.setCell ⟨gk, vn * 5 + 4, none⟩ (.int .i64 yv) := ⟨_, rfl⟩
            have GKw6' : Hid (Blk w6' gk 32 (arr k (updF (knK T j) vn ⟨(vn : Int) - 1, av, bv, xv, yv⟩))) := by subst hw6'; exact Lib.hid (blk_setU GKw5'.out hvk (j := 4) (by omega) yv)
            have TBw6' : Hid (TabAt w6' 0 g (k : Int) T) := by subst hw6'; exact Lib.hid (TBw5'.out.setAr GKw5'.out (by rw [arr_size]; omega) _)
            have HBw6' : Hid (Below w.heap.size w w6') := by subst hw6'; exact Lib.hid (bw_set HBw5'.out HGK.out _)
            have z4 := blk_fldU GKw6'.out hvk (j := 4) (by omega)
            rw [show fld ⟨(vn : Int) - 1, av, bv, xv, yv⟩ 4 = yv from rfl] at z4
            have z3 := blk_fldU GKw6'.out hvk (j := 3) (by omega)
            rw [show fld ⟨(vn : Int) - 1, av, bv, xv, yv⟩ 3 = xv from rfl] at z3
            go_upto_region 20 with (fail)
            rw [← hw6']
            clear hw6' GKw5' TBw5' HBw5' y4 f4
            by_cases hy0 : yv < 0
            rotate_left
            · rw [if_neg hy0] at HKS
              rw [← HKS.out] at GKw6'
              go_wp2_with fail
              exact ⟨⟨j + 1, by omega, by go_num, GKw6', TBw6', HBw6'⟩, by simp [intOf]; omega⟩
            rw [if_pos hy0] at HKS
            obtain ⟨zv, HO3⟩ : ∃ zv, Hid (overI T xv av (vn : Int) = zv) := ⟨_, Lib.hid rfl⟩
            rw [HO3.out] at HKS
            go_wp2_with fail
            refine (over_any g 0 k T xv av (vn : Int) w6' hT8 HWF3.out TBw6'.out).mono ?_
            rw [HO3.out]
            rintro e w7' ⟨rfl, hb⟩
            have GKw7' := Lib.hid (blk_call GKw6'.out hb)
            have TBw7' := Lib.hid (TBw6'.out.below hb)
            have HBw7' := Lib.hid (bw_call HBw6'.out hb)
            clear z3 z4 hb GKw6' TBw6' HBw6'
            have y4 := blk_fldU GKw7'.out hvk (j := 4) (by omega)
            rw [show fld ⟨(vn : Int) - 1, av, bv, xv, yv⟩ 4 = yv from rfl] at y4
            have f4 := GKw7'.out.frozen (vn * 5 + 4)
            have GKn := Lib.hid (blk_setU GKw7'.out hvk (j := 4) (by omega) zv)
            rw [show setfld ⟨(vn : Int) - 1, av, bv, xv, yv⟩ 4 zv = ⟨(vn : Int) - 1, av, bv, xv, zv⟩ from rfl, ← HKS.out] at GKn
            have TBn := Lib.hid (TBw7'.out.setAr (k := vn * 5 + 4) GKw7'.out (by rw [arr_size]; omega) (.int .i64 zv))
            have HBn := Lib.hid (bw_set HBw7'.out HGK.out (.int .i64 zv) (p := ⟨gk, vn * 5 + 4, none⟩))
            clear GKw7' TBw7' HBw7'
            go_wp2_with fail
            exact ⟨⟨j + 1, by omega, by go_num, GKn, TBn, HBn⟩, by simp [intOf]; omega⟩
        · obtain rfl : j = 3 * T.length := by omega
          go_wp2_with fail
          go_ret
          exact Or.inr ⟨k, gk, rfl, HCK.out, rfl, HGK.out, GKj.out, HBj.out⟩
end Go.Proofs.Ytcpfolojfdnojaa
