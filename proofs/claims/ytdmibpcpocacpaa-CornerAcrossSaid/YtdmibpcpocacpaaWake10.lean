/- Great, Laid and awake of layer 10, walked. No condition. -/
import Derived.Test.YtdmibpcpocacpaaCorR3
namespace Go.Proofs.Ytdmibpcpocacpaa
open Go.RowKit

set_option linter.unusedSimpArgs false
set_option linter.unusedVariables false
def exT : List Tri := [⟨0, 1, 2⟩, ⟨2, 1, 3⟩]
theorem ex_is : checkR 4 exT = (0, 0, 0) := by decide +kernel
theorem ex_e0 : edgeI exT 0 = (1, 2) := by decide +kernel
theorem ex_o0 : oppI exT 0 = 5 := by decide +kernel
theorem ex_o5 : oppI exT 5 = 0 := by decide +kernel
theorem ex_e5 : edgeI exT 5 = (2, 1) := by decide +kernel
theorem ex_v5 : vertexI exT 5 = 3 := by decide +kernel
theorem ex_f : facingI exT (1, 0) = -1 := by decide +kernel
theorem ex_c2 : cornerI exT 4 2 = 2 := by decide +kernel
theorem ex_n5 : nextI exT.length 5 = 3 := by decide +kernel
theorem ex_p3 : prevI exT.length 3 = 5 := by decide +kernel
def bigS (N : Int) (n : Nat) : Prop := 40 < n ∨ 60 < N ∨ N < -1000
instance (N : Int) (n : Nat) : Decidable (bigS N n) := inferInstanceAs (Decidable (_ ∨ _))
def LaidPost (w : World) (N : Int) (T : List Tri) (e : Ending) (w' : World) : Prop :=
  (bigS N T.length ∧ e = .returned (.pointer none) ∧ Below w.heap.size w w') ∨ (¬ bigS N T.length ∧ checkR N T ≠ (0, 0, 0) ∧ e = .returned (.pointer none) ∧ Below w.heap.size w w') ∨
  (¬ bigS N T.length ∧ checkR N T = (0, 0, 0) ∧ ∃ g, e = .returned (.pointer (some ⟨g, 0, none⟩)) ∧ TabAt w' w.heap.size g N T ∧ Below w.heap.size w w')
attribute [local irreducible] Blk LRow World.alloc World.setCell World.cell? World.frozen? MapV
set_option maxHeartbeats 2000000 in
theorem great10_any (N : Int) (A : Option Addr) (n c : Nat) (w : World) : Calls Try.prog 31 #[.agg #[.int .i64 N, .slice A n c]] w (IntPost w (if bigS N n then 1 else 0)) := by
  have HB : Hid (Below w.heap.size w (w.alloc (.cells #[.int .i64 N, .slice A n c] 24))) := Lib.hid (bw_alloc (Below.refl _ _) _)
  by_cases h0 : 40 < n
  · rw [if_pos (.inl h0)]
    have h0' : (40 : Int) < (n : Int) := by omega
    go_enter Try.func31, Try.ntmps31
    go_wp2_with fail
    go_ret
    exact ⟨rfl, HB.out⟩
  by_cases h1 : 60 < N
  · rw [if_pos (.inr (.inl h1))]
    have h0' : ¬ (40 : Int) < (n : Int) := by omega
    go_enter Try.func31, Try.ntmps31
    go_wp2_with fail
    go_ret
    exact ⟨rfl, HB.out⟩
  by_cases h2 : N < -1000
  · rw [if_pos (.inr (.inr h2))]
    have h0' : ¬ (40 : Int) < (n : Int) := by omega
    go_enter Try.func31, Try.ntmps31
    go_wp2_with fail
    go_ret
    exact ⟨rfl, HB.out⟩
  · rw [if_neg (by unfold bigS; omega)]
    have h0' : ¬ (40 : Int) < (n : Int) := by omega
    go_enter Try.func31, Try.ntmps31
    go_wp2_with fail
    go_ret
    exact ⟨rfl, HB.out⟩
set_option maxRecDepth 100000 in
set_option maxHeartbeats 4000000 in
theorem laid_any (N : Int) (A : Option Addr) (n c : Nat) (T : List Tri) (w : World) (ht : TrisAt w w.heap.size A n T) :
    Calls Try.prog 12 #[.agg #[.int .i64 N, .slice A n c]] w (LaidPost w N T) := by
  obtain rfl : n = T.length := ht.len.symm
  have HT := Lib.hid ht
  clear ht
  obtain ⟨V, hV⟩ : ∃ V, V = w.alloc (.cells #[.int .i64 N, .slice A T.length c] 24) := ⟨_, rfl⟩
  have GA : Hid (Blk V w.heap.size 24 #[.int .i64 N, .slice A T.length c]) := by subst hV; exact Lib.hid (Blk.new _ _ _)
  have HB : Hid (Below w.heap.size w V) := by subst hV; exact Lib.hid (bw_alloc (Below.refl _ _) _)
  have HG := Lib.hid (great10_any N A T.length c V)
  go_enter Try.func12, Try.ntmps12
  go_upto_region 1 with (fail)
  rw [← hV]
  clear hV
  generalize w.heap.size = ga at GA ⊢
  obtain ⟨s0, s1, _, _, _⟩ := soup_facts GA.out
  go_wp2_with fail
  refine HG.out.mono ?_
  rintro e w1 ⟨rfl, hb⟩
  have GA1 := Lib.hid (blk_call GA.out hb)
  have HB1 := Lib.hid (bw_call HB.out hb)
  clear hb GA HB HG s0 s1
  obtain ⟨s0, s1, _, _, _⟩ := soup_facts GA1.out
  by_cases hbig : bigS N T.length
  · rw [if_pos hbig]
    have HBI := Lib.hid hbig
    clear hbig
    go_wp2_with fail
    go_ret
    exact Or.inl ⟨HBI.out, rfl, HB1.out⟩
  · rw [if_neg hbig]
    have HBI := Lib.hid hbig
    have hT40 : T.length ≤ 40 := by unfold bigS at hbig; omega
    clear hbig
    go_wp2_with fail
    refine (new_any N A T.length c T w1 (by omega) ((HT.out.below HB1.out).more HB1.out.size)).mono ?_
    rintro e w2 (⟨hx, g, rfl, htab, hb⟩ | ⟨hx, rfl, hb⟩)
    · have HB2 := Lib.hid (bw_call HB1.out hb)
      have HTB := Lib.hid (htab.base HB1.out.size)
      have HX := Lib.hid hx
      clear hb htab hx s0 s1
      unfold wv
      simp only
      go_wp2_with fail
      go_ret
      exact Or.inr (Or.inr ⟨HBI.out, HX.out, g, rfl, HTB.out.alloc _, bw_alloc HB2.out _⟩)
    · have HB2 := Lib.hid (bw_call HB1.out hb)
      have HX := Lib.hid hx
      clear hb hx s0 s1
      unfold wv
      simp only
      go_wp2_with fail
      go_ret
      exact Or.inr (Or.inl ⟨HBI.out, HX.out, rfl, bw_alloc HB2.out _⟩)
set_option maxRecDepth 100000 in
set_option maxHeartbeats 8000000 in
theorem awake_any (w : World) : Calls Try.prog 11 #[] w (BoolPost w true) := by
  have HB0 : Hid (Below w.heap.size w (w.alloc (.cells #[.int .i64 0, .int .i64 1, .int .i64 2, .int .i64 2, .int .i64 1, .int .i64 3] 50))) := Lib.hid (bw_alloc (Below.refl _ _) _)
  obtain ⟨V, hV⟩ : ∃ V, V = w.alloc (.cells #[.int .i64 0, .int .i64 1, .int .i64 2, .int .i64 2, .int .i64 1, .int .i64 3] 50) := ⟨_, rfl⟩
  have HT : Hid (TrisAt V V.heap.size (some ⟨w.heap.size, 0, none⟩) exT.length exT) := by
    subst hV
    refine Lib.hid (TrisAt.mk_ ?_)
    simpa [exT, Tri.cells] using reads_new w #[.int .i64 0, .int .i64 1, .int .i64 2, .int .i64 2, .int .i64 1, .int .i64 3] 50 2 3 rfl
  rw [← hV] at HB0
  go_enter Try.func11, Try.ntmps11
  go_wp2_with fail
  rw [← hV]
  refine (new_any 4 (some ⟨w.heap.size, 0, none⟩) exT.length 2 exT V (by decide) HT.out).mono ?_
  rintro e w2 (⟨hx, g, rfl, htab, hb⟩ | ⟨hx, rfl, hb⟩)
  rotate_left
  · exact absurd ex_is hx
  have HB2 := Lib.hid (bw_call HB0.out hb)
  have HTB2 := Lib.hid (htab.base (Nat.zero_le _))
  clear hb htab hx HB0 HT hV
  unfold wv
  simp only
  obtain ⟨w3, hw3⟩ : ∃ w3, w3 = w2.alloc (.cells #[.int .i64 0, .int .i64 0, .int .i64 0] 41) := ⟨_, rfl⟩
  have GW3 : Hid (Blk w3 w2.heap.size 41 #[.int .i64 0, .int .i64 0, .int .i64 0]) := by subst hw3; exact Lib.hid (Blk.new _ _ _)
  have HTB3 : Hid (TabAt w3 0 g 4 exT) := by subst hw3; exact Lib.hid (HTB2.out.alloc _)
  have HB3 : Hid (Below w.heap.size w w3) := by subst hw3; exact Lib.hid (bw_alloc HB2.out _)
  go_upto_region 2 with (fail)
  rw [← hw3]
  clear hw3 HTB2 HB2
  obtain ⟨x0, x1, x2, _, _, _⟩ := wit_facts GW3.out
  have hw0 := run_eq_wit (0, 0, 0) (0, 0, 0)
  have hed := run_eq_ed 1 2 1 2
  unfold wv at hw0
  simp only [decide_true] at hw0 hed
  go_wp2_with fail
  refine (edge_any g 0 4 exT 0 w3 (by decide) HTB3.out.s).mono ?_
  rw [ex_e0]
  rintro e w4 ⟨rfl, hb⟩
  have HTB4 := Lib.hid (HTB3.out.below hb)
  have HB4 := Lib.hid (bw_call HB3.out hb)
  clear hb HTB3 HB3 GW3 x0 x1 x2
  go_wp2_with fail
  refine (opp_any g 0 4 exT 0 w4 (by decide) (by rw [ex_e0]; exact ⟨wf_small (by decide) (by decide), wf_small (by decide) (by decide)⟩) HTB4.out).mono ?_
  rw [ex_o0]
  rintro e w5 ⟨rfl, hb⟩
  have HTB5 := Lib.hid (HTB4.out.below hb)
  have HB5 := Lib.hid (bw_call HB4.out hb)
  clear hb HTB4 HB4
  go_wp2_with fail
  refine (opp_any g 0 4 exT 5 w5 (by decide) (by rw [ex_e5]; exact ⟨wf_small (by decide) (by decide), wf_small (by decide) (by decide)⟩) HTB5.out).mono ?_
  rw [ex_o5]
  rintro e w6 ⟨rfl, hb⟩
  have HTB6 := Lib.hid (HTB5.out.below hb)
  have HB6 := Lib.hid (bw_call HB5.out hb)
  clear hb HTB5 HB5
  go_wp2_with fail
  refine (vertex_any g 0 4 exT 5 w6 (by decide) HTB6.out.s).mono ?_
  rw [ex_v5]
  rintro e w7 ⟨rfl, rfl⟩
  go_wp2_with fail
  refine (facing_any g 0 4 exT 1 0 w7 (by decide) ⟨wf_small (by decide) (by decide), wf_small (by decide) (by decide)⟩ HTB6.out).mono ?_
  rw [ex_f]
  rintro e w8 ⟨rfl, hb⟩
  have HTB8 := Lib.hid (HTB6.out.below hb)
  have HB8 := Lib.hid (bw_call HB6.out hb)
  clear hb HTB6 HB6
  go_wp2_with fail
  refine (corner_any g 0 4 exT 2 w8 (by decide) HTB8.out).mono ?_
  rw [ex_c2]
  rintro e w9 ⟨rfl, rfl⟩
  go_wp2_with fail
  refine (next_any g 0 4 exT 5 w9 (by decide) HTB8.out.s).mono ?_
  rw [ex_n5]
  rintro e w10 ⟨rfl, rfl⟩
  go_wp2_with fail
  refine (prev_any g 0 4 exT 3 w10 (by decide) HTB8.out.s).mono ?_
  rw [ex_p3]
  rintro e w11 ⟨rfl, rfl⟩
  go_wp2_with fail
  go_ret
  exact ⟨rfl, HB8.out⟩
end Go.Proofs.Ytdmibpcpocacpaa
