/- gypsumref28.third, walked. No condition. -/
import Derived.Test.YtcpfolojfdnojaaKnB
import Derived.Test.YtcpfolojfdnojaaR15f
namespace Go.Proofs.Ytcpfolojfdnojaa
open Go.RowKit

set_option linter.unusedSimpArgs false
set_option linter.unusedVariables false
theorem over_none {T : List Tri} {a b v : Int} (h : facingI T (a, b) = -1) : overI T a b v = -1 := by
  unfold overI; rw [if_pos (.inl (by omega))]
theorem over_some {T : List Tri} {a b v : Int} {k : Nat} (h : facingI T (a, b) = (k : Int)) (hk : k < 3 * T.length) : overI T a b v = if v ≤ cv T k then -1 else cv T k := by
  unfold overI
  rw [h, show vertexI T (k : Int) = cv T k by unfold vertexI; rw [if_pos (by unfold isC; omega)]; rfl]
  by_cases h1 : v ≤ cv T k
  · rw [if_pos (.inr h1), if_pos h1]
  · rw [if_neg (by omega), if_neg h1]
theorem facingI_cases (T : List Tri) (e : Int × Int) : facingI T e = -1 ∨ ∃ k : Nat, k < 3 * T.length ∧ facingI T e = (k : Int) := by
  unfold facingI
  cases h : facingF T e with
  | none => exact .inl rfl
  | some k => exact .inr ⟨k, by have := (leastF_some h).2.1; omega, rfl⟩
attribute [local irreducible] Blk LRow World.alloc World.setCell World.cell? World.frozen?
set_option maxRecDepth 100000 in
set_option maxHeartbeats 4000000 in
theorem third_any (N : Int) (A : Option Addr) (c : Nat) (T : List Tri) (x y v : Int) (w : World) (hT : T.length ≤ 8192) (ht : TrisAt w w.heap.size A T.length T) :
    Calls Try.prog 27 #[.agg #[.int .i64 N, .slice A T.length c], .int .i64 x, .int .i64 y, .int .i64 v] w (IntPost w (overI T x y v)) := by
  have HT := Lib.hid ht
  clear ht
  obtain ⟨r, HR⟩ : ∃ r, Hid (overI T x y v = r) := ⟨_, Lib.hid rfl⟩
  rw [HR.out]
  obtain ⟨V, hV⟩ : ∃ V, V = w.alloc (.cells #[.int .i64 N, .slice A T.length c] 24) := ⟨_, rfl⟩
  have GA0 : Hid (Blk V w.heap.size 24 #[.int .i64 N, .slice A T.length c]) := by subst hV; exact Lib.hid (Blk.new _ _ _)
  have HB0 : Hid (Below w.heap.size w V) := by subst hV; exact Lib.hid (bw_alloc (Below.refl _ _) _)
  go_enter Try.func27, Try.ntmps27
  go_upto_region 1 with (fail)
  rw [← hV]
  clear hV
  obtain ⟨ga, hga⟩ : ∃ g, g = w.heap.size := ⟨_, rfl⟩
  rw [← hga] at GA0
  simp only [← hga]
  clear hga
  obtain ⟨s0, s1, _, _, _⟩ := soup_facts GA0.out
  go_wp2_with fail
  clear s0 s1
  refine (r15Facing_any N A c T x y V hT ((HT.out.below HB0.out).more HB0.out.size)).mono ?_
  rintro e w1 ⟨rfl, hb⟩
  have GA1 := Lib.hid (blk_call GA0.out hb)
  have HB1 := Lib.hid (bw_call HB0.out hb)
  clear hb GA0 HB0
  obtain ⟨s0, s1, _, _, _⟩ := soup_facts GA1.out
  rcases facingI_cases T (x, y) with hf | ⟨k, hk, hf⟩
  · obtain rfl : -1 = r := (over_none hf).symm.trans HR.out
    rw [hf]
    clear hf
    go_wp2_with fail
    go_ret
    exact ⟨rfl, HB1.out⟩
  have HO := Lib.hid ((over_some (v := v) hf hk).symm.trans HR.out)
  rw [hf]
  clear hf HR
  have hk0 : ¬ (k : Int) < 0 := by omega
  go_wp2_with fail
  clear s0 s1
  refine (r15V_any N A c T k w1 hT hk ((HT.out.below HB1.out).more HB1.out.size)).mono ?_
  rintro e w2 ⟨rfl, hb⟩
  have GA2 := Lib.hid (blk_call GA1.out hb)
  have HB2 := Lib.hid (bw_call HB1.out hb)
  clear hb GA1 HB1
  obtain ⟨s0, s1, _, _, _⟩ := soup_facts GA2.out
  obtain ⟨q, HQ⟩ : ∃ q, Hid (cv T k = q) := ⟨_, Lib.hid rfl⟩
  rw [HQ.out] at HO ⊢
  by_cases hv : v ≤ q
  · obtain rfl : -1 = r := (if_pos hv).symm.trans HO.out
    go_wp2_with fail
    go_ret
    exact ⟨rfl, HB2.out⟩
  obtain rfl : q = r := (if_neg hv).symm.trans HO.out
  clear HO
  go_wp2_with fail
  clear s0 s1
  refine (r15V_any N A c T k w2 hT hk ((HT.out.below HB2.out).more HB2.out.size)).mono ?_
  rintro e w3 ⟨rfl, hb⟩
  have HB3 := Lib.hid (bw_call HB2.out hb)
  rw [HQ.out]
  go_wp2_with fail
  go_ret
  exact ⟨rfl, HB3.out⟩
end Go.Proofs.Ytcpfolojfdnojaa
