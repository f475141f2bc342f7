/- The document's Fits of layer 8, walked. No condition. -/
import Derived.Test.YtmmjonpkpeanpaaPartA8
namespace Go.Proofs.Ytmmjonpkpeanpaa
open Go.RowKit

theorem fit_no {N : Int} {T : List Tri} {t : Tri} (ht : t ∈ T) (h : fitT N t = false) : T.all (fitT N) = false := by
  cases e : T.all (fitT N) with
  | false => rfl
  | true =>
    have := (List.all_eq_true.1 e) t ht
    rw [h] at this
    cases this
set_option maxRecDepth 100000 in
set_option maxHeartbeats 4000000 in
theorem refFits_any (N : Int) (A : Option Addr) (n c : Nat) (T : List Tri) (w : World) (hn : n ≤ 8192) (ht : TrisAt w w.heap.size A n T) :
    Calls Try.prog 25 #[.agg #[.int .i64 N, .slice A n c]] w (BoolPost w (fitL N T)) := by
  obtain rfl : n = T.length := ht.len.symm
  have HT := Lib.hid ht
  clear ht
  go_enter Try.func25, Try.ntmps25
  obtain ⟨V, hV⟩ : ∃ V, V = w.alloc (.cells #[.int .i64 N, .slice A T.length c] 24) := ⟨_, rfl⟩
  have HX : Hid (Blk V w.heap.size 24 #[.int .i64 N, .slice A T.length c]) := by subst hV; exact Lib.hid (Blk.new _ _ _)
  have HB : Hid (Below w.heap.size w V) := by subst hV; exact Lib.hid ((Below.refl _ _).alloc (Nat.le_refl _) _)
  have hn2 : ¬ (8192 : Int) < (T.length : Int) := by omega
  by_cases h0 : N < 0
  · go_wp2_with fail
    go_ret
    refine ⟨ret_bool ?_, by rw [← hV]; exact HB.out⟩
    unfold fitL
    rw [show decide (0 ≤ N) = false by simp; omega]
    rfl
  by_cases h1 : 4096 < N
  · go_wp2_with fail
    go_ret
    refine ⟨ret_bool ?_, by rw [← hV]; exact HB.out⟩
    unfold fitL
    rw [show decide (N ≤ 4096) = false by simp; omega]
    simp
  have hfl : fitL N T = T.all (fitT N) := by
    unfold fitL
    rw [show decide (N ≤ 4096) = true by simp; omega, show decide (0 ≤ N) = true by simp; omega]
    rfl
  have HFL := Lib.hid hfl
  clear hfl
  go_wp2_with fail
  rw [← hV]
  clear hV
  have HR := Lib.hid ((HT.out.below HB.out).more HB.out.size)
  generalize hg : w.heap.size = g at HX ⊢
  go_loopw [3] (fun iv wr => ∃ k q : Nat, k ≤ T.length ∧ iv = .int .i64 k ∧ Hid ((T.take k).all (fitT N) = true) ∧ wr = V.drewN q) (fun iv _ => T.length - (intOf iv).toNat)
  case atStart => exact ⟨0, 0, by omega, rfl, Lib.hid (by simp), rfl⟩
  case round =>
    obtain ⟨k, q, hk, rfl, HA, rfl⟩ := hrel
    obtain ⟨x0, x1, _, _, _⟩ := soup_facts HX.out
    by_cases hlt : k < T.length
    · obtain ⟨ad, t, rfl, htk, _, hadb, hc3⟩ := HR.out.at_ hlt
      obtain ⟨d0, d1, d2, d3, d4, d5⟩ := hc3
      have hk0 : (0 : Int) ≤ (k : Int) := by omega
      have hk1 : (k : Int) < (T.length : Int) := by omega
      have HTK := Lib.hid htk
      clear htk
      obtain ⟨a, b, c'⟩ := t
      simp only at d0 d1 d2 d3 d4 d5
      go_wp2_with fail
      go_quiet (fail)
      clear d0 d1 d2 d3 d4 d5 hadb
      go_wp2_with fail
      all_goals first
        | (go_ret
           subst hg
           refine ⟨ret_bool (Eq.symm ?_), below_drewN HB.out _⟩
           rw [HFL.out]
           refine fit_no (List.mem_of_getElem? HTK.out) ?_
           cases h : fitT N ⟨a, b, c'⟩ with
           | false => rfl
           | true =>
             have h2 := fitT_iff.1 h
             simp only at h2
             (try simp only [beq_iff_eq] at *)
             omega)
        | (refine ⟨⟨k + 1, _, by omega, by go_num, Lib.hid ?_, rfl⟩, by simp [intOf]; omega⟩
           rw [take_snoc_T T k HTK.out, List.all_append, HA.out]
           have hh := (‹_ ∧ (a == c') = false›).2
           simp at hh
           have h3 : fitT N ⟨a, b, c'⟩ = true := fitT_iff.2 ⟨by simp only; omega, by simp only; omega⟩
           simp [h3])
    · obtain rfl : k = T.length := by omega
      have hall := HA.out
      rw [List.take_length] at hall
      go_wp2_with fail
      go_ret
      subst hg
      exact ⟨ret_bool (by rw [HFL.out, hall]), below_drewN HB.out q⟩
end Go.Proofs.Ytmmjonpkpeanpaa
