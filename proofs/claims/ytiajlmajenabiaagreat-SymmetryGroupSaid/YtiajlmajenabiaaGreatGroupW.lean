/- The law SymmetryGroup, walked: it holds. No condition. -/
import Derived.Test.YtiajlmajenabiaaGreatGrpR
import Derived.Test.YtiajlmajenabiaaGreatSp47
namespace Go.Proofs.YtiajlmajenabiaaGreat
open Go.RowKit

set_option linter.unusedSimpArgs false
set_option linter.unusedVariables false
attribute [local irreducible] Blk World.alloc World.setCell World.cell? World.frozen? MapV MapI
set_option maxRecDepth 100000 in
set_option maxHeartbeats 8000000 in
theorem lawGroup_any (n : Int) (A : Option Addr) (N c : Nat) (L : List Way) (w : World) (hcap : N ≤ c) (h : RowsIn w w.heap.size A N L) :
    Calls Tryz.prog 9 #[.int .i64 n, .slice A N c] w (BoolPost w true) := by
  obtain rfl : L.length = N := h.len
  have H := Lib.hid h
  obtain ⟨N, hN⟩ : ∃ N, N = L.length := ⟨_, rfl⟩
  rw [← hN] at hcap ⊢
  have HN := Lib.hid hN
  have HAW := Lib.hid (awake_any w)
  clear h hN
  go_enter Tryz.func9, Tryz.ntmps9
  go_wp2_with fail
  refine HAW.out.mono ?_
  rintro e w1 ⟨rfl, hb⟩
  have HB1 := Lib.hid hb
  clear hb HAW
  by_cases hN20 : 20 < N
  · have hi : (20 : Int) < (N : Int) := by omega
    go_wp2_with fail
    go_ret
    exact ⟨rfl, HB1.out⟩
  · have hi : ¬ (20 : Int) < (N : Int) := by omega
    go_wp2_with fail
    go_loopw [5] (fun iv wr => ∃ i : Nat, i ≤ N ∧ iv = .int .i64 (i : Int) ∧ Hid (∀ x ∈ L.take i, x.2.length ≤ 8) ∧ wr = w1) (fun iv _ => N - (intOf iv).toNat)
    case atStart => exact ⟨0, by omega, rfl, Lib.hid (fun x hx => by simp at hx), rfl⟩
    case round =>
      obtain ⟨i, hil, rfl, HP, rfl⟩ := hrel
      by_cases hiN : i < N
      · have hii : (i : Int) < (N : Int) := by omega
        obtain ⟨ad, hA, hLi, hmem, y, _⟩ := (H.out.below HB1.out).at_ (k := i) (by rw [← HN.out]; exact hiN)
        obtain ⟨x, hx⟩ : ∃ x, x = wayAt L i := ⟨_, rfl⟩
        rw [← hx] at hLi hmem y
        have HT : Hid (L.take (i + 1) = L.take i ++ [x]) := Lib.hid (by rw [List.take_add_one, hLi]; rfl)
        obtain ⟨⟨xa, xc⟩, xl⟩ := x
        obtain ⟨nx, hnx⟩ : ∃ n, n = xl.length := ⟨_, rfl⟩
        unfold wayC at y
        dsimp only at y
        rw [← hnx] at y
        have HNX := Lib.hid hnx
        subst hA
        clear hx hLi hmem hnx
        by_cases h8 : 8 < nx
        · have h8i : (8 : Int) < (nx : Int) := by omega
          go_wp2_with fail
          go_ret
          exact ⟨rfl, HB1.out⟩
        · have h8i : ¬ (8 : Int) < (nx : Int) := by omega
          have HP2 : Hid (∀ x ∈ L.take (i + 1), x.2.length ≤ 8) := Lib.hid (by
            rw [HT.out]
            intro z hz
            rcases List.mem_append.1 hz with hz | hz
            · exact HP.out z hz
            · rw [List.mem_singleton.1 hz]; have := HNX.out; dsimp only; omega)
          go_wp2_with fail
          go_roundw
          case rel => exact ⟨i + 1, by omega, by go_num, HP2, trivial⟩
          case measure => simp [intOf]; omega
      · have hii : ¬ (i : Int) < (N : Int) := by omega
        have HM : Hid (∀ x ∈ L, x.2.length ≤ 8) := Lib.hid (by
          have h1 := HP.out
          rw [List.take_of_length_le (by have := HN.out; omega)] at h1
          exact h1)
        obtain ⟨b, hb⟩ : ∃ b, b = decide (GroupI n (L.map Prod.snd)) := ⟨_, rfl⟩
        have HGA : Hid (Calls Tryz.prog 31 #[.int .i64 n, .slice A N c] wr (BoolPost wr b)) := Lib.hid (by
          rw [hb, HN.out]
          exact group_any n A c L wr (by have := HN.out; omega) (fun x hx => by have := HM.out x hx; omega) ((H.out.below HB1.out).more HB1.out.size))
        have HGB : Hid (∀ W, Below wr.heap.size wr W → Calls Tryz.prog 32 #[.int .i64 n, .slice A N c] W (BoolPost W b)) := Lib.hid fun W hW => by
          rw [hb, HN.out]
          have hB := bw_call HB1.out hW
          exact refGroup_any n A c L W (by have := HN.out; omega) (by have := HN.out; omega) (fun x hx => by have := HM.out x hx; omega) ((H.out.below hB).more hB.size)
        clear hb
        go_wp2_with fail
        refine HGA.out.mono ?_
        rintro e w2 ⟨rfl, hb2⟩
        have HB2 := Lib.hid hb2
        clear hb2
        go_wp2_with fail
        refine (HGB.out _ HB2.out).mono ?_
        rintro e w3 ⟨rfl, hb3⟩
        have HB3 := Lib.hid (bw_call HB1.out (bw_call HB2.out hb3))
        clear hb3
        have hbb : (b == b) = true := by simp
        go_wp2_with fail
        go_ret
        exact ⟨by simp, HB3.out⟩
end Go.Proofs.YtiajlmajenabiaaGreat
