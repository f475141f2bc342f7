/- Chapter 47's lists, walked where the rows are the same. No condition but sizes. -/
import Derived.Test.YtiajlmajenabiaaGreatFindW
set_option maxRecDepth 100000
set_option maxHeartbeats 16000000
set_option linter.all false
namespace Go.Proofs.YtiajlmajenabiaaGreat
open Go.RowKit
attribute [local irreducible] Blk World.alloc World.setCell World.cell? World.frozen? MapV MapI
theorem lists_any (A Ax : Option Addr) (c cx : Nat) (L M : List Way) (w : World) (he : L.map Prod.snd = M.map Prod.snd) (hnb : L.length ≤ 1000000) (hm : ∀ x ∈ L, x.2.length ≤ 100000) (h : RowsIn w w.heap.size A L.length L) (h' : RowsIn w w.heap.size Ax M.length M) :
  Calls Tryz.prog 26 #[.slice A L.length c, .slice Ax L.length cx] w (IntPost w 1) := by
 have hlm : M.length = L.length := by have := congrArg List.length he; rw [List.length_map, List.length_map] at this; exact this.symm
 have H := Lib.hid h
 have H' := Lib.hid h'
 have HE := Lib.hid he
 have HM := Lib.hid hm
 obtain ⟨n, hn⟩ : ∃ n, n = L.length := ⟨_, rfl⟩
 rw [hlm] at H'
 rw [← hn] at H H' hnb ⊢
 have HN := Lib.hid hn
 have HLM := Lib.hid hlm
 have hnn : ((n : Int) != (n : Int)) = false := by simp
 clear h h' he hm hn hlm
 go_enter Tryz.func26, Tryz.ntmps26
 go_wp2_with fail
 go_loopw [5] (fun iv wr => ∃ i : Nat, i ≤ n ∧ iv = .int .i64 (i : Int) ∧ Hid (Below w.heap.size w wr)) (fun iv _ => n - (intOf iv).toNat)
 case atStart => exact ⟨0, by omega, rfl, Lib.hid (Below.refl _ _)⟩
 case round =>
  obtain ⟨i, hin, rfl, HBr⟩ := hrel
  obtain ⟨wE, hwE⟩ : ∃ wE : World, wE = wr := ⟨_, rfl⟩
  rw [← hwE] at HBr ⊢
  clear hwE
  by_cases hii : i < n
  · have hiI : (i : Int) < (n : Int) := by omega
    have hi1 : i < L.length := by have := HN.out; omega
    have hi2 : i < M.length := by have := HN.out; have := HLM.out; omega
    obtain ⟨ad, hA, hLi, hmem, y, hbl⟩ := (H.out.below HBr.out).at_ (k := i) (by have := HN.out; omega)
    obtain ⟨ae, hA', hLi', hmem', y', hbl'⟩ := (H'.out.below HBr.out).at_ (k := i) (by have := HN.out; omega)
    obtain ⟨x, hx⟩ : ∃ x, x = wayAt L i := ⟨_, rfl⟩
    obtain ⟨z, hz⟩ : ∃ x, x = wayAt M i := ⟨_, rfl⟩
    rw [← hx] at hLi hmem y
    rw [← hz] at hLi' hmem' y'
    have hxz : x.2 = z.2 := by
     have e1 : (L.map Prod.snd)[i]? = (M.map Prod.snd)[i]? := by rw [HE.out]
     rw [List.getElem?_map, List.getElem?_map, hLi, hLi'] at e1
     injection e1
    have hr1 := (H.out.each x hmem).1
    have hr2 := (H'.out.each z hmem').1
    have hxl := HM.out x hmem
    have HEQ : Hid (∀ W, Below w.heap.size w W → Calls Tryz.prog 33 #[wayC x, wayC z] W (BoolPost W true)) := Lib.hid fun W hW => by
     have := refInts_any x.2 z.2 w.heap.size w.heap.size x.1.1 z.1.1 x.1.2 z.1.2 W (by omega) (hr1.below hW) (hr2.below hW)
     rw [decide_eq_true hxz] at this
     refine this.mono ?_
     rintro e w' ⟨rfl, q, rfl⟩
     exact ⟨rfl, below_drewN (Below.refl _ _) _⟩
    subst hA hA'
    have CAwE : Hid (CellQ wE (ad.add i) (wayC x)) := Lib.hid ⟨y, by rw [block_of_add]; have := HBr.out.size; omega⟩
    have CBwE : Hid (CellQ wE (ae.add i) (wayC z)) := Lib.hid ⟨y', by rw [block_of_add]; have := HBr.out.size; omega⟩
    have HBwE := HBr
    clear hx hz hLi hLi' hmem hmem' y y' hxz hr1 hr2 hxl hbl hbl'
    unfold wayC at HEQ CAwE CBwE
    obtain ⟨⟨xa, xc⟩, xl⟩ := x
    obtain ⟨⟨za, zc⟩, zl⟩ := z
    dsimp only at HEQ CAwE CBwE
    obtain ⟨nx, hnx⟩ : ∃ n, n = xl.length := ⟨_, rfl⟩
    obtain ⟨nz, hnz⟩ : ∃ n, n = zl.length := ⟨_, rfl⟩
    rw [← hnx] at HEQ CAwE
    rw [← hnz] at HEQ CBwE
    clear hnx hnz hi1 hi2
    go_upto_region 6 with (fail)
    refine wp_region_held_drew (S := fun w' => w'.cell? (ad.add i) = some (.slice xa nx xc) ∧ w'.cell? (ae.add i) = some (.slice za nz zc)) (by kernel_rfl) ⟨(CAwE.out.drew.c), (CBwE.out.drew.c)⟩ (fun hHeld => ?_)
    refine hKk 0 ?_; (try simp only [zQ])
    refine hKk 1 ?_; (try simp only [zQ])
    refine hKk 2 ?_; (try simp only [zQ])
    refine hKk 3 ?_; (try simp only [zQ])
    refine hKk 4 ?_; (try simp only [zQ])
    refine hKk 5 ?_; (try simp only [zQ])
    refine hKk 6 ?_; (try simp only [zQ])
    refine hKk 7 ?_; (try simp only [zQ])
    refine wpAnyH_ready (rs := [8]) (by kernel_rfl) (by simp) ?_
    refine held_cons rfl (fun K hK => ?_) ?_
    · go_simp
      go_wp2_with (go_at_call 33; refine (HEQ.out wE.drew (bw_drew HBwE.out)).mono ?_; rintro e v3 ⟨rfl, hb⟩)
      have CAv3 := Lib.hid (CAwE.out.drew.below hb)
      have CBv3 := Lib.hid (CBwE.out.drew.below hb)
      have HBv3 := Lib.hid (bw_call (bw_drew HBwE.out) hb)
      clear hb
      refine hK.out _ _ ?_ (fun hHeld => ?_)
      · exact ⟨(CAv3.out.c), (CBv3.out.c)⟩
      clear hK K
      (try simp only [zQ])
      refine hKk 9 ?_; (try simp only [zQ])
      refine wpAnyH_done (by kernel_rfl) ?_ _
      have HBn := HBv3
      go_wp2_with fail
      go_roundw
      case rel => exact ⟨i + 1, by omega, by go_num, HBn⟩
      case measure => simp [intOf]; omega
    exact AllReadyH.nil
  · obtain rfl : i = n := by omega
    have hiI : ¬ (i : Int) < (i : Int) := by omega
    go_wp2_with fail
    go_ret
    exact ⟨rfl, HBr.out⟩
end Go.Proofs.YtiajlmajenabiaaGreat
