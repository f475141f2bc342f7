/- gypsumref31.Ends, walked. No condition but sizes. -/
import Derived.Test.YtcahbcminonfbaaEndB
import Derived.Deep.CutBlock
namespace Go.Proofs.Ytcahbcminonfbaa
open Go.RowKit

set_option linter.unusedSimpArgs false
set_option linter.unusedVariables false
/-- A number put into a sorted list. -/
def insI : List Int → Int → List Int
  | [], e => [e]
  | x :: l, e => if x < e then x :: insI l e else e :: x :: l
theorem insI_mem (e : Int) : ∀ (l : List Int) (y : Int), y ∈ insI l e ↔ y ∈ l ∨ y = e
  | [], y => by simp [insI]
  | x :: l, y => by
    unfold insI
    split
    · rw [List.mem_cons, insI_mem e l y, List.mem_cons, or_assoc]
    · rw [List.mem_cons, or_comm]
theorem insI_len (e : Int) : ∀ l : List Int, (insI l e).length = l.length + 1
  | [] => rfl
  | x :: l => by
    unfold insI
    split
    · rw [List.length_cons, insI_len e l, List.length_cons]
    · rfl
theorem insI_sorted (e : Int) : ∀ l : List Int, l.Pairwise (· < ·) → e ∉ l → (insI l e).Pairwise (· < ·)
  | [], _, _ => List.pairwise_singleton _ _
  | x :: l, h, hn => by
    rw [List.pairwise_cons] at h
    unfold insI
    have hx : x ≠ e := fun h => hn (by rw [h]; simp)
    by_cases hlt : x < e
    · rw [if_pos hlt, List.pairwise_cons]
      refine ⟨fun y hy => ?_, insI_sorted e l h.2 fun hm => hn (List.mem_cons_of_mem _ hm)⟩
      rcases (insI_mem e l y).1 hy with hy | rfl
      · exact h.1 y hy
      · exact hlt
    · rw [if_neg hlt, List.pairwise_cons]
      refine ⟨fun y hy => ?_, List.pairwise_cons.2 h⟩
      rcases List.mem_cons.1 hy with rfl | hy
      · omega
      · have := h.1 y hy; omega
theorem insI_at (e : Int) : ∀ (E : List Int) (j : Nat), (∀ i x, i < j → E[i]? = some x → x < e) → j ≤ E.length → (∀ x, E[j]? = some x → ¬ x < e) → insI E e = E.take j ++ e :: E.drop j
  | [], j, _, hj, _ => by
    obtain rfl : j = 0 := by simpa using hj
    simp [insI]
  | x :: E, 0, _, _, h => by
    have hx := h x rfl
    unfold insI
    rw [if_neg hx]
    rfl
  | x :: E, j + 1, h1, hj, h2 => by
    have hx := h1 0 x (by omega) rfl
    unfold insI
    rw [if_pos hx, insI_at e E j (fun i y hi hy => h1 (i + 1) y (by omega) (by simpa using hy)) (by simpa using hj) (fun y hy => h2 y (by simpa using hy))]
    simp
/-- What is there behind the first p numbers. -/
def refT (S : List Int) (p : Nat) : List Int := ((S.take p).filter fun v => decide (S.count v = 1)).foldl insI []
theorem refT_step {S : List Int} {p : Nat} {v : Int} (h : S[p]? = some v) : refT S (p + 1) = if S.count v = 1 then insI (refT S p) v else refT S p := by
  unfold refT
  rw [List.take_add_one, h, List.filter_append, List.foldl_append]
  by_cases hc : S.count v = 1 <;> simp [hc]
theorem foldI_mem : ∀ (es l : List Int) (y : Int), y ∈ es.foldl insI l ↔ y ∈ l ∨ y ∈ es
  | [], l, y => by simp
  | e :: es, l, y => by
    rw [List.foldl_cons, foldI_mem es _ y, insI_mem, List.mem_cons, or_assoc]
theorem refT_mem {S : List Int} {p : Nat} {x : Int} : x ∈ refT S p ↔ x ∈ S.take p ∧ S.count x = 1 := by
  unfold refT
  rw [foldI_mem, List.mem_filter, decide_eq_true_eq]
  simp
theorem foldI_len : ∀ es l : List Int, (es.foldl insI l).length = l.length + es.length
  | [], l => rfl
  | e :: es, l => by rw [List.foldl_cons, foldI_len es _, insI_len, List.length_cons]; omega
theorem refT_len (S : List Int) (p : Nat) : (refT S p).length ≤ p := by
  unfold refT
  rw [foldI_len]
  have h1 := List.length_filter_le (fun v => decide (S.count v = 1)) (S.take p)
  have h2 : (S.take p).length ≤ p := by rw [List.length_take]; omega
  simp only [List.length_nil]
  omega
theorem refT_sorted (S : List Int) : ∀ p, p ≤ S.length → (refT S p).Pairwise (· < ·)
  | 0, _ => List.Pairwise.nil
  | p + 1, hp => by
    have hv0 : S[p]? = some S[p] := List.getElem?_eq_getElem (by omega)
    have h3 : S.drop p = S[p] :: S.drop (p + 1) := List.drop_eq_getElem_cons (by omega)
    obtain ⟨v, hv⟩ : ∃ v, S[p] = v := ⟨_, rfl⟩
    rw [hv] at hv0 h3
    rw [refT_step hv0]
    split
    · rename_i hc
      refine insI_sorted _ _ (refT_sorted S p (by omega)) fun hm => ?_
      have h1 := (refT_mem.1 hm).1
      have h2 := congrArg (List.count v) (List.take_append_drop p S)
      have h4 : S.count v = (S.take p).count v + (S.drop p).count v := by
        rw [← h2]
        exact List.count_append
      rw [h3, List.count_cons_self] at h4
      have h5 := List.count_pos_iff.2 h1
      omega
    · exact refT_sorted S p (by omega)
theorem refT_end {S : List Int} (x : Int) : x ∈ refT S S.length ↔ S.count x = 1 := by
  rw [refT_mem, List.take_length]
  exact ⟨fun h => h.2, fun h => ⟨List.count_pos_iff.1 (by omega), h⟩⟩
theorem flatE_length (l : List (Int × Int)) : (flatE l).length = 2 * l.length := by
  induction l with
  | nil => rfl
  | cons e m ih => unfold flatE at ih ⊢; rw [List.flatMap_cons, List.length_append, ih]; simp; omega
theorem flatE_at : ∀ (L : List (Int × Int)) (k : Nat) (e : Int × Int), L[k]? = some e → (flatE L)[2 * k]? = some e.1 ∧ (flatE L)[2 * k + 1]? = some e.2
  | [], k, e, h => by simp at h
  | x :: L, 0, e, h => by
    simp at h
    subst h
    exact ⟨rfl, rfl⟩
  | x :: L, k + 1, e, h => by
    simp at h
    have h1 := flatE_at L k e h
    rw [show 2 * (k + 1) = 2 * k + 2 by omega]
    exact h1
theorem IR.cap {w : World} {B : Nat} {A : Option Addr} {c : Nat} {L : List Int} (h : IR w B A c L) : L.length ≤ c := by
  obtain ⟨A', c', e, hc⟩ := own_form h
  cases e
  exact hc
theorem zl_take (E : List Int) (j : Nat) : (ZL E).take (j * 1) = ZL (E.take j) := by rw [Nat.mul_one]; unfold ZL; rw [List.map_take]
theorem zl_drop (E : List Int) (j : Nat) : (ZL E).drop (j * 1) = ZL (E.drop j) := by rw [Nat.mul_one]; unfold ZL; rw [List.map_drop]
theorem reads_preZ {w : World} {B : Nat} {A : Option Addr} {c : Nat} {E : List Int} (h : Reads w B 1 A E.length (ZL E)) {j : Nat} (hj : j ≤ E.length) (_hc : E.length ≤ c) : Reads w B 1 (if c = 0 then A else A.map (·.add 0)) j (ZL (E.take j)) := by
  have h1 := h.take hj
  rw [zl_take] at h1
  by_cases h0 : c = 0
  · rw [if_pos h0]
    exact h1
  · rw [if_neg h0]
    refine ⟨h1.1, fun hn => ?_⟩
    obtain ⟨ad, rfl, hb, hcell⟩ := h1.2 hn
    exact ⟨ad, by cases ad; rfl, hb, hcell⟩
theorem reads_sufZ {w : World} {B : Nat} {A : Option Addr} {c : Nat} {E : List Int} (h : Reads w B 1 A E.length (ZL E)) {j : Nat} (hj : j ≤ E.length) (hc : E.length ≤ c) : Reads w B 1 (if c = j then A else A.map (·.add (j * 1))) (E.length - j) (ZL (E.drop j)) := by
  have h1 := h.cut hj hc
  rw [zl_drop] at h1
  exact h1
theorem ow_allocZ {w : World} {B : Nat} {e : TypeId} {size n : Nat} {v : Value} {xs : List Value} (h : w.ownsRow B e size v n xs) (o : Obj) : (w.alloc o).ownsRow B e size v n xs := own_same h fun k hk => Below.heap_alloc _ _ _ (h.lt k hk).2
theorem ir_ins {w : World} {B b : Nat} {A : Option Addr} {c : Nat} {E : List Int} {j : Nat} {v : Int} (h : insI E v = E.take j ++ v :: E.drop j) (hj : j ≤ E.length)
    (ho : w.ownsRow b 3 1 (.slice A (j + 1 + (E.length - j)) c) (j + 1 + (E.length - j)) (ZL (E.take j) ++ [.int .i64 v] ++ ZL (E.drop j))) (hb : B ≤ b) : IR w B A c (insI E v) := by
  have h1 := own_mono ho hb
  have hl : j + 1 + (E.length - j) = (insI E v).length := by rw [insI_len]; omega
  rw [hl] at h1
  have h2 : ZL (E.take j) ++ [.int .i64 v] ++ ZL (E.drop j) = ZL (insI E v) := by rw [h]; simp [ZL]
  rw [h2] at h1
  exact h1
theorem zl_oneE (E : List Int) : ∀ u ∈ ZL E, u.oneCell' = true := by
  intro u hu
  obtain ⟨x, _, rfl⟩ := List.mem_map.1 hu
  rfl
attribute [local irreducible] Blk LRow World.alloc World.setCell World.cell? World.frozen? ERow
set_option maxRecDepth 100000 in
set_option maxHeartbeats 8000000 in
theorem refEnds_any (A : Option Addr) (c : Nat) (l : List (Int × Int)) (w : World) (hl : l.length ≤ 1000) (he : ES w A l) :
    Calls Try.prog 22 #[.slice A l.length c] w (fun e w' => ∃ A' c', e = .returned (.slice A' (refT (flatE l) (flatE l).length).length c') ∧ IR w' w.heap.size A' c' (refT (flatE l) (flatE l).length) ∧ Below w.heap.size w w') := by
  have HE := Lib.hid he
  clear he
  obtain ⟨i0, hi0, hz0, hz1, hz2⟩ := info_parts int_infoC
  have HFL := Lib.hid (flatE_length l)
  obtain ⟨S, HSS⟩ : ∃ S, Hid (flatE l = S) := ⟨_, Lib.hid rfl⟩
  have HAT := Lib.hid (flatE_at l)
  rw [HSS.out] at HAT HFL
  go_enter Try.func22, Try.ntmps22
  go_wp2_with fail
  go_loopw [3, 4] (fun ov iv wr => ∃ (i nE : Nat) (A' : Option Addr) (c' : Nat), i ≤ l.length ∧ ov = .slice A' nE c' ∧ iv = .int .i64 i ∧ Hid ((refT S (2 * i)).length = nE) ∧ Hid (IR wr w.heap.size A' c' (refT S (2 * i))) ∧ Hid (Below w.heap.size w wr)) (fun _ iv _ => l.length - (intOf iv).toNat)
  case atStart => exact ⟨0, 0, none, 0, by omega, rfl, rfl, Lib.hid rfl, Lib.hid (IR.nil _ _), Lib.hid (Below.refl _ _)⟩
  case round =>
    obtain ⟨i, nE, A1, c1, hi, rfl, rfl, HNE, HIi, HBi⟩ := hrel
    obtain ⟨wI, hwI⟩ : ∃ wI : World, wI = wr := ⟨_, rfl⟩
    rw [← hwI] at HIi HBi ⊢
    clear hwI
    by_cases hlt : i < l.length
    rotate_left
    · obtain rfl : i = l.length := by omega
      have h2 : 2 * l.length = S.length := HFL.out.symm
      rw [h2] at HNE HIi
      go_wp2_with fail
      go_ret
      refine ⟨A1, c1, ?_, ?_, HBi.out⟩
      · rw [HSS.out, HNE.out]; rfl
      · rw [HSS.out]; exact HIi.out
    have hii : (i : Int) < (l.length : Int) := by omega
    have HNE0 : Hid ((refT S (2 * i + 0)).length = nE) := HNE
    have HI0 : Hid (IR wI w.heap.size A1 c1 (refT S (2 * i + 0))) := HIi
    go_wp2_with fail
    go_loopw [3, 5] (fun ov qv wr => ∃ (jj nE : Nat) (A' : Option Addr) (c' : Nat), jj ≤ 2 ∧ ov = .slice A' nE c' ∧ qv = .int .i64 jj ∧ Hid ((refT S (2 * i + jj)).length = nE) ∧ Hid (IR wr w.heap.size A' c' (refT S (2 * i + jj))) ∧ Hid (Below w.heap.size w wr)) (fun _ qv _ => 2 - (intOf qv).toNat)
    case atStart => exact ⟨0, nE, A1, c1, by omega, rfl, rfl, HNE0, HI0, HBi⟩
    case round =>
      obtain ⟨jj, nE2, A2, c2, hjj, rfl, hqv, HNE2, HI4, HB4⟩ := hrel
      obtain ⟨w4, hw4⟩ : ∃ w4 : World, w4 = wr := ⟨_, rfl⟩
      rw [← hw4] at HI4 HB4 ⊢
      clear hw4 HNE0 HI0 HIi HBi HNE
      by_cases hj2 : jj < 2
      rotate_left
      · obtain rfl : jj = 2 := by omega
        have hqv' : _ = Value.int .i64 2 := hqv
        subst hqv'
        clear hqv
        rw [show 2 * i + 2 = 2 * (i + 1) by omega] at HNE2 HI4
        go_wp2_with fail
        exact ⟨⟨i + 1, nE2, A2, c2, by omega, rfl, by go_num, HNE2, HI4, HB4⟩, by simp [intOf]; omega⟩
      have hjji : (jj : Int) < 2 := by omega
      have hje := List.getElem?_eq_getElem hlt
      obtain ⟨ad, hAd, hadb, heq⟩ := (HE.out.below HB4.out).at_ hje
      have hfa := HAT.out i _ hje
      subst hAd
      obtain ⟨d0, d1, d2, d3⟩ := heq
      obtain ⟨v, hv⟩ : ∃ v, S[2 * i + jj]? = some v := by
        rcases (by omega : jj = 0 ∨ jj = 1) with rfl | rfl
        · exact ⟨_, hfa.1⟩
        · exact ⟨_, hfa.2⟩
      have HVE : Hid ((jj = 0 → l[i].1 = v) ∧ (jj = 1 → l[i].2 = v)) := Lib.hid ⟨fun h => by subst h; have h1 := hfa.1; have h2 : S[2 * i]? = some v := hv; rw [h2] at h1; injection h1 with h1; exact h1.symm, fun h => by subst h; have h1 := hfa.2; rw [hv] at h1; injection h1 with h1; exact h1.symm⟩
      have HV := Lib.hid hv
      clear hje hfa hv
      generalize l[i] = e at *
      obtain ⟨x, y⟩ := e
      simp only at d0 d1 d2 d3 HVE
      go_upto_region 8 with (fail)
      go_cut [6] (fun vv wx => vv = .int .i64 v ∧ wx = w4)
      case first =>
        rcases (by omega : jj = 0 ∨ jj = 1) with rfl | rfl
        · have hqv' : _ = Value.int .i64 0 := hqv
          subst hqv'
          obtain rfl := HVE.out.1 rfl
          go_wp2_with fail
          go_meet
          exact ⟨rfl, rfl⟩
        · have hqv' : _ = Value.int .i64 1 := hqv
          subst hqv'
          obtain rfl := HVE.out.2 rfl
          go_wp2_with fail
          go_meet
          exact ⟨rfl, rfl⟩
      case rest =>
        obtain ⟨rfl, hwc⟩ := hcut
        rw [hwc]
        clear hwc d0 d1 d2 d3 HVE
        subst hqv
        go_wp2_with fail
        go_loopw [7, 8] (fun nv mv wr => ∃ k : Nat, k ≤ l.length ∧ nv = .int .i64 ((flatE (l.take k)).count v : Int) ∧ mv = .int .i64 k ∧ wr = w4) (fun _ mv _ => l.length - (intOf mv).toNat)
        case atStart => exact ⟨0, by omega, by simp [flatE], rfl, rfl⟩
        case round =>
          obtain ⟨k, hk, rfl, rfl, hwr⟩ := hrel
          rw [hwr]
          clear hwr
          by_cases hltk : k < l.length
          · have hki : (k : Int) < (l.length : Int) := by omega
            have hjk := List.getElem?_eq_getElem hltk
            obtain ⟨ad2, hAd2, hadb2, heq2⟩ := (HE.out.below HB4.out).at_ hjk
            injection hAd2 with hAd2
            subst hAd2
            obtain ⟨d0, d1, d2, d3⟩ := heq2
            have HFS := Lib.hid (flatE_step hjk)
            have hcl : (flatE (l.take k)).count v ≤ 2000 := Nat.le_trans List.count_le_length (flatE_len l k (by omega))
            clear hjk
            generalize l[k] = e2 at *
            obtain ⟨x2, y2⟩ := e2
            simp only at d0 d1 d2 d3 HFS
            have HCS : Hid ((flatE (l.take (k + 1))).count v = (flatE (l.take k)).count v + (if x2 = v then 1 else 0) + (if y2 = v then 1 else 0)) := Lib.hid (by
              rw [HFS.out, List.count_append, List.count_append, List.count_singleton, List.count_singleton]
              simp)
            obtain ⟨c9, HC9⟩ : ∃ c9, Hid ((flatE (l.take (k + 1))).count v = c9) := ⟨_, Lib.hid rfl⟩
            rw [HC9.out] at HCS
            generalize (flatE (l.take k)).count v = c0 at *
            go_wp2_with fail
            go_loopw [7, 9] (fun nv qv wr => ∃ q cn : Nat, q ≤ 2 ∧ nv = .int .i64 cn ∧ qv = .int .i64 q ∧ Hid (cn = c0 + (if 0 < q ∧ x2 = v then 1 else 0) + (if 1 < q ∧ y2 = v then 1 else 0)) ∧ wr = w4) (fun _ qv _ => 2 - (intOf qv).toNat)
            case atStart => exact ⟨0, c0, by omega, rfl, rfl, Lib.hid (by simp), rfl⟩
            case round =>
              obtain ⟨q, cn, hq, rfl, hqv, HCN, hwr⟩ := hrel
              rw [hwr]
              clear hwr
              have hcn : cn ≤ 2002 := by have := HCN.out; split at this <;> split at this <;> omega
              have hwrap : IntKind.i64.wrap ((cn : Int) + 1) = (cn : Int) + 1 := IntWalk.i64_in _ (by omega)
              rcases (by omega : q = 0 ∨ q = 1 ∨ q = 2) with rfl | rfl | rfl
              · have hqv' : _ = Value.int .i64 0 := hqv
                subst hqv'
                clear hqv
                by_cases hx : x2 = v
                · have hxb : (x2 == v) = true := by simpa using hx
                  have HCN1 : Hid (cn + 1 = c0 + (if 0 < 1 ∧ x2 = v then 1 else 0) + (if 1 < 1 ∧ y2 = v then 1 else 0)) := Lib.hid (by have := HCN.out; simp [hx] at this ⊢; omega)
                  clear HCS HCN hx
                  go_wp2_with fail
                  exact ⟨⟨1, cn + 1, by omega, by go_num, by go_num, HCN1, by first | rfl | trivial⟩, by simp [intOf]⟩
                · have hxb : (x2 == v) = false := by simpa using hx
                  have HCN1 : Hid (cn = c0 + (if 0 < 1 ∧ x2 = v then 1 else 0) + (if 1 < 1 ∧ y2 = v then 1 else 0)) := Lib.hid (by have := HCN.out; simp [hx] at this ⊢; omega)
                  clear HCS HCN hx
                  go_wp2_with fail
                  exact ⟨⟨1, cn, by omega, rfl, by go_num, HCN1, by first | rfl | trivial⟩, by simp [intOf]⟩
              · have hqv' : _ = Value.int .i64 1 := hqv
                subst hqv'
                clear hqv
                by_cases hx : y2 = v
                · have hxb : (y2 == v) = true := by simpa using hx
                  have HCN1 : Hid (cn + 1 = c0 + (if 0 < 2 ∧ x2 = v then 1 else 0) + (if 1 < 2 ∧ y2 = v then 1 else 0)) := Lib.hid (by have := HCN.out; simp [hx] at this ⊢; omega)
                  clear HCS HCN hx
                  go_wp2_with fail
                  exact ⟨⟨2, cn + 1, by omega, by go_num, by go_num, HCN1, by first | rfl | trivial⟩, by simp [intOf]⟩
                · have hxb : (y2 == v) = false := by simpa using hx
                  have HCN1 : Hid (cn = c0 + (if 0 < 2 ∧ x2 = v then 1 else 0) + (if 1 < 2 ∧ y2 = v then 1 else 0)) := Lib.hid (by have := HCN.out; simp [hx] at this ⊢; omega)
                  clear HCS HCN hx
                  go_wp2_with fail
                  exact ⟨⟨2, cn, by omega, rfl, by go_num, HCN1, by first | rfl | trivial⟩, by simp [intOf]⟩
              · have hqv' : _ = Value.int .i64 2 := hqv
                subst hqv'
                clear hqv
                have hcc : cn = c9 := by
                  have h1 := HCN.out
                  have h2 := HCS.out
                  simp at h1
                  omega
                rw [hcc]
                clear hcc HCN HCS hcn hwrap
                go_wp2_with fail
                exact ⟨⟨k + 1, by omega, by rw [HC9.out], by go_num, by first | rfl | trivial⟩, by simp [intOf]; omega⟩
          · obtain rfl : k = l.length := by omega
            rw [List.take_length, HSS.out]
            have HST := Lib.hid (refT_step HV.out)
            have hpl := refT_len S (2 * i + jj)
            have hnl : nE2 ≤ 2002 := by have := HNE2.out; omega
            have hsc : (S.count v : Nat) ≤ 4000 := Nat.le_trans List.count_le_length (by have := HFL.out; omega)
            obtain ⟨E, HEE⟩ : ∃ E, Hid (refT S (2 * i + jj) = E) := ⟨_, Lib.hid rfl⟩
            rw [HEE.out] at HST HNE2 HI4
            have hnE : E.length = nE2 := HNE2.out
            subst hnE
            clear hpl
            by_cases hcnt : S.count v = 1
            rotate_left
            · have hnb : (((S.count v : Nat) : Int) != 1) = true := by simp; omega
              have HEQ : Hid (refT S (2 * i + (jj + 1)) = E) := Lib.hid (by show refT S ((2 * i + jj) + 1) = E; rw [HST.out, if_neg hcnt])
              clear HST hcnt
              rw [← HEQ.out] at HNE2 HI4
              go_wp2_with fail
              exact ⟨⟨jj + 1, _, A2, c2, by omega, rfl, by go_num, Lib.hid (by rw [HEQ.out]), HI4, HB4⟩, by simp [intOf]; omega⟩
            have HEQ : Hid (refT S (2 * i + (jj + 1)) = insI E v) := Lib.hid (by show refT S ((2 * i + jj) + 1) = _; rw [HST.out, if_pos hcnt])
            rw [hcnt]
            clear HST hcnt hsc
            go_upto_block 8 with (fail)
            go_cut [10] (fun jv wx => ∃ j : Nat, j ≤ E.length ∧ jv = .int .i64 j ∧ wx = w4 ∧ Hid ((∀ i x, i < j → E[i]? = some x → x < v) ∧ (∀ x, E[j]? = some x → ¬ x < v)))
            case first =>
              go_wp2_with fail
              go_loopw [10] (fun jv wx => ∃ j : Nat, j ≤ E.length ∧ jv = .int .i64 j ∧ wx = w4 ∧ Hid (∀ i x, i < j → E[i]? = some x → x < v)) (fun jv _ => E.length - (intOf jv).toNat)
              case atStart => exact ⟨0, by omega, rfl, rfl, Lib.hid (fun i x h => absurd h (by omega))⟩
              case round =>
                obtain ⟨j, hj, rfl, hwr, HJ⟩ := hrel
                rw [hwr]
                clear hwr
                by_cases hlj : j < E.length
                · have hjx := List.getElem?_eq_getElem hlj
                  obtain ⟨ad3, hA3, cq3⟩ := HI4.out.cellQ hjx
                  subst hA3
                  have e0 := cq3.c
                  have hj1 : (j : Int) < (E.length : Int) := by omega
                  have HNX : Hid (E[j] < v → ∀ i x, i < j + 1 → E[i]? = some x → x < v) := Lib.hid fun hl i x hi he => by
                    by_cases hij : i < j
                    · exact HJ.out i x hij he
                    · obtain rfl : i = j := by omega
                      rw [hjx] at he
                      cases he
                      exact hl
                  have HSTP : Hid (¬ E[j] < v → ∀ x, E[j]? = some x → ¬ x < v) := Lib.hid fun hl x he => by
                    rw [hjx] at he
                    cases he
                    exact hl
                  clear hjx cq3
                  generalize E[j] = xa at *
                  by_cases h1 : xa < v
                  · go_wp2_with fail
                    exact ⟨⟨j + 1, by omega, by go_num, by trivial, Lib.hid (HNX.out h1)⟩, by simp [intOf]; omega⟩
                  · go_wp2_with fail
                    go_meet
                    exact ⟨j, by omega, by trivial, by trivial, Lib.hid ⟨HJ.out, HSTP.out h1⟩⟩
                · obtain rfl : j = E.length := by omega
                  go_wp2_with fail
                  go_meet
                  exact ⟨E.length, by omega, by trivial, by trivial, Lib.hid ⟨HJ.out, fun x hx => by simp at hx⟩⟩
            case rest =>
              obtain ⟨j, hj, rfl, hwc, HJ⟩ := hcut
              rw [hwc]
              clear hwc
              have HIN := Lib.hid (insI_at v E j HJ.out.1 hj HJ.out.2)
              have hj0 : (0 : Int) ≤ (j : Int) := by omega
              go_upto_region 22 with (fail)
              obtain ⟨hEc, hEo⟩ : E.length ≤ c2 ∧ j ≤ E.length := ⟨HI4.out.cap, hj⟩
              have hRE := HI4.out.reads
              obtain ⟨Ap, hAp⟩ : ∃ Ap, Ap = (if c2 = 0 then A2 else A2.map (·.add 0)) := ⟨_, rfl⟩
              obtain ⟨As, hAs⟩ : ∃ As, As = (if c2 = j then A2 else A2.map (·.add (j * 1))) := ⟨_, rfl⟩
              have hRP : Hid (Reads w4 w4.heap.size 1 Ap j (ZL (E.take j))) := Lib.hid (by rw [hAp]; exact reads_preZ hRE hj hEc)
              have hRS : Hid (Reads w4 w4.heap.size 1 As (E.length - j) (ZL (E.drop j))) := Lib.hid (by rw [hAs]; exact reads_sufZ hRE hj hEc)
              have hst : ∀ wx, (Instr.slice 25 (.slice A2 E.length c2) none (some (.int .i64 (j : Int))) none).run Try.prog wx = .ok (.slice Ap j c2) wx := fun wx => by
                have := run_slice_to (P := Try.prog) Try.underlying25 hi0 A2 E.length c2 j (by omega) wx
                rw [hAp]; exact this
              have hsf : ∀ wx, (Instr.slice 25 (.slice A2 E.length c2) (some (.int .i64 (j : Int))) none none).run Try.prog wx = .ok (.slice As (E.length - j) (c2 - j)) wx := fun wx => by
                have := run_slice_from (P := Try.prog) Try.underlying25 hi0 A2 E.length c2 j hj wx
                rw [hz1] at this
                rw [hAs]; exact this
              have HB0 := Lib.hid (Below.refl w4.heap.size w4)
              clear hAp hAs hRE hEo HJ
              refine wp_region_till (S := fun _ => True) 12 (by kernel_rfl) trivial (fun hHeld => ?_)
              refine Till.take (i := 1) (v := ?vt1) rfl (by kernel_rfl) (by kernel_rfl) (by kernel_rfl) (by kernel_rfl) (fun _ _ _ h => h) (Or.inl ⟨by rfl, ?ht1⟩) trivial ?restt1
              case ht1 => (intro w hSw; (try dsimp only at hSw); go_simp; try with_reducible rfl)
              (try simp only [Act.put, List.setIfInBounds_toArray, List.set_cons_zero, List.set_cons_succ])
              refine Till.take (i := 2) (v := ?vt2) rfl (by kernel_rfl) (by kernel_rfl) (by kernel_rfl) (by kernel_rfl) (fun _ _ _ h => h) (Or.inl ⟨by rfl, ?ht2⟩) trivial ?restt2
              case ht2 => (intro w hSw; (try dsimp only at hSw); go_simp; try with_reducible rfl)
              (try simp only [Act.put, List.setIfInBounds_toArray, List.set_cons_zero, List.set_cons_succ])
              refine Till.take (i := 3) (v := ?vt3) rfl (by kernel_rfl) (by kernel_rfl) (by kernel_rfl) (by kernel_rfl) (fun _ _ _ h => h) (Or.inl ⟨by rfl, ?ht3⟩) trivial ?restt3
              case ht3 => (intro w hSw; (try dsimp only at hSw); go_simp; try with_reducible rfl)
              (try simp only [Act.put, List.setIfInBounds_toArray, List.set_cons_zero, List.set_cons_succ])
              refine Till.take (i := 5) (v := ?vt4) rfl (by kernel_rfl) (by kernel_rfl) (by kernel_rfl) (by kernel_rfl) (fun _ _ _ h => h) (Or.inl ⟨by rfl, ?ht4⟩) trivial ?restt4
              case ht4 => (intro w hSw; (try dsimp only at hSw); go_simp; try with_reducible rfl)
              (try simp only [Act.put, List.setIfInBounds_toArray, List.set_cons_zero, List.set_cons_succ])
              refine Till.take (i := 8) (v := ?vt5) rfl (by kernel_rfl) (by kernel_rfl) (by kernel_rfl) (by kernel_rfl) (fun _ _ _ h => h) (Or.inl ⟨by rfl, ?ht5⟩) trivial ?restt5
              case ht5 => (intro w hSw; (try dsimp only at hSw); go_simp; try with_reducible rfl)
              (try simp only [Act.put, List.setIfInBounds_toArray, List.set_cons_zero, List.set_cons_succ])
              refine Till.take (i := 9) (v := ?vt6) rfl (by kernel_rfl) (by kernel_rfl) (by kernel_rfl) (by kernel_rfl) (fun _ _ _ h => h) (Or.inl ⟨by rfl, ?ht6⟩) trivial ?restt6
              case ht6 => (intro w hSw; (try dsimp only at hSw); go_simp; try with_reducible rfl)
              (try simp only [Act.put, List.setIfInBounds_toArray, List.set_cons_zero, List.set_cons_succ])
              refine Till.take (i := 10) (v := ?vt7) rfl (by kernel_rfl) (by kernel_rfl) (by kernel_rfl) (by kernel_rfl) (fun _ _ _ h => h) (Or.inl ⟨by rfl, ?ht7⟩) trivial ?restt7
              case ht7 => (intro w hSw; (try dsimp only at hSw); go_simp; try with_reducible rfl)
              (try simp only [Act.put, List.setIfInBounds_toArray, List.set_cons_zero, List.set_cons_succ])
              refine Till.ready (rs := [0, 6]) (by kernel_rfl) (by simp) ?_
              refine TillEach.cons rfl (fun K hK => ?_) ?_
              · go_simp
                refine hK.out _ _ trivial (fun hHeld => ?_)
                clear hK K
                (try simp only [Act.put, List.setIfInBounds_toArray, List.set_cons_zero, List.set_cons_succ])
                refine Till.ready (rs := [4, 6]) (by kernel_rfl) (by simp) ?_
                refine TillEach.cons rfl (fun K hK => ?_) ?_
                · refine step_append_sl _ (by rfl) (.tmp 63) (.tmp 66) _ (by rfl) w4.heap.size 3 i0 _ 1 8 Try.underlying25 hi0 hz0 hz1 hz2 rfl (by omega) ((.slice (some ⟨w4.heap.size, 0, none⟩) 0 0)) (0) ([]) (by rfl) (own_at (size := 1) ((Blk.new w4 3 #[]).drew) (Nat.le_refl _)) w4.heap.size Ap j _ ((ZL (E.take j))) (by rfl) (hRP.out.below (bw_drew (bw_alloc HB0.out _))) (by first | exact zl_oneE _ | simp [Value.oneCell']) (by simp only [maxLen]; omega) (by omega) (bw_size (bw_drew (bw_alloc HB0.out _))) ?_
                  intro A5 c5 w5 hown5 hg5 hat5
                  simp only [Nat.zero_add, List.nil_append] at hown5 ⊢
                  have hB5 : Below w4.heap.size w4 w5 := bw_grow (bw_drew (bw_alloc HB0.out _)) hg5 (fun x hx => ((own_at (size := 1) ((Blk.new w4 3 #[]).drew) (Nat.le_refl _)).lt x hx).1)
                  refine hK.out _ _ trivial (fun hHeld => ?_)
                  clear hK K
                  (try simp only [Act.put, List.setIfInBounds_toArray, List.set_cons_zero, List.set_cons_succ])
                  refine Till.ready (rs := [6]) (by kernel_rfl) (by simp) ?_
                  refine TillEach.cons rfl (fun K hK => ?_) ?_
                  · go_simp
                    refine hK.out _ _ trivial (fun hHeld => ?_)
                    clear hK K
                    (try simp only [Act.put, List.setIfInBounds_toArray, List.set_cons_zero, List.set_cons_succ])
                    refine Till.ready (rs := [7]) (by kernel_rfl) (by simp) ?_
                    refine TillEach.cons rfl (fun K hK => ?_) ?_
                    · refine step_append_sl _ (by rfl) (.tmp 67) (.tmp 69) _ (by rfl) w4.heap.size 3 i0 _ 1 8 Try.underlying25 hi0 hz0 hz1 hz2 rfl (by omega) (.slice A5 j c5) (j) ((ZL (E.take j))) (by rfl) (ow_allocZ hown5 _) (w5.heap.size + 1) (some ⟨w5.heap.size, 0, none⟩) 1 _ ([.int .i64 v]) (by rfl) (reads_newN _ _ _ 1 1 rfl rfl) (by first | exact zl_oneE _ | simp [Value.oneCell']) (by simp only [maxLen]; omega) (by omega) (bw_size (bw_alloc hB5 _)) ?_
                      intro A6 c6 w6 hown6 hg6 hat6
                      have hB6 : Below w4.heap.size w4 w6 := bw_grow (bw_alloc hB5 _) hg6 (fun x hx => (hown5.lt x hx).1)
                      refine hK.out _ _ trivial (fun hHeld => ?_)
                      clear hK K
                      (try simp only [Act.put, List.setIfInBounds_toArray, List.set_cons_zero, List.set_cons_succ])
                      refine Till.ready (rs := [11]) (by kernel_rfl) (by simp) ?_
                      refine TillEach.cons rfl (fun K hK => ?_) ?_
                      · refine step_append_sl _ (by rfl) (.tmp 70) (.tmp 73) _ (by rfl) w4.heap.size 3 i0 _ 1 8 Try.underlying25 hi0 hz0 hz1 hz2 rfl (by omega) (.slice A6 (j + 1) c6) (j + 1) ((ZL (E.take j)) ++ [.int .i64 v]) (by rfl) hown6 w4.heap.size As (E.length - j) _ (ZL (E.drop j)) (by rfl) (hRS.out.below hB6) (by first | exact zl_oneE _ | simp [Value.oneCell']) (by simp only [maxLen]; omega) (by omega) (bw_size hB6) ?_
                        intro A7 c7 w7 hown7 hg7 hat7
                        have hB7 : Below w4.heap.size w4 w7 := bw_grow hB6 hg7 (fun x hx => (hown6.lt x hx).1)
                        refine hK.out _ _ trivial (fun hHeld => ?_)
                        clear hK K
                        (try simp only [Act.put, List.setIfInBounds_toArray, List.set_cons_zero, List.set_cons_succ])
                        refine Till.ready (rs := [12]) (by kernel_rfl) (by simp) ?_
                        refine TillEach.last rfl (fun K hK => ?_)
                        · go_simp
                          refine hK.out _ _ ?_
                          clear hK K
                          (try simp only [Act.put, List.setIfInBounds_toArray, List.set_cons_zero, List.set_cons_succ])
                          refine Till.done (by kernel_rfl) ?_ _
                          go_wp2_with fail
                          exact ⟨⟨jj + 1, _, A7, c7, by omega, rfl, by go_num, Lib.hid (by rw [HEQ.out, insI_len]; omega), Lib.hid (by rw [HEQ.out]; exact ir_ins HIN.out hj hown7 (bw_size HB4.out)), Lib.hid (bw_call HB4.out hB7)⟩, by simp [intOf]; omega⟩
                      exact TillEach.nil
                    exact TillEach.nil
                  exact TillEach.nil
                refine TillEach.cons rfl (fun K hK => ?_) ?_
                · go_simp
                  refine hK.out _ _ trivial (fun hHeld => ?_)
                  clear hK K
                  (try simp only [Act.put, List.setIfInBounds_toArray, List.set_cons_zero, List.set_cons_succ])
                  refine Till.ready (rs := [4]) (by kernel_rfl) (by simp) ?_
                  refine TillEach.cons rfl (fun K hK => ?_) ?_
                  · refine step_append_sl _ (by rfl) (.tmp 63) (.tmp 66) _ (by rfl) w4.heap.size 3 i0 _ 1 8 Try.underlying25 hi0 hz0 hz1 hz2 rfl (by omega) ((.slice (some ⟨w4.heap.size, 0, none⟩) 0 0)) (0) ([]) (by rfl) (own_at (size := 1) (((Blk.new w4 3 #[]).alloc (.cells #[.int .i64 v] 3)).drew) (Nat.le_refl _)) w4.heap.size Ap j _ ((ZL (E.take j))) (by rfl) (hRP.out.below (bw_drew (bw_alloc (bw_alloc HB0.out _) _))) (by first | exact zl_oneE _ | simp [Value.oneCell']) (by simp only [maxLen]; omega) (by omega) (bw_size (bw_drew (bw_alloc (bw_alloc HB0.out _) _))) ?_
                    intro A5 c5 w5 hown5 hg5 hat5
                    simp only [Nat.zero_add, List.nil_append] at hown5 ⊢
                    have hB5 : Below w4.heap.size w4 w5 := bw_grow (bw_drew (bw_alloc (bw_alloc HB0.out _) _)) hg5 (fun x hx => ((own_at (size := 1) (((Blk.new w4 3 #[]).alloc (.cells #[.int .i64 v] 3)).drew) (Nat.le_refl _)).lt x hx).1)
                    have hone : Blk w5 (w4.heap.size + 1) 3 #[.int .i64 v] := ((Blk.new_ (w := w4.alloc (.cells #[] 3)) (g := w4.heap.size + 1) (by simp) 3 #[.int .i64 v]).drew).grown hg5 (by simp [Value.ownBlock])
                    refine hK.out _ _ trivial (fun hHeld => ?_)
                    clear hK K
                    (try simp only [Act.put, List.setIfInBounds_toArray, List.set_cons_zero, List.set_cons_succ])
                    refine Till.ready (rs := [7]) (by kernel_rfl) (by simp) ?_
                    refine TillEach.cons rfl (fun K hK => ?_) ?_
                    · refine step_append_sl _ (by rfl) (.tmp 67) (.tmp 69) _ (by rfl) w4.heap.size 3 i0 _ 1 8 Try.underlying25 hi0 hz0 hz1 hz2 rfl (by omega) (.slice A5 j c5) (j) ((ZL (E.take j))) (by rfl) hown5 (w4.heap.size + 1 + 1) (some ⟨w4.heap.size + 1, 0, none⟩) 1 _ ([.int .i64 v]) (by rfl) (reads_blk (size := 1) (n := 1) hone rfl) (by first | exact zl_oneE _ | simp [Value.oneCell']) (by simp only [maxLen]; omega) (by omega) (bw_size hB5) ?_
                      intro A6 c6 w6 hown6 hg6 hat6
                      have hB6 : Below w4.heap.size w4 w6 := bw_grow hB5 hg6 (fun x hx => (hown5.lt x hx).1)
                      refine hK.out _ _ trivial (fun hHeld => ?_)
                      clear hK K
                      (try simp only [Act.put, List.setIfInBounds_toArray, List.set_cons_zero, List.set_cons_succ])
                      refine Till.ready (rs := [11]) (by kernel_rfl) (by simp) ?_
                      refine TillEach.cons rfl (fun K hK => ?_) ?_
                      · refine step_append_sl _ (by rfl) (.tmp 70) (.tmp 73) _ (by rfl) w4.heap.size 3 i0 _ 1 8 Try.underlying25 hi0 hz0 hz1 hz2 rfl (by omega) (.slice A6 (j + 1) c6) (j + 1) ((ZL (E.take j)) ++ [.int .i64 v]) (by rfl) hown6 w4.heap.size As (E.length - j) _ (ZL (E.drop j)) (by rfl) (hRS.out.below hB6) (by first | exact zl_oneE _ | simp [Value.oneCell']) (by simp only [maxLen]; omega) (by omega) (bw_size hB6) ?_
                        intro A7 c7 w7 hown7 hg7 hat7
                        have hB7 : Below w4.heap.size w4 w7 := bw_grow hB6 hg7 (fun x hx => (hown6.lt x hx).1)
                        refine hK.out _ _ trivial (fun hHeld => ?_)
                        clear hK K
                        (try simp only [Act.put, List.setIfInBounds_toArray, List.set_cons_zero, List.set_cons_succ])
                        refine Till.ready (rs := [12]) (by kernel_rfl) (by simp) ?_
                        refine TillEach.last rfl (fun K hK => ?_)
                        · go_simp
                          refine hK.out _ _ ?_
                          clear hK K
                          (try simp only [Act.put, List.setIfInBounds_toArray, List.set_cons_zero, List.set_cons_succ])
                          refine Till.done (by kernel_rfl) ?_ _
                          go_wp2_with fail
                          exact ⟨⟨jj + 1, _, A7, c7, by omega, rfl, by go_num, Lib.hid (by rw [HEQ.out, insI_len]; omega), Lib.hid (by rw [HEQ.out]; exact ir_ins HIN.out hj hown7 (bw_size HB4.out)), Lib.hid (bw_call HB4.out hB7)⟩, by simp [intOf]; omega⟩
                      exact TillEach.nil
                    exact TillEach.nil
                  exact TillEach.nil
                exact TillEach.nil
              refine TillEach.cons rfl (fun K hK => ?_) ?_
              · go_simp
                refine hK.out _ _ trivial (fun hHeld => ?_)
                clear hK K
                (try simp only [Act.put, List.setIfInBounds_toArray, List.set_cons_zero, List.set_cons_succ])
                refine Till.ready (rs := [0]) (by kernel_rfl) (by simp) ?_
                refine TillEach.cons rfl (fun K hK => ?_) ?_
                · go_simp
                  refine hK.out _ _ trivial (fun hHeld => ?_)
                  clear hK K
                  (try simp only [Act.put, List.setIfInBounds_toArray, List.set_cons_zero, List.set_cons_succ])
                  refine Till.ready (rs := [4]) (by kernel_rfl) (by simp) ?_
                  refine TillEach.cons rfl (fun K hK => ?_) ?_
                  · refine step_append_sl _ (by rfl) (.tmp 63) (.tmp 66) _ (by rfl) w4.heap.size 3 i0 _ 1 8 Try.underlying25 hi0 hz0 hz1 hz2 rfl (by omega) ((.slice (some ⟨w4.heap.size + 1, 0, none⟩) 0 0)) (0) ([]) (by rfl) (own_at (size := 1) ((Blk.new_ (w := w4.alloc (.cells #[.int .i64 v] 3)) (g := w4.heap.size + 1) (by simp) 3 #[]).drew) (Nat.le_succ _)) w4.heap.size Ap j _ ((ZL (E.take j))) (by rfl) (hRP.out.below (bw_drew (bw_alloc (bw_alloc HB0.out _) _))) (by first | exact zl_oneE _ | simp [Value.oneCell']) (by simp only [maxLen]; omega) (by omega) (bw_size (bw_drew (bw_alloc (bw_alloc HB0.out _) _))) ?_
                    intro A5 c5 w5 hown5 hg5 hat5
                    simp only [Nat.zero_add, List.nil_append] at hown5 ⊢
                    have hB5 : Below w4.heap.size w4 w5 := bw_grow (bw_drew (bw_alloc (bw_alloc HB0.out _) _)) hg5 (fun x hx => ((own_at (size := 1) ((Blk.new_ (w := w4.alloc (.cells #[.int .i64 v] 3)) (g := w4.heap.size + 1) (by simp) 3 #[]).drew) (Nat.le_succ _)).lt x hx).1)
                    have hone : Blk w5 w4.heap.size 3 #[.int .i64 v] := (((Blk.new w4 3 #[.int .i64 v]).alloc _).drew).grown hg5 (by simp [Value.ownBlock])
                    refine hK.out _ _ trivial (fun hHeld => ?_)
                    clear hK K
                    (try simp only [Act.put, List.setIfInBounds_toArray, List.set_cons_zero, List.set_cons_succ])
                    refine Till.ready (rs := [7]) (by kernel_rfl) (by simp) ?_
                    refine TillEach.cons rfl (fun K hK => ?_) ?_
                    · refine step_append_sl _ (by rfl) (.tmp 67) (.tmp 69) _ (by rfl) w4.heap.size 3 i0 _ 1 8 Try.underlying25 hi0 hz0 hz1 hz2 rfl (by omega) (.slice A5 j c5) (j) ((ZL (E.take j))) (by rfl) hown5 (w4.heap.size + 1) (some ⟨w4.heap.size, 0, none⟩) 1 _ ([.int .i64 v]) (by rfl) (reads_blk (size := 1) (n := 1) hone rfl) (by first | exact zl_oneE _ | simp [Value.oneCell']) (by simp only [maxLen]; omega) (by omega) (bw_size hB5) ?_
                      intro A6 c6 w6 hown6 hg6 hat6
                      have hB6 : Below w4.heap.size w4 w6 := bw_grow hB5 hg6 (fun x hx => (hown5.lt x hx).1)
                      refine hK.out _ _ trivial (fun hHeld => ?_)
                      clear hK K
                      (try simp only [Act.put, List.setIfInBounds_toArray, List.set_cons_zero, List.set_cons_succ])
                      refine Till.ready (rs := [11]) (by kernel_rfl) (by simp) ?_
                      refine TillEach.cons rfl (fun K hK => ?_) ?_
                      · refine step_append_sl _ (by rfl) (.tmp 70) (.tmp 73) _ (by rfl) w4.heap.size 3 i0 _ 1 8 Try.underlying25 hi0 hz0 hz1 hz2 rfl (by omega) (.slice A6 (j + 1) c6) (j + 1) ((ZL (E.take j)) ++ [.int .i64 v]) (by rfl) hown6 w4.heap.size As (E.length - j) _ (ZL (E.drop j)) (by rfl) (hRS.out.below hB6) (by first | exact zl_oneE _ | simp [Value.oneCell']) (by simp only [maxLen]; omega) (by omega) (bw_size hB6) ?_
                        intro A7 c7 w7 hown7 hg7 hat7
                        have hB7 : Below w4.heap.size w4 w7 := bw_grow hB6 hg7 (fun x hx => (hown6.lt x hx).1)
                        refine hK.out _ _ trivial (fun hHeld => ?_)
                        clear hK K
                        (try simp only [Act.put, List.setIfInBounds_toArray, List.set_cons_zero, List.set_cons_succ])
                        refine Till.ready (rs := [12]) (by kernel_rfl) (by simp) ?_
                        refine TillEach.last rfl (fun K hK => ?_)
                        · go_simp
                          refine hK.out _ _ ?_
                          clear hK K
                          (try simp only [Act.put, List.setIfInBounds_toArray, List.set_cons_zero, List.set_cons_succ])
                          refine Till.done (by kernel_rfl) ?_ _
                          go_wp2_with fail
                          exact ⟨⟨jj + 1, _, A7, c7, by omega, rfl, by go_num, Lib.hid (by rw [HEQ.out, insI_len]; omega), Lib.hid (by rw [HEQ.out]; exact ir_ins HIN.out hj hown7 (bw_size HB4.out)), Lib.hid (bw_call HB4.out hB7)⟩, by simp [intOf]; omega⟩
                      exact TillEach.nil
                    exact TillEach.nil
                  exact TillEach.nil
                exact TillEach.nil
              exact TillEach.nil
end Go.Proofs.Ytcahbcminonfbaa
