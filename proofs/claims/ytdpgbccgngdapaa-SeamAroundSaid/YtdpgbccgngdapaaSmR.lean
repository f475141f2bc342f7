/- seam.right, seam.parts and seam.Edges, walked. No condition but sizes. -/
import Derived.Test.YtdpgbccgngdapaaSmP
import Derived.Test.YtdpgbccgngdapaaSortS
import Derived.Test.YtdpgbccgngdapaaIr
import Derived.IntWalk
namespace Go.Proofs.Ytdpgbccgngdapaa
open Go.RowKit

set_option linter.unusedSimpArgs false
set_option linter.unusedVariables false
/-- A row of values that is read. -/
structure KR (w : World) (A : Option Addr) (K : List Int) : Prop where
  r : Reads w w.heap.size 1 A K.length (ZL K)
section
variable {w w' : World} {A : Option Addr} {K : List Int}
theorem KR.below (h : KR w A K) (hb : Below w.heap.size w w') : KR w' A K := ⟨(h.r.below hb).more hb.size⟩
theorem KR.alloc (h : KR w A K) (o : Obj) : KR (w.alloc o) A K := h.below ((Below.refl _ _).alloc (Nat.le_refl _) _)
theorem KR.drew (h : KR w A K) : KR w.drew A K := ⟨h.r⟩
theorem KR.cell (h : KR w A K) {i : Nat} (hi : i < K.length) : ∃ ad, A = some ad ∧ CellQ w (ad.add i) (.int .i64 (kval K i)) := by
  obtain ⟨ad, x, e, hb, hx, hc⟩ := zl_read h.r hi
  have hx' : kval K i = x := by
    have := kval_at hi
    rw [hx] at this
    injection this with this
    exact this.symm
  rw [hx']
  exact ⟨ad, e, hc, by rw [block_of_add]; exact hb⟩
end
instance (n : Nat) (K : List Int) : Decidable (okK n K) := inferInstanceAs (Decidable (_ ∨ _))
theorem ret_boolS {a b : Bool} (h : a = b) : Ending.returned (.bool a) = .returned (.bool b) := by rw [h]
def outK (x : Int) : Bool := decide (x < 0) || decide (65535 < x)
theorem outK_any (x : Int) (w : World) : Calls Try.prog 36 #[.int .i64 x] w (IsPost w (.bool (outK x))) := by
  unfold outK
  by_cases h0 : x < 0
  · rw [decide_eq_true h0]
    go_enter Try.func36, Try.ntmps36
    go_wp2_with fail
    go_ret
    exact ⟨rfl, rfl⟩
  · rw [decide_eq_false h0]
    by_cases h1 : 65535 < x
    · rw [decide_eq_true h1]
      go_enter Try.func36, Try.ntmps36
      go_wp2_with fail
      go_ret
      exact ⟨rfl, rfl⟩
    · rw [decide_eq_false h1]
      go_enter Try.func36, Try.ntmps36
      go_wp2_with fail
      go_ret
      exact ⟨rfl, rfl⟩
set_option maxRecDepth 100000 in
set_option maxHeartbeats 4000000 in
theorem indexK_any (A : Option Addr) (c : Nat) (K : List Int) (w : World) (hn : K.length ≤ 1000000) (hk : KR w A K) :
    Calls Try.prog 47 #[.slice A K.length c, .func (.func 36) #[] #[]] w (fun e w' => (∃ i : Int, e = .returned (.int .i64 i) ∧ (decide (0 ≤ i) = K.any outK)) ∧ w' = w) := by
  have HK := Lib.hid hk
  clear hk
  go_enter Try.func47, Try.ntmps47
  go_wp2_with fail
  go_loopw [8] (fun iv wr => ∃ k : Nat, k ≤ K.length ∧ iv = .int .i64 k ∧ Hid ((K.take k).any outK = false) ∧ wr = w) (fun iv _ => K.length - (intOf iv).toNat)
  case atStart => exact ⟨0, by omega, rfl, Lib.hid (by simp), rfl⟩
  case round =>
    obtain ⟨k, hkl, rfl, HA, rfl⟩ := hrel
    by_cases hlt : k < K.length
    · obtain ⟨ad, rfl, hc⟩ := HK.out.cell hlt
      have hcc := hc.c
      have hk0 : (0 : Int) ≤ (k : Int) := by omega
      have hk1 : (k : Int) < (K.length : Int) := by omega
      have HKA := Lib.hid (kval_at hlt)
      have HTK : Hid (K.take (k + 1) = K.take k ++ [kval K k]) := Lib.hid (by rw [List.take_add_one, HKA.out]; rfl)
      have HF := Lib.hid (outK_any (kval K k))
      clear hc
      generalize kval K k = x at *
      go_wp2_with fail
      refine (HF.out _).mono ?_
      rintro e w1 ⟨rfl, hw1⟩
      replace hw1 := hw1.symm
      subst hw1
      cases h : outK x with
      | true =>
        have hne : K.any outK = true := List.any_eq_true.2 ⟨x, List.mem_of_getElem? HKA.out, h⟩
        go_wp2_with fail
        go_ret
        exact ⟨⟨k, rfl, by rw [hne]; simp⟩, by first | rfl | trivial⟩
      | false =>
        go_wp2_with fail
        refine ⟨⟨k + 1, by omega, by go_num, Lib.hid ?_, by first | rfl | trivial⟩, by simp [intOf]; omega⟩
        rw [HTK.out, List.any_append, HA.out]
        simp [h]
    · obtain rfl : k = K.length := by omega
      have hall := HA.out
      rw [List.take_length] at hall
      go_wp2_with fail
      go_ret
      exact ⟨⟨-1, rfl, by rw [hall]; rfl⟩, by first | rfl | trivial⟩
set_option maxHeartbeats 2000000 in
theorem containsK_any (A : Option Addr) (c : Nat) (K : List Int) (w : World) (hn : K.length ≤ 1000000) (hk : KR w A K) :
    Calls Try.prog 35 #[.slice A K.length c, .func (.func 36) #[] #[]] w (IsPost w (.bool (K.any outK))) := by
  have HI := Lib.hid (indexK_any A c K w hn hk)
  clear hk
  generalize K.any outK = b at *
  go_enter Try.func35, Try.ntmps35
  go_wp2_with fail
  refine HI.out.mono ?_
  rintro e w1 ⟨⟨i, rfl, hi⟩, hw1⟩
  replace hw1 := hw1.symm
  subst hw1
  by_cases h : 0 ≤ i
  · go_wp2_with fail
    go_ret
    refine ⟨ret_boolS ?_, rfl⟩
    rw [← hi]
    first | done | simp [h]
  · go_wp2_with fail
    go_ret
    refine ⟨ret_boolS ?_, rfl⟩
    rw [← hi]
    first | done | simp [h]
def rightE (n : Nat) (K : List Int) : Int := if okK n K then 0 else 2
theorem right_nil (A : Option Addr) (c n : Nat) (w : World) : Calls Try.prog 18 #[.pointer none, .slice A n c] w (IsPost w (.int .i64 1)) := by
  go_enter Try.func18, Try.ntmps18
  go_wp2_with fail
  go_ret
  exact ⟨rfl, rfl⟩
set_option maxHeartbeats 2000000 in
theorem right_any (g B m : Nat) (T : List Tri) (A : Option Addr) (c : Nat) (K : List Int) (w : World) (hT : T.length ≤ 8192) (hn : K.length ≤ 1000000) (h : TabAt w B g (m : Int) T) (hk : KR w A K) :
    Calls Try.prog 18 #[.pointer (some ⟨g, 0, none⟩), .slice A K.length c] w (IsPost w (.int .i64 (rightE T.length K))) := by
  have HTR := Lib.hid (tris_any g B m T w h.s)
  have HC := Lib.hid (containsK_any A c K w hn hk)
  clear h hk
  obtain ⟨r, HR⟩ : ∃ r, Hid (rightE T.length K = r) := ⟨_, Lib.hid rfl⟩
  rw [HR.out]
  unfold rightE at HR
  by_cases h0 : K.length = 0
  · have hK : K = [] := List.eq_nil_of_length_eq_zero h0
    obtain rfl : 0 = r := by rw [← HR.out, if_pos (.inl hK)]
    rw [h0]
    clear h0 hK HC HTR HR
    go_enter Try.func18, Try.ntmps18
    go_wp2_with fail
    go_ret
    exact ⟨rfl, rfl⟩
  have hi0 : ¬ (K.length : Int) = 0 := by omega
  have hb0 : ((K.length : Int) == 0) = false := by simpa using h0
  have hw3 : IntKind.i64.wrap (3 * (T.length : Int)) = 3 * (T.length : Int) := IntWalk.i64_in _ (by omega)
  have HKN : Hid (K ≠ []) := Lib.hid (fun e => h0 (by rw [e]; rfl))
  by_cases h1 : K.length = 3 * T.length
  rotate_left
  · have hi1 : ¬ (K.length : Int) = 3 * (T.length : Int) := by omega
    have hb1 : ((K.length : Int) != 3 * (T.length : Int)) = true := by simpa using hi1
    obtain rfl : 2 = r := by rw [← HR.out, if_neg]; rintro (e | e); exact HKN.out e; exact h1 e.1
    clear HC HR h0 h1
    go_enter Try.func18, Try.ntmps18
    go_wp2_with fail
    refine HTR.out.mono ?_
    rintro e w1 ⟨rfl, hw1⟩
    replace hw1 := hw1.symm
    subst hw1
    go_wp2_with fail
    go_ret
    exact ⟨rfl, rfl⟩
  have hi1 : (K.length : Int) = 3 * (T.length : Int) := by omega
  have hb1 : (3 * (T.length : Int) != 3 * (T.length : Int)) = false := by simp
  have HR2 : Hid ((if K.any outK then 2 else 0) = r) := Lib.hid (by
    rw [← HR.out]
    cases ha : K.any outK with
    | true =>
      show (2 : Int) = if okK T.length K then 0 else 2
      rw [if_neg]
      · rintro (e | e)
        · exact HKN.out e
        · obtain ⟨x, hx, ho⟩ := List.any_eq_true.1 ha
          have := e.2 x hx
          unfold outK at ho
          simp at ho
          omega
    | false =>
      show (0 : Int) = if okK T.length K then 0 else 2
      rw [if_pos]
      · refine .inr ⟨h1, fun x hx => ?_⟩
        have ho := List.any_eq_false.1 ha x hx
        unfold outK at ho
        simp at ho
        omega)
  generalize K.any outK = b at *
  have HL := Lib.hid hi1
  clear HR hi1 h1
  go_enter Try.func18, Try.ntmps18
  go_wp2_with fail
  refine HTR.out.mono ?_
  rintro e w1 ⟨rfl, hw1⟩
  replace hw1 := hw1.symm
  subst hw1
  have hb2 : ((K.length : Int) != 3 * (T.length : Int)) = false := by rw [HL.out]; exact hb1
  go_wp2_with fail
  refine HC.out.mono ?_
  rintro e w1 ⟨rfl, hw1⟩
  replace hw1 := hw1.symm
  subst hw1
  cases b with
  | true =>
    obtain rfl : 2 = r := HR2.out
    go_wp2_with fail
    go_ret
    exact ⟨rfl, rfl⟩
  | false =>
    obtain rfl : 0 = r := HR2.out
    go_wp2_with fail
    go_ret
    exact ⟨rfl, rfl⟩
/-- What a table of a surface tells of its corners, by their numbers. -/
structure TabN (w : World) (g m : Nat) (T : List Tri) : Prop where
  t : TabAt w 0 g (m : Int) T
  s : SurfE m T
  n : T.length ≤ 1000
section
variable {w w' : World} {g m : Nat} {T : List Tri}
theorem TabN.below (h : TabN w g m T) (hb : Below w.heap.size w w') : TabN w' g m T := ⟨h.t.below hb, h.s, h.n⟩
theorem TabN.alloc (h : TabN w g m T) (o : Obj) : TabN (w.alloc o) g m T := ⟨h.t.alloc o, h.s, h.n⟩
theorem TabN.drew (h : TabN w g m T) : TabN w.drew g m T := ⟨h.t.drew, h.s, h.n⟩
theorem is_int {v : Int} {e : Ending} (h : IsPost w (.int .i64 v) e w') : IntPost w v e w' := ⟨h.1, h.2 ▸ Below.refl _ _⟩
theorem TabN.next (h : TabN w g m T) {c : Nat} (hc : c < 3 * T.length) : Calls Try.prog 11 #[.pointer (some ⟨g, 0, none⟩), .int .i64 (c : Int)] w (IntPost w (nxc c : Int)) := by
  have hn := h.n
  exact nextI_nat hc ▸ (next_any g 0 m T c w (by omega) h.t.s).mono fun e w' h => is_int h
theorem TabN.prev (h : TabN w g m T) {c : Nat} (hc : c < 3 * T.length) : Calls Try.prog 37 #[.pointer (some ⟨g, 0, none⟩), .int .i64 (c : Int)] w (IntPost w (pvc c : Int)) := by
  have hn := h.n
  exact prevI_nat hc ▸ (prev_any g 0 m T c w (by omega) h.t.s).mono fun e w' h => is_int h
theorem TabN.vertex (h : TabN w g m T) {c : Nat} (hc : c < 3 * T.length) : Calls Try.prog 10 #[.pointer (some ⟨g, 0, none⟩), .int .i64 (c : Int)] w (IntPost w (cv T c)) := by
  have hn := h.n
  exact vertexI_nat hc ▸ (vertex_any g 0 m T c w (by omega) h.t.s).mono fun e w' h => is_int h
theorem TabN.edge (h : TabN w g m T) {c : Nat} (hc : c < 3 * T.length) : Calls Try.prog 20 #[.pointer (some ⟨g, 0, none⟩), .int .i64 (c : Int)] w (EdPost w (ce T c)) := by
  have hn := h.n
  exact edgeI_nat hc ▸ edge_any g 0 m T c w (by omega) h.t.s
theorem cv_small (hs : SurfE m T) {c : Nat} (hc : c < 3 * T.length) : (Lit.int .i64 (cv T c)).wf = true := by
  have h1 := cv_ok hs.ok hc
  have h2 := hs.m1
  exact wf_small (by omega) (by omega)
theorem TabN.opp (h : TabN w g m T) {c : Nat} (hc : c < 3 * T.length) : Calls Try.prog 38 #[.pointer (some ⟨g, 0, none⟩), .int .i64 (c : Int)] w (IntPost w (optI (oppF T c))) := by
  have hn := h.n
  have b1 : oppI T (c : Int) = optI (oppF T c) := by unfold oppI oppF facingI; rw [edgeI_nat hc]
  exact b1 ▸ opp_any g 0 m T c w (by omega) (by rw [edgeI_nat hc]; exact ⟨cv_small h.s (pvc_lt hc), cv_small h.s (nxc_lt hc)⟩) h.t
theorem TabN.facing (h : TabN w g m T) {c : Nat} (hc : c < 3 * T.length) : Calls Try.prog 48 #[.pointer (some ⟨g, 0, none⟩), .agg #[.int .i64 (ce T c).1, .int .i64 (ce T c).2]] w (IntPost w (c : Int)) := by
  have hn := h.n
  have b1 : facingI T ((ce T c).1, (ce T c).2) = (c : Int) := by
    rw [show ((ce T c).1, (ce T c).2) = ce T c from rfl]
    unfold facingI
    rw [facing_ce h.s hc]
    rfl
  exact b1 ▸ facing_any g 0 m T (ce T c).1 (ce T c).2 w (by omega) ⟨cv_small h.s (nxc_lt hc), cv_small h.s (pvc_lt hc)⟩ h.t
end
attribute [local irreducible] Blk LRow World.alloc World.setCell World.cell? World.frozen? MapV ERow
set_option maxRecDepth 100000 in
set_option maxHeartbeats 8000000 in
theorem parts_any (g m : Nat) (T : List Tri) (A : Option Addr) (ck : Nat) (K : List Int) (c : Nat) (w : World) (hc : c < 3 * T.length) (hok : okK T.length K) (h : TabN w g m T) (hk : KR w A K) :
    Calls Try.prog 21 #[.pointer (some ⟨g, 0, none⟩), .slice A K.length ck, .int .i64 (c : Int)] w (BoolPost w (partsB T K c)) := by
  have HTw := Lib.hid h
  have HKw := Lib.hid hk
  clear h hk
  have hn := HTw.out.n
  obtain ⟨r, HR⟩ : ∃ r, Hid (partsB T K c = r) := ⟨_, Lib.hid rfl⟩
  rw [HR.out]
  have HO := Lib.hid (HTw.out.opp hc)
  unfold partsB at HR
  go_enter Try.func21, Try.ntmps21
  go_wp2_with fail
  refine HO.out.mono ?_
  rintro e w1 ⟨rfl, hb⟩
  have HTw1 := Lib.hid (HTw.out.below hb)
  have HKw1 := Lib.hid (HKw.out.below hb)
  have HBw1 := Lib.hid hb
  clear hb HTw HKw HO
  cases ho : oppF T c with
  | none =>
    rw [ho] at HR
    obtain rfl : false = r := HR.out
    rw [show optI none = -1 from rfl]
    clear HR ho
    go_upto_region 2 with (fail)
    refine wp_region_till (S := fun w' => True) 37 (by kernel_rfl) trivial (fun hHeld => ?_)
    refine Till.take (i := 0) (v := ?vt1) rfl (by kernel_rfl) (by kernel_rfl) (by kernel_rfl) (by kernel_rfl) (fun _ _ _ h => h) (Or.inl ⟨by rfl, ?ht1⟩) (by assumption) ?restt1
    case ht1 => (intro w hSw; (try dsimp only at hSw); go_simp; try with_reducible rfl)
    (try simp only [Act.put, List.setIfInBounds_toArray, List.set_cons_zero, List.set_cons_succ])
    refine Till.take (i := 1) (v := ?vt2) rfl (by kernel_rfl) (by kernel_rfl) (by kernel_rfl) (by kernel_rfl) (fun _ _ _ h => h) (Or.inl ⟨by rfl, ?ht2⟩) (by assumption) ?restt2
    case ht2 => (intro w hSw; (try dsimp only at hSw); go_simp; try with_reducible rfl)
    (try simp only [Act.put, List.setIfInBounds_toArray, List.set_cons_zero, List.set_cons_succ])
    refine Till.take (i := 2) (v := ?vt3) rfl (by kernel_rfl) (by kernel_rfl) (by kernel_rfl) (by kernel_rfl) (fun _ _ _ h => h) (Or.inl ⟨by rfl, ?ht3⟩) (by assumption) ?restt3
    case ht3 => (intro w hSw; (try dsimp only at hSw); go_simp; try with_reducible rfl)
    (try simp only [Act.put, List.setIfInBounds_toArray, List.set_cons_zero, List.set_cons_succ])
    refine Till.take (i := 3) rfl (by kernel_rfl) (by kernel_rfl) (by kernel_rfl) (by kernel_rfl) (fun _ _ _ h => h) (Or.inr ⟨by rfl, rfl⟩) (by assumption) ?_
    (try simp only [Act.put, List.setIfInBounds_toArray, List.set_cons_zero, List.set_cons_succ])
    refine Till.take (i := 4) rfl (by kernel_rfl) (by kernel_rfl) (by kernel_rfl) (by kernel_rfl) (fun _ _ _ h => h) (Or.inr ⟨by rfl, rfl⟩) (by assumption) ?_
    (try simp only [Act.put, List.setIfInBounds_toArray, List.set_cons_zero, List.set_cons_succ])
    refine Till.take (i := 5) rfl (by kernel_rfl) (by kernel_rfl) (by kernel_rfl) (by kernel_rfl) (fun _ _ _ h => h) (Or.inr ⟨by rfl, rfl⟩) (by assumption) ?_
    (try simp only [Act.put, List.setIfInBounds_toArray, List.set_cons_zero, List.set_cons_succ])
    refine Till.take (i := 6) (v := ?vt4) rfl (by kernel_rfl) (by kernel_rfl) (by kernel_rfl) (by kernel_rfl) (fun _ _ _ h => h) (Or.inl ⟨by rfl, ?ht4⟩) (by assumption) ?restt4
    case ht4 => (intro w hSw; (try dsimp only at hSw); go_simp; try with_reducible rfl)
    (try simp only [Act.put, List.setIfInBounds_toArray, List.set_cons_zero, List.set_cons_succ])
    refine Till.take (i := 7) (v := ?vt5) rfl (by kernel_rfl) (by kernel_rfl) (by kernel_rfl) (by kernel_rfl) (fun _ _ _ h => h) (Or.inl ⟨by rfl, ?ht5⟩) (by assumption) ?restt5
    case ht5 => (intro w hSw; (try dsimp only at hSw); go_simp; try with_reducible rfl)
    (try simp only [Act.put, List.setIfInBounds_toArray, List.set_cons_zero, List.set_cons_succ])
    refine Till.take (i := 8) rfl (by kernel_rfl) (by kernel_rfl) (by kernel_rfl) (by kernel_rfl) (fun _ _ _ h => h) (Or.inr ⟨by rfl, rfl⟩) (by assumption) ?_
    (try simp only [Act.put, List.setIfInBounds_toArray, List.set_cons_zero, List.set_cons_succ])
    refine Till.take (i := 9) rfl (by kernel_rfl) (by kernel_rfl) (by kernel_rfl) (by kernel_rfl) (fun _ _ _ h => h) (Or.inr ⟨by rfl, rfl⟩) (by assumption) ?_
    (try simp only [Act.put, List.setIfInBounds_toArray, List.set_cons_zero, List.set_cons_succ])
    refine Till.take (i := 10) rfl (by kernel_rfl) (by kernel_rfl) (by kernel_rfl) (by kernel_rfl) (fun _ _ _ h => h) (Or.inr ⟨by rfl, rfl⟩) (by assumption) ?_
    (try simp only [Act.put, List.setIfInBounds_toArray, List.set_cons_zero, List.set_cons_succ])
    refine Till.take (i := 11) rfl (by kernel_rfl) (by kernel_rfl) (by kernel_rfl) (by kernel_rfl) (fun _ _ _ h => h) (Or.inr ⟨by rfl, rfl⟩) (by assumption) ?_
    (try simp only [Act.put, List.setIfInBounds_toArray, List.set_cons_zero, List.set_cons_succ])
    refine Till.take (i := 12) rfl (by kernel_rfl) (by kernel_rfl) (by kernel_rfl) (by kernel_rfl) (fun _ _ _ h => h) (Or.inr ⟨by rfl, rfl⟩) (by assumption) ?_
    (try simp only [Act.put, List.setIfInBounds_toArray, List.set_cons_zero, List.set_cons_succ])
    refine Till.take (i := 13) rfl (by kernel_rfl) (by kernel_rfl) (by kernel_rfl) (by kernel_rfl) (fun _ _ _ h => h) (Or.inr ⟨by rfl, rfl⟩) (by assumption) ?_
    (try simp only [Act.put, List.setIfInBounds_toArray, List.set_cons_zero, List.set_cons_succ])
    refine Till.take (i := 14) rfl (by kernel_rfl) (by kernel_rfl) (by kernel_rfl) (by kernel_rfl) (fun _ _ _ h => h) (Or.inr ⟨by rfl, rfl⟩) (by assumption) ?_
    (try simp only [Act.put, List.setIfInBounds_toArray, List.set_cons_zero, List.set_cons_succ])
    refine Till.take (i := 15) rfl (by kernel_rfl) (by kernel_rfl) (by kernel_rfl) (by kernel_rfl) (fun _ _ _ h => h) (Or.inr ⟨by rfl, rfl⟩) (by assumption) ?_
    (try simp only [Act.put, List.setIfInBounds_toArray, List.set_cons_zero, List.set_cons_succ])
    refine Till.take (i := 16) rfl (by kernel_rfl) (by kernel_rfl) (by kernel_rfl) (by kernel_rfl) (fun _ _ _ h => h) (Or.inr ⟨by rfl, rfl⟩) (by assumption) ?_
    (try simp only [Act.put, List.setIfInBounds_toArray, List.set_cons_zero, List.set_cons_succ])
    refine Till.take (i := 17) rfl (by kernel_rfl) (by kernel_rfl) (by kernel_rfl) (by kernel_rfl) (fun _ _ _ h => h) (Or.inr ⟨by rfl, rfl⟩) (by assumption) ?_
    (try simp only [Act.put, List.setIfInBounds_toArray, List.set_cons_zero, List.set_cons_succ])
    refine Till.take (i := 18) rfl (by kernel_rfl) (by kernel_rfl) (by kernel_rfl) (by kernel_rfl) (fun _ _ _ h => h) (Or.inr ⟨by rfl, rfl⟩) (by assumption) ?_
    (try simp only [Act.put, List.setIfInBounds_toArray, List.set_cons_zero, List.set_cons_succ])
    refine Till.take (i := 19) rfl (by kernel_rfl) (by kernel_rfl) (by kernel_rfl) (by kernel_rfl) (fun _ _ _ h => h) (Or.inr ⟨by rfl, rfl⟩) (by assumption) ?_
    (try simp only [Act.put, List.setIfInBounds_toArray, List.set_cons_zero, List.set_cons_succ])
    refine Till.take (i := 20) rfl (by kernel_rfl) (by kernel_rfl) (by kernel_rfl) (by kernel_rfl) (fun _ _ _ h => h) (Or.inr ⟨by rfl, rfl⟩) (by assumption) ?_
    (try simp only [Act.put, List.setIfInBounds_toArray, List.set_cons_zero, List.set_cons_succ])
    refine Till.take (i := 21) rfl (by kernel_rfl) (by kernel_rfl) (by kernel_rfl) (by kernel_rfl) (fun _ _ _ h => h) (Or.inr ⟨by rfl, rfl⟩) (by assumption) ?_
    (try simp only [Act.put, List.setIfInBounds_toArray, List.set_cons_zero, List.set_cons_succ])
    refine Till.take (i := 22) rfl (by kernel_rfl) (by kernel_rfl) (by kernel_rfl) (by kernel_rfl) (fun _ _ _ h => h) (Or.inr ⟨by rfl, rfl⟩) (by assumption) ?_
    (try simp only [Act.put, List.setIfInBounds_toArray, List.set_cons_zero, List.set_cons_succ])
    refine Till.take (i := 23) rfl (by kernel_rfl) (by kernel_rfl) (by kernel_rfl) (by kernel_rfl) (fun _ _ _ h => h) (Or.inr ⟨by rfl, rfl⟩) (by assumption) ?_
    (try simp only [Act.put, List.setIfInBounds_toArray, List.set_cons_zero, List.set_cons_succ])
    refine Till.take (i := 24) rfl (by kernel_rfl) (by kernel_rfl) (by kernel_rfl) (by kernel_rfl) (fun _ _ _ h => h) (Or.inr ⟨by rfl, rfl⟩) (by assumption) ?_
    (try simp only [Act.put, List.setIfInBounds_toArray, List.set_cons_zero, List.set_cons_succ])
    refine Till.take (i := 25) rfl (by kernel_rfl) (by kernel_rfl) (by kernel_rfl) (by kernel_rfl) (fun _ _ _ h => h) (Or.inr ⟨by rfl, rfl⟩) (by assumption) ?_
    (try simp only [Act.put, List.setIfInBounds_toArray, List.set_cons_zero, List.set_cons_succ])
    refine Till.take (i := 26) rfl (by kernel_rfl) (by kernel_rfl) (by kernel_rfl) (by kernel_rfl) (fun _ _ _ h => h) (Or.inr ⟨by rfl, rfl⟩) (by assumption) ?_
    (try simp only [Act.put, List.setIfInBounds_toArray, List.set_cons_zero, List.set_cons_succ])
    refine Till.take (i := 27) rfl (by kernel_rfl) (by kernel_rfl) (by kernel_rfl) (by kernel_rfl) (fun _ _ _ h => h) (Or.inr ⟨by rfl, rfl⟩) (by assumption) ?_
    (try simp only [Act.put, List.setIfInBounds_toArray, List.set_cons_zero, List.set_cons_succ])
    refine Till.take (i := 28) rfl (by kernel_rfl) (by kernel_rfl) (by kernel_rfl) (by kernel_rfl) (fun _ _ _ h => h) (Or.inr ⟨by rfl, rfl⟩) (by assumption) ?_
    (try simp only [Act.put, List.setIfInBounds_toArray, List.set_cons_zero, List.set_cons_succ])
    refine Till.take (i := 29) rfl (by kernel_rfl) (by kernel_rfl) (by kernel_rfl) (by kernel_rfl) (fun _ _ _ h => h) (Or.inr ⟨by rfl, rfl⟩) (by assumption) ?_
    (try simp only [Act.put, List.setIfInBounds_toArray, List.set_cons_zero, List.set_cons_succ])
    refine Till.take (i := 30) rfl (by kernel_rfl) (by kernel_rfl) (by kernel_rfl) (by kernel_rfl) (fun _ _ _ h => h) (Or.inr ⟨by rfl, rfl⟩) (by assumption) ?_
    (try simp only [Act.put, List.setIfInBounds_toArray, List.set_cons_zero, List.set_cons_succ])
    refine Till.take (i := 31) rfl (by kernel_rfl) (by kernel_rfl) (by kernel_rfl) (by kernel_rfl) (fun _ _ _ h => h) (Or.inr ⟨by rfl, rfl⟩) (by assumption) ?_
    (try simp only [Act.put, List.setIfInBounds_toArray, List.set_cons_zero, List.set_cons_succ])
    refine Till.take (i := 32) rfl (by kernel_rfl) (by kernel_rfl) (by kernel_rfl) (by kernel_rfl) (fun _ _ _ h => h) (Or.inr ⟨by rfl, rfl⟩) (by assumption) ?_
    (try simp only [Act.put, List.setIfInBounds_toArray, List.set_cons_zero, List.set_cons_succ])
    refine Till.take (i := 33) rfl (by kernel_rfl) (by kernel_rfl) (by kernel_rfl) (by kernel_rfl) (fun _ _ _ h => h) (Or.inr ⟨by rfl, rfl⟩) (by assumption) ?_
    (try simp only [Act.put, List.setIfInBounds_toArray, List.set_cons_zero, List.set_cons_succ])
    refine Till.take (i := 34) rfl (by kernel_rfl) (by kernel_rfl) (by kernel_rfl) (by kernel_rfl) (fun _ _ _ h => h) (Or.inr ⟨by rfl, rfl⟩) (by assumption) ?_
    (try simp only [Act.put, List.setIfInBounds_toArray, List.set_cons_zero, List.set_cons_succ])
    refine Till.take (i := 35) rfl (by kernel_rfl) (by kernel_rfl) (by kernel_rfl) (by kernel_rfl) (fun _ _ _ h => h) (Or.inr ⟨by rfl, rfl⟩) (by assumption) ?_
    (try simp only [Act.put, List.setIfInBounds_toArray, List.set_cons_zero, List.set_cons_succ])
    refine Till.take (i := 36) (v := ?vt6) rfl (by kernel_rfl) (by kernel_rfl) (by kernel_rfl) (by kernel_rfl) (fun _ _ _ h => h) (Or.inl ⟨by rfl, ?ht6⟩) (by assumption) ?restt6
    case ht6 => (intro w hSw; (try dsimp only at hSw); go_simp; try with_reducible rfl)
    (try simp only [Act.put, List.setIfInBounds_toArray, List.set_cons_zero, List.set_cons_succ])
    refine Till.ready (rs := [37]) (by kernel_rfl) (by simp) ?_
    refine TillEach.last rfl (fun K hK => ?_)
    · go_simp
      refine hK.out _ _ ?_
      clear hK K
      (try simp only [Act.put, List.setIfInBounds_toArray, List.set_cons_zero, List.set_cons_succ])
      refine Till.done (by kernel_rfl) ?_ _
      go_wp2_with fail
      go_ret
      exact ⟨rfl, (bw_drew HBw1.out)⟩
  | some o =>
  rw [ho] at HR
  rw [show optI (some o) = (o : Int) from rfl]
  have hol := oppF_lt ho
  have ho0 : (0 : Int) ≤ (o : Int) := by omega
  clear ho
  by_cases hK : K = []
  · subst hK
    obtain rfl : false = r := HR.out
    clear HR
    simp only [List.length_nil]
    go_upto_region 2 with (fail)
    refine wp_region_till (S := fun w' => True) 37 (by kernel_rfl) trivial (fun hHeld => ?_)
    refine Till.take (i := 0) (v := ?vt7) rfl (by kernel_rfl) (by kernel_rfl) (by kernel_rfl) (by kernel_rfl) (fun _ _ _ h => h) (Or.inl ⟨by rfl, ?ht7⟩) (by assumption) ?restt7
    case ht7 => (intro w hSw; (try dsimp only at hSw); go_simp; try with_reducible rfl)
    (try simp only [Act.put, List.setIfInBounds_toArray, List.set_cons_zero, List.set_cons_succ])
    refine Till.take (i := 1) (v := ?vt8) rfl (by kernel_rfl) (by kernel_rfl) (by kernel_rfl) (by kernel_rfl) (fun _ _ _ h => h) (Or.inl ⟨by rfl, ?ht8⟩) (by assumption) ?restt8
    case ht8 => (intro w hSw; (try dsimp only at hSw); go_simp; try with_reducible rfl)
    (try simp only [Act.put, List.setIfInBounds_toArray, List.set_cons_zero, List.set_cons_succ])
    refine Till.take (i := 2) (v := ?vt9) rfl (by kernel_rfl) (by kernel_rfl) (by kernel_rfl) (by kernel_rfl) (fun _ _ _ h => h) (Or.inl ⟨by rfl, ?ht9⟩) (by assumption) ?restt9
    case ht9 => (intro w hSw; (try dsimp only at hSw); go_simp; try with_reducible rfl)
    (try simp only [Act.put, List.setIfInBounds_toArray, List.set_cons_zero, List.set_cons_succ])
    refine Till.take (i := 3) (v := ?vt10) rfl (by kernel_rfl) (by kernel_rfl) (by kernel_rfl) (by kernel_rfl) (fun _ _ _ h => h) (Or.inl ⟨by rfl, ?ht10⟩) (by assumption) ?restt10
    case ht10 => (intro w hSw; (try dsimp only at hSw); go_simp; try with_reducible rfl)
    (try simp only [Act.put, List.setIfInBounds_toArray, List.set_cons_zero, List.set_cons_succ])
    refine Till.take (i := 4) (v := ?vt11) rfl (by kernel_rfl) (by kernel_rfl) (by kernel_rfl) (by kernel_rfl) (fun _ _ _ h => h) (Or.inl ⟨by rfl, ?ht11⟩) (by assumption) ?restt11
    case ht11 => (intro w hSw; (try dsimp only at hSw); go_simp; try with_reducible rfl)
    (try simp only [Act.put, List.setIfInBounds_toArray, List.set_cons_zero, List.set_cons_succ])
    refine Till.take (i := 5) (v := ?vt12) rfl (by kernel_rfl) (by kernel_rfl) (by kernel_rfl) (by kernel_rfl) (fun _ _ _ h => h) (Or.inl ⟨by rfl, ?ht12⟩) (by assumption) ?restt12
    case ht12 => (intro w hSw; (try dsimp only at hSw); go_simp; try with_reducible rfl)
    (try simp only [Act.put, List.setIfInBounds_toArray, List.set_cons_zero, List.set_cons_succ])
    refine Till.take (i := 6) (v := ?vt13) rfl (by kernel_rfl) (by kernel_rfl) (by kernel_rfl) (by kernel_rfl) (fun _ _ _ h => h) (Or.inl ⟨by rfl, ?ht13⟩) (by assumption) ?restt13
    case ht13 => (intro w hSw; (try dsimp only at hSw); go_simp; try with_reducible rfl)
    (try simp only [Act.put, List.setIfInBounds_toArray, List.set_cons_zero, List.set_cons_succ])
    refine Till.take (i := 7) (v := ?vt14) rfl (by kernel_rfl) (by kernel_rfl) (by kernel_rfl) (by kernel_rfl) (fun _ _ _ h => h) (Or.inl ⟨by rfl, ?ht14⟩) (by assumption) ?restt14
    case ht14 => (intro w hSw; (try dsimp only at hSw); go_simp; try with_reducible rfl)
    (try simp only [Act.put, List.setIfInBounds_toArray, List.set_cons_zero, List.set_cons_succ])
    refine Till.take (i := 8) rfl (by kernel_rfl) (by kernel_rfl) (by kernel_rfl) (by kernel_rfl) (fun _ _ _ h => h) (Or.inr ⟨by rfl, rfl⟩) (by assumption) ?_
    (try simp only [Act.put, List.setIfInBounds_toArray, List.set_cons_zero, List.set_cons_succ])
    refine Till.take (i := 9) rfl (by kernel_rfl) (by kernel_rfl) (by kernel_rfl) (by kernel_rfl) (fun _ _ _ h => h) (Or.inr ⟨by rfl, rfl⟩) (by assumption) ?_
    (try simp only [Act.put, List.setIfInBounds_toArray, List.set_cons_zero, List.set_cons_succ])
    refine Till.take (i := 10) rfl (by kernel_rfl) (by kernel_rfl) (by kernel_rfl) (by kernel_rfl) (fun _ _ _ h => h) (Or.inr ⟨by rfl, rfl⟩) (by assumption) ?_
    (try simp only [Act.put, List.setIfInBounds_toArray, List.set_cons_zero, List.set_cons_succ])
    refine Till.take (i := 11) rfl (by kernel_rfl) (by kernel_rfl) (by kernel_rfl) (by kernel_rfl) (fun _ _ _ h => h) (Or.inr ⟨by rfl, rfl⟩) (by assumption) ?_
    (try simp only [Act.put, List.setIfInBounds_toArray, List.set_cons_zero, List.set_cons_succ])
    refine Till.take (i := 12) rfl (by kernel_rfl) (by kernel_rfl) (by kernel_rfl) (by kernel_rfl) (fun _ _ _ h => h) (Or.inr ⟨by rfl, rfl⟩) (by assumption) ?_
    (try simp only [Act.put, List.setIfInBounds_toArray, List.set_cons_zero, List.set_cons_succ])
    refine Till.take (i := 13) rfl (by kernel_rfl) (by kernel_rfl) (by kernel_rfl) (by kernel_rfl) (fun _ _ _ h => h) (Or.inr ⟨by rfl, rfl⟩) (by assumption) ?_
    (try simp only [Act.put, List.setIfInBounds_toArray, List.set_cons_zero, List.set_cons_succ])
    refine Till.take (i := 14) rfl (by kernel_rfl) (by kernel_rfl) (by kernel_rfl) (by kernel_rfl) (fun _ _ _ h => h) (Or.inr ⟨by rfl, rfl⟩) (by assumption) ?_
    (try simp only [Act.put, List.setIfInBounds_toArray, List.set_cons_zero, List.set_cons_succ])
    refine Till.take (i := 15) rfl (by kernel_rfl) (by kernel_rfl) (by kernel_rfl) (by kernel_rfl) (fun _ _ _ h => h) (Or.inr ⟨by rfl, rfl⟩) (by assumption) ?_
    (try simp only [Act.put, List.setIfInBounds_toArray, List.set_cons_zero, List.set_cons_succ])
    refine Till.take (i := 16) rfl (by kernel_rfl) (by kernel_rfl) (by kernel_rfl) (by kernel_rfl) (fun _ _ _ h => h) (Or.inr ⟨by rfl, rfl⟩) (by assumption) ?_
    (try simp only [Act.put, List.setIfInBounds_toArray, List.set_cons_zero, List.set_cons_succ])
    refine Till.take (i := 17) rfl (by kernel_rfl) (by kernel_rfl) (by kernel_rfl) (by kernel_rfl) (fun _ _ _ h => h) (Or.inr ⟨by rfl, rfl⟩) (by assumption) ?_
    (try simp only [Act.put, List.setIfInBounds_toArray, List.set_cons_zero, List.set_cons_succ])
    refine Till.take (i := 18) rfl (by kernel_rfl) (by kernel_rfl) (by kernel_rfl) (by kernel_rfl) (fun _ _ _ h => h) (Or.inr ⟨by rfl, rfl⟩) (by assumption) ?_
    (try simp only [Act.put, List.setIfInBounds_toArray, List.set_cons_zero, List.set_cons_succ])
    refine Till.take (i := 19) rfl (by kernel_rfl) (by kernel_rfl) (by kernel_rfl) (by kernel_rfl) (fun _ _ _ h => h) (Or.inr ⟨by rfl, rfl⟩) (by assumption) ?_
    (try simp only [Act.put, List.setIfInBounds_toArray, List.set_cons_zero, List.set_cons_succ])
    refine Till.take (i := 20) rfl (by kernel_rfl) (by kernel_rfl) (by kernel_rfl) (by kernel_rfl) (fun _ _ _ h => h) (Or.inr ⟨by rfl, rfl⟩) (by assumption) ?_
    (try simp only [Act.put, List.setIfInBounds_toArray, List.set_cons_zero, List.set_cons_succ])
    refine Till.take (i := 21) rfl (by kernel_rfl) (by kernel_rfl) (by kernel_rfl) (by kernel_rfl) (fun _ _ _ h => h) (Or.inr ⟨by rfl, rfl⟩) (by assumption) ?_
    (try simp only [Act.put, List.setIfInBounds_toArray, List.set_cons_zero, List.set_cons_succ])
    refine Till.take (i := 22) rfl (by kernel_rfl) (by kernel_rfl) (by kernel_rfl) (by kernel_rfl) (fun _ _ _ h => h) (Or.inr ⟨by rfl, rfl⟩) (by assumption) ?_
    (try simp only [Act.put, List.setIfInBounds_toArray, List.set_cons_zero, List.set_cons_succ])
    refine Till.take (i := 23) rfl (by kernel_rfl) (by kernel_rfl) (by kernel_rfl) (by kernel_rfl) (fun _ _ _ h => h) (Or.inr ⟨by rfl, rfl⟩) (by assumption) ?_
    (try simp only [Act.put, List.setIfInBounds_toArray, List.set_cons_zero, List.set_cons_succ])
    refine Till.take (i := 24) rfl (by kernel_rfl) (by kernel_rfl) (by kernel_rfl) (by kernel_rfl) (fun _ _ _ h => h) (Or.inr ⟨by rfl, rfl⟩) (by assumption) ?_
    (try simp only [Act.put, List.setIfInBounds_toArray, List.set_cons_zero, List.set_cons_succ])
    refine Till.take (i := 25) rfl (by kernel_rfl) (by kernel_rfl) (by kernel_rfl) (by kernel_rfl) (fun _ _ _ h => h) (Or.inr ⟨by rfl, rfl⟩) (by assumption) ?_
    (try simp only [Act.put, List.setIfInBounds_toArray, List.set_cons_zero, List.set_cons_succ])
    refine Till.take (i := 26) rfl (by kernel_rfl) (by kernel_rfl) (by kernel_rfl) (by kernel_rfl) (fun _ _ _ h => h) (Or.inr ⟨by rfl, rfl⟩) (by assumption) ?_
    (try simp only [Act.put, List.setIfInBounds_toArray, List.set_cons_zero, List.set_cons_succ])
    refine Till.take (i := 27) rfl (by kernel_rfl) (by kernel_rfl) (by kernel_rfl) (by kernel_rfl) (fun _ _ _ h => h) (Or.inr ⟨by rfl, rfl⟩) (by assumption) ?_
    (try simp only [Act.put, List.setIfInBounds_toArray, List.set_cons_zero, List.set_cons_succ])
    refine Till.take (i := 28) rfl (by kernel_rfl) (by kernel_rfl) (by kernel_rfl) (by kernel_rfl) (fun _ _ _ h => h) (Or.inr ⟨by rfl, rfl⟩) (by assumption) ?_
    (try simp only [Act.put, List.setIfInBounds_toArray, List.set_cons_zero, List.set_cons_succ])
    refine Till.take (i := 29) rfl (by kernel_rfl) (by kernel_rfl) (by kernel_rfl) (by kernel_rfl) (fun _ _ _ h => h) (Or.inr ⟨by rfl, rfl⟩) (by assumption) ?_
    (try simp only [Act.put, List.setIfInBounds_toArray, List.set_cons_zero, List.set_cons_succ])
    refine Till.take (i := 30) rfl (by kernel_rfl) (by kernel_rfl) (by kernel_rfl) (by kernel_rfl) (fun _ _ _ h => h) (Or.inr ⟨by rfl, rfl⟩) (by assumption) ?_
    (try simp only [Act.put, List.setIfInBounds_toArray, List.set_cons_zero, List.set_cons_succ])
    refine Till.take (i := 31) rfl (by kernel_rfl) (by kernel_rfl) (by kernel_rfl) (by kernel_rfl) (fun _ _ _ h => h) (Or.inr ⟨by rfl, rfl⟩) (by assumption) ?_
    (try simp only [Act.put, List.setIfInBounds_toArray, List.set_cons_zero, List.set_cons_succ])
    refine Till.take (i := 32) rfl (by kernel_rfl) (by kernel_rfl) (by kernel_rfl) (by kernel_rfl) (fun _ _ _ h => h) (Or.inr ⟨by rfl, rfl⟩) (by assumption) ?_
    (try simp only [Act.put, List.setIfInBounds_toArray, List.set_cons_zero, List.set_cons_succ])
    refine Till.take (i := 33) rfl (by kernel_rfl) (by kernel_rfl) (by kernel_rfl) (by kernel_rfl) (fun _ _ _ h => h) (Or.inr ⟨by rfl, rfl⟩) (by assumption) ?_
    (try simp only [Act.put, List.setIfInBounds_toArray, List.set_cons_zero, List.set_cons_succ])
    refine Till.take (i := 34) rfl (by kernel_rfl) (by kernel_rfl) (by kernel_rfl) (by kernel_rfl) (fun _ _ _ h => h) (Or.inr ⟨by rfl, rfl⟩) (by assumption) ?_
    (try simp only [Act.put, List.setIfInBounds_toArray, List.set_cons_zero, List.set_cons_succ])
    refine Till.take (i := 35) rfl (by kernel_rfl) (by kernel_rfl) (by kernel_rfl) (by kernel_rfl) (fun _ _ _ h => h) (Or.inr ⟨by rfl, rfl⟩) (by assumption) ?_
    (try simp only [Act.put, List.setIfInBounds_toArray, List.set_cons_zero, List.set_cons_succ])
    refine Till.take (i := 36) (v := ?vt15) rfl (by kernel_rfl) (by kernel_rfl) (by kernel_rfl) (by kernel_rfl) (fun _ _ _ h => h) (Or.inl ⟨by rfl, ?ht15⟩) (by assumption) ?restt15
    case ht15 => (intro w hSw; (try dsimp only at hSw); go_simp; try with_reducible rfl)
    (try simp only [Act.put, List.setIfInBounds_toArray, List.set_cons_zero, List.set_cons_succ])
    refine Till.ready (rs := [37]) (by kernel_rfl) (by simp) ?_
    refine TillEach.last rfl (fun K hK => ?_)
    · go_simp
      refine hK.out _ _ ?_
      clear hK K
      (try simp only [Act.put, List.setIfInBounds_toArray, List.set_cons_zero, List.set_cons_succ])
      refine Till.done (by kernel_rfl) ?_ _
      go_wp2_with fail
      go_ret
      exact ⟨rfl, (bw_drew HBw1.out)⟩
  have hKl : K.length = 3 * T.length := by
    rcases hok with e | e
    · exact absurd e hK
    · exact e.1
  have hpos : (0 : Int) < (K.length : Int) := by omega
  have hposn : 0 < K.length := by omega
  have HR2 : Hid (((kval K (nxc c) != kval K (pvc o)) || (kval K (pvc c) != kval K (nxc o))) = r) := Lib.hid (by
    have h := HR.out
    simp only [decide_eq_true hK, Bool.true_and] at h
    exact h)
  have l1 := nxc_lt hc
  have l2 := pvc_lt hol
  have l3 := pvc_lt hc
  have l4 := nxc_lt hol
  obtain ⟨ak, hA, cq1⟩ := HKw1.out.cell (show nxc c < K.length by omega)
  obtain ⟨ak', hA', cq2⟩ := HKw1.out.cell (show pvc o < K.length by omega)
  obtain rfl : ak = ak' := by rw [hA] at hA'; injection hA'
  obtain ⟨ak', hA', cq3⟩ := HKw1.out.cell (show pvc c < K.length by omega)
  obtain rfl : ak = ak' := by rw [hA] at hA'; injection hA'
  obtain ⟨ak', hA', cq4⟩ := HKw1.out.cell (show nxc o < K.length by omega)
  obtain rfl : ak = ak' := by rw [hA] at hA'; injection hA'
  subst hA
  have C1w1 := Lib.hid cq1
  have C2w1 := Lib.hid cq2
  have C3w1 := Lib.hid cq3
  have C4w1 := Lib.hid cq4
  have HN1 : Hid (∀ W, TabN W g m T → Calls Try.prog 11 #[.pointer (some ⟨g, 0, none⟩), .int .i64 (c : Int)] W (IntPost W (nxc c : Int))) := Lib.hid fun W h => h.next hc
  have HN2 : Hid (∀ W, TabN W g m T → Calls Try.prog 11 #[.pointer (some ⟨g, 0, none⟩), .int .i64 (o : Int)] W (IntPost W (nxc o : Int))) := Lib.hid fun W h => h.next hol
  have HP1 : Hid (∀ W, TabN W g m T → Calls Try.prog 37 #[.pointer (some ⟨g, 0, none⟩), .int .i64 (c : Int)] W (IntPost W (pvc c : Int))) := Lib.hid fun W h => h.prev hc
  have HP2 : Hid (∀ W, TabN W g m T → Calls Try.prog 37 #[.pointer (some ⟨g, 0, none⟩), .int .i64 (o : Int)] W (IntPost W (pvc o : Int))) := Lib.hid fun W h => h.prev hol
  clear cq1 cq2 cq3 cq4 hA' HR HKw1 hok
  generalize kval K (nxc c) = v1 at *
  generalize kval K (pvc o) = v2 at *
  generalize kval K (pvc c) = v3 at *
  generalize kval K (nxc o) = v4 at *
  generalize nxc c = n1 at *
  generalize pvc o = n2 at *
  generalize pvc c = n3 at *
  generalize nxc o = n4 at *
  have i1 : (n1 : Int) < (K.length : Int) := by omega
  have i2 : (n2 : Int) < (K.length : Int) := by omega
  have i3 : (n3 : Int) < (K.length : Int) := by omega
  have i4 : (n4 : Int) < (K.length : Int) := by omega
  clear hKl
  generalize K.length = kl at *
  go_upto_region 2 with (fail)
  by_cases h12 : v1 = v2
  rotate_left
  · have hb12 : (v1 != v2) = true := by simpa using h12
    obtain rfl : true = r := by rw [← HR2.out, hb12]; rfl
    clear HR2
    refine wp_region_till (S := fun w' => w'.cell? (ak.add n1) = some (.int .i64 v1) ∧ w'.cell? (ak.add n2) = some (.int .i64 v2) ∧ w'.cell? (ak.add n3) = some (.int .i64 v3) ∧ w'.cell? (ak.add n4) = some (.int .i64 v4)) 37 (by kernel_rfl) ⟨C1w1.out.drew.c, C2w1.out.drew.c, C3w1.out.drew.c, C4w1.out.drew.c⟩ (fun hHeld => ?_)
    refine Till.take (i := 0) (v := ?vt16) rfl (by kernel_rfl) (by kernel_rfl) (by kernel_rfl) (by kernel_rfl) (fun _ _ _ h => h) (Or.inl ⟨by rfl, ?ht16⟩) (by assumption) ?restt16
    case ht16 => (intro w hSw; (try dsimp only at hSw); go_simp; try with_reducible rfl)
    (try simp only [Act.put, List.setIfInBounds_toArray, List.set_cons_zero, List.set_cons_succ])
    refine Till.take (i := 1) (v := ?vt17) rfl (by kernel_rfl) (by kernel_rfl) (by kernel_rfl) (by kernel_rfl) (fun _ _ _ h => h) (Or.inl ⟨by rfl, ?ht17⟩) (by assumption) ?restt17
    case ht17 => (intro w hSw; (try dsimp only at hSw); go_simp; try with_reducible rfl)
    (try simp only [Act.put, List.setIfInBounds_toArray, List.set_cons_zero, List.set_cons_succ])
    refine Till.take (i := 2) (v := ?vt18) rfl (by kernel_rfl) (by kernel_rfl) (by kernel_rfl) (by kernel_rfl) (fun _ _ _ h => h) (Or.inl ⟨by rfl, ?ht18⟩) (by assumption) ?restt18
    case ht18 => (intro w hSw; (try dsimp only at hSw); go_simp; try with_reducible rfl)
    (try simp only [Act.put, List.setIfInBounds_toArray, List.set_cons_zero, List.set_cons_succ])
    refine Till.take (i := 3) (v := ?vt19) rfl (by kernel_rfl) (by kernel_rfl) (by kernel_rfl) (by kernel_rfl) (fun _ _ _ h => h) (Or.inl ⟨by rfl, ?ht19⟩) (by assumption) ?restt19
    case ht19 => (intro w hSw; (try dsimp only at hSw); go_simp; try with_reducible rfl)
    (try simp only [Act.put, List.setIfInBounds_toArray, List.set_cons_zero, List.set_cons_succ])
    refine Till.take (i := 4) (v := ?vt20) rfl (by kernel_rfl) (by kernel_rfl) (by kernel_rfl) (by kernel_rfl) (fun _ _ _ h => h) (Or.inl ⟨by rfl, ?ht20⟩) (by assumption) ?restt20
    case ht20 => (intro w hSw; (try dsimp only at hSw); go_simp; try with_reducible rfl)
    (try simp only [Act.put, List.setIfInBounds_toArray, List.set_cons_zero, List.set_cons_succ])
    refine Till.take (i := 5) (v := ?vt21) rfl (by kernel_rfl) (by kernel_rfl) (by kernel_rfl) (by kernel_rfl) (fun _ _ _ h => h) (Or.inl ⟨by rfl, ?ht21⟩) (by assumption) ?restt21
    case ht21 => (intro w hSw; (try dsimp only at hSw); go_simp; try with_reducible rfl)
    (try simp only [Act.put, List.setIfInBounds_toArray, List.set_cons_zero, List.set_cons_succ])
    refine Till.take (i := 6) (v := ?vt22) rfl (by kernel_rfl) (by kernel_rfl) (by kernel_rfl) (by kernel_rfl) (fun _ _ _ h => h) (Or.inl ⟨by rfl, ?ht22⟩) (by assumption) ?restt22
    case ht22 => (intro w hSw; (try dsimp only at hSw); go_simp; try with_reducible rfl)
    (try simp only [Act.put, List.setIfInBounds_toArray, List.set_cons_zero, List.set_cons_succ])
    refine Till.take (i := 7) (v := ?vt23) rfl (by kernel_rfl) (by kernel_rfl) (by kernel_rfl) (by kernel_rfl) (fun _ _ _ h => h) (Or.inl ⟨by rfl, ?ht23⟩) (by assumption) ?restt23
    case ht23 => (intro w hSw; (try dsimp only at hSw); go_simp; try with_reducible rfl)
    (try simp only [Act.put, List.setIfInBounds_toArray, List.set_cons_zero, List.set_cons_succ])
    refine Till.take (i := 8) (v := ?vt24) rfl (by kernel_rfl) (by kernel_rfl) (by kernel_rfl) (by kernel_rfl) (fun _ _ _ h => h) (Or.inl ⟨by rfl, ?ht24⟩) (by assumption) ?restt24
    case ht24 => (intro w hSw; (try dsimp only at hSw); go_simp; try with_reducible rfl)
    (try simp only [Act.put, List.setIfInBounds_toArray, List.set_cons_zero, List.set_cons_succ])
    refine Till.take (i := 9) (v := ?vt25) rfl (by kernel_rfl) (by kernel_rfl) (by kernel_rfl) (by kernel_rfl) (fun _ _ _ h => h) (Or.inl ⟨by rfl, ?ht25⟩) (by assumption) ?restt25
    case ht25 => (intro w hSw; (try dsimp only at hSw); go_simp; try with_reducible rfl)
    (try simp only [Act.put, List.setIfInBounds_toArray, List.set_cons_zero, List.set_cons_succ])
    refine Till.take (i := 10) (v := ?vt26) rfl (by kernel_rfl) (by kernel_rfl) (by kernel_rfl) (by kernel_rfl) (fun _ _ _ h => h) (Or.inl ⟨by rfl, ?ht26⟩) (by assumption) ?restt26
    case ht26 => (intro w hSw; (try dsimp only at hSw); go_simp; try with_reducible rfl)
    (try simp only [Act.put, List.setIfInBounds_toArray, List.set_cons_zero, List.set_cons_succ])
    refine Till.take (i := 14) (v := ?vt27) rfl (by kernel_rfl) (by kernel_rfl) (by kernel_rfl) (by kernel_rfl) (fun _ _ _ h => h) (Or.inl ⟨by rfl, ?ht27⟩) (by assumption) ?restt27
    case ht27 => (intro w hSw; (try dsimp only at hSw); go_simp; try with_reducible rfl)
    (try simp only [Act.put, List.setIfInBounds_toArray, List.set_cons_zero, List.set_cons_succ])
    refine Till.take (i := 15) (v := ?vt28) rfl (by kernel_rfl) (by kernel_rfl) (by kernel_rfl) (by kernel_rfl) (fun _ _ _ h => h) (Or.inl ⟨by rfl, ?ht28⟩) (by assumption) ?restt28
    case ht28 => (intro w hSw; (try dsimp only at hSw); go_simp; try with_reducible rfl)
    (try simp only [Act.put, List.setIfInBounds_toArray, List.set_cons_zero, List.set_cons_succ])
    refine Till.take (i := 16) (v := ?vt29) rfl (by kernel_rfl) (by kernel_rfl) (by kernel_rfl) (by kernel_rfl) (fun _ _ _ h => h) (Or.inl ⟨by rfl, ?ht29⟩) (by assumption) ?restt29
    case ht29 => (intro w hSw; (try dsimp only at hSw); go_simp; try with_reducible rfl)
    (try simp only [Act.put, List.setIfInBounds_toArray, List.set_cons_zero, List.set_cons_succ])
    refine Till.ready (rs := [11]) (by kernel_rfl) (by simp) ?_
    refine TillEach.cons rfl (fun K hK => ?_) ?_
    · go_simp
      go_wp2_with (go_at_call 11; refine (HN1.out w1.drew HTw1.out.drew).mono ?_; rintro e v3 ⟨rfl, hb⟩)
      have C1v3 := Lib.hid (C1w1.out.drew.below hb)
      have C2v3 := Lib.hid (C2w1.out.drew.below hb)
      have C3v3 := Lib.hid (C3w1.out.drew.below hb)
      have C4v3 := Lib.hid (C4w1.out.drew.below hb)
      have HTv3 := Lib.hid (HTw1.out.drew.below hb)
      have HBv3 := Lib.hid (bw_call (bw_drew HBw1.out) hb)
      clear hb
      refine hK.out _ _ ?_ (fun hHeld => ?_)
      · exact ⟨C1v3.out.c, C2v3.out.c, C3v3.out.c, C4v3.out.c⟩
      clear hK K
      (try simp only [Act.put, List.setIfInBounds_toArray, List.set_cons_zero, List.set_cons_succ])
      refine Till.take (i := 12) (v := ?vt30) rfl (by kernel_rfl) (by kernel_rfl) (by kernel_rfl) (by kernel_rfl) (fun _ _ _ h => h) (Or.inl ⟨by rfl, ?ht30⟩) (by assumption) ?restt30
      case ht30 => (intro w hSw; (try dsimp only at hSw); go_simp; try with_reducible rfl)
      (try simp only [Act.put, List.setIfInBounds_toArray, List.set_cons_zero, List.set_cons_succ])
      refine Till.take (i := 13) (v := ?vt31) rfl (by kernel_rfl) (by kernel_rfl) (by kernel_rfl) (by kernel_rfl) (fun _ _ _ h => h) (Or.inl ⟨by rfl, ?ht31⟩) (by assumption) ?restt31
      case ht31 => (intro w hSw; (try dsimp only at hSw); go_simp; try with_reducible rfl)
      (try simp only [Act.put, List.setIfInBounds_toArray, List.set_cons_zero, List.set_cons_succ])
      refine Till.ready (rs := [17]) (by kernel_rfl) (by simp) ?_
      refine TillEach.cons rfl (fun K hK => ?_) ?_
      · go_simp
        go_wp2_with (go_at_call 37; refine (HP2.out v3 HTv3.out).mono ?_; rintro e v4 ⟨rfl, hb⟩)
        have C1v4 := Lib.hid (C1v3.out.below hb)
        have C2v4 := Lib.hid (C2v3.out.below hb)
        have C3v4 := Lib.hid (C3v3.out.below hb)
        have C4v4 := Lib.hid (C4v3.out.below hb)
        have HTv4 := Lib.hid (HTv3.out.below hb)
        have HBv4 := Lib.hid (bw_call HBv3.out hb)
        clear hb C1v3 C2v3 C3v3 C4v3 HTv3 HBv3
        refine hK.out _ _ ?_ (fun hHeld => ?_)
        · exact ⟨C1v4.out.c, C2v4.out.c, C3v4.out.c, C4v4.out.c⟩
        clear hK K
        (try simp only [Act.put, List.setIfInBounds_toArray, List.set_cons_zero, List.set_cons_succ])
        refine Till.take (i := 18) (v := ?vt32) rfl (by kernel_rfl) (by kernel_rfl) (by kernel_rfl) (by kernel_rfl) (fun _ _ _ h => h) (Or.inl ⟨by rfl, ?ht32⟩) (by assumption) ?restt32
        case ht32 => (intro w hSw; (try dsimp only at hSw); go_simp; try with_reducible rfl)
        (try simp only [Act.put, List.setIfInBounds_toArray, List.set_cons_zero, List.set_cons_succ])
        refine Till.take (i := 19) (v := ?vt33) rfl (by kernel_rfl) (by kernel_rfl) (by kernel_rfl) (by kernel_rfl) (fun _ _ _ h => h) (Or.inl ⟨by rfl, ?ht33⟩) (by assumption) ?restt33
        case ht33 => (intro w hSw; (try dsimp only at hSw); go_simp; try with_reducible rfl)
        (try simp only [Act.put, List.setIfInBounds_toArray, List.set_cons_zero, List.set_cons_succ])
        refine Till.take (i := 20) (v := ?vt34) rfl (by kernel_rfl) (by kernel_rfl) (by kernel_rfl) (by kernel_rfl) (fun _ _ _ h => h) (Or.inl ⟨by rfl, ?ht34⟩) (by assumption) ?restt34
        case ht34 => (intro w hSw; (try dsimp only at hSw); go_simp; try with_reducible rfl)
        (try simp only [Act.put, List.setIfInBounds_toArray, List.set_cons_zero, List.set_cons_succ])
        refine Till.take (i := 21) (v := ?vt35) rfl (by kernel_rfl) (by kernel_rfl) (by kernel_rfl) (by kernel_rfl) (fun _ _ _ h => h) (Or.inl ⟨by rfl, ?ht35⟩) (by assumption) ?restt35
        case ht35 => (intro w hSw; (try dsimp only at hSw); go_simp; try with_reducible rfl)
        (try simp only [Act.put, List.setIfInBounds_toArray, List.set_cons_zero, List.set_cons_succ])
        refine Till.take (i := 22) rfl (by kernel_rfl) (by kernel_rfl) (by kernel_rfl) (by kernel_rfl) (fun _ _ _ h => h) (Or.inr ⟨by rfl, rfl⟩) (by assumption) ?_
        (try simp only [Act.put, List.setIfInBounds_toArray, List.set_cons_zero, List.set_cons_succ])
        refine Till.take (i := 23) rfl (by kernel_rfl) (by kernel_rfl) (by kernel_rfl) (by kernel_rfl) (fun _ _ _ h => h) (Or.inr ⟨by rfl, rfl⟩) (by assumption) ?_
        (try simp only [Act.put, List.setIfInBounds_toArray, List.set_cons_zero, List.set_cons_succ])
        refine Till.take (i := 24) rfl (by kernel_rfl) (by kernel_rfl) (by kernel_rfl) (by kernel_rfl) (fun _ _ _ h => h) (Or.inr ⟨by rfl, rfl⟩) (by assumption) ?_
        (try simp only [Act.put, List.setIfInBounds_toArray, List.set_cons_zero, List.set_cons_succ])
        refine Till.take (i := 25) rfl (by kernel_rfl) (by kernel_rfl) (by kernel_rfl) (by kernel_rfl) (fun _ _ _ h => h) (Or.inr ⟨by rfl, rfl⟩) (by assumption) ?_
        (try simp only [Act.put, List.setIfInBounds_toArray, List.set_cons_zero, List.set_cons_succ])
        refine Till.take (i := 26) rfl (by kernel_rfl) (by kernel_rfl) (by kernel_rfl) (by kernel_rfl) (fun _ _ _ h => h) (Or.inr ⟨by rfl, rfl⟩) (by assumption) ?_
        (try simp only [Act.put, List.setIfInBounds_toArray, List.set_cons_zero, List.set_cons_succ])
        refine Till.take (i := 27) rfl (by kernel_rfl) (by kernel_rfl) (by kernel_rfl) (by kernel_rfl) (fun _ _ _ h => h) (Or.inr ⟨by rfl, rfl⟩) (by assumption) ?_
        (try simp only [Act.put, List.setIfInBounds_toArray, List.set_cons_zero, List.set_cons_succ])
        refine Till.take (i := 28) rfl (by kernel_rfl) (by kernel_rfl) (by kernel_rfl) (by kernel_rfl) (fun _ _ _ h => h) (Or.inr ⟨by rfl, rfl⟩) (by assumption) ?_
        (try simp only [Act.put, List.setIfInBounds_toArray, List.set_cons_zero, List.set_cons_succ])
        refine Till.take (i := 29) rfl (by kernel_rfl) (by kernel_rfl) (by kernel_rfl) (by kernel_rfl) (fun _ _ _ h => h) (Or.inr ⟨by rfl, rfl⟩) (by assumption) ?_
        (try simp only [Act.put, List.setIfInBounds_toArray, List.set_cons_zero, List.set_cons_succ])
        refine Till.take (i := 30) rfl (by kernel_rfl) (by kernel_rfl) (by kernel_rfl) (by kernel_rfl) (fun _ _ _ h => h) (Or.inr ⟨by rfl, rfl⟩) (by assumption) ?_
        (try simp only [Act.put, List.setIfInBounds_toArray, List.set_cons_zero, List.set_cons_succ])
        refine Till.take (i := 31) rfl (by kernel_rfl) (by kernel_rfl) (by kernel_rfl) (by kernel_rfl) (fun _ _ _ h => h) (Or.inr ⟨by rfl, rfl⟩) (by assumption) ?_
        (try simp only [Act.put, List.setIfInBounds_toArray, List.set_cons_zero, List.set_cons_succ])
        refine Till.take (i := 32) rfl (by kernel_rfl) (by kernel_rfl) (by kernel_rfl) (by kernel_rfl) (fun _ _ _ h => h) (Or.inr ⟨by rfl, rfl⟩) (by assumption) ?_
        (try simp only [Act.put, List.setIfInBounds_toArray, List.set_cons_zero, List.set_cons_succ])
        refine Till.take (i := 33) rfl (by kernel_rfl) (by kernel_rfl) (by kernel_rfl) (by kernel_rfl) (fun _ _ _ h => h) (Or.inr ⟨by rfl, rfl⟩) (by assumption) ?_
        (try simp only [Act.put, List.setIfInBounds_toArray, List.set_cons_zero, List.set_cons_succ])
        refine Till.take (i := 34) rfl (by kernel_rfl) (by kernel_rfl) (by kernel_rfl) (by kernel_rfl) (fun _ _ _ h => h) (Or.inr ⟨by rfl, rfl⟩) (by assumption) ?_
        (try simp only [Act.put, List.setIfInBounds_toArray, List.set_cons_zero, List.set_cons_succ])
        refine Till.take (i := 35) (v := ?vt36) rfl (by kernel_rfl) (by kernel_rfl) (by kernel_rfl) (by kernel_rfl) (fun _ _ _ h => h) (Or.inl ⟨by rfl, ?ht36⟩) (by assumption) ?restt36
        case ht36 => (intro w hSw; (try dsimp only at hSw); go_simp; try with_reducible rfl)
        (try simp only [Act.put, List.setIfInBounds_toArray, List.set_cons_zero, List.set_cons_succ])
        refine Till.take (i := 36) (v := ?vt37) rfl (by kernel_rfl) (by kernel_rfl) (by kernel_rfl) (by kernel_rfl) (fun _ _ _ h => h) (Or.inl ⟨by rfl, ?ht37⟩) (by assumption) ?restt37
        case ht37 => (intro w hSw; (try dsimp only at hSw); go_simp; try with_reducible rfl)
        (try simp only [Act.put, List.setIfInBounds_toArray, List.set_cons_zero, List.set_cons_succ])
        refine Till.ready (rs := [37]) (by kernel_rfl) (by simp) ?_
        refine TillEach.last rfl (fun K hK => ?_)
        · go_simp
          refine hK.out _ _ ?_
          clear hK K
          (try simp only [Act.put, List.setIfInBounds_toArray, List.set_cons_zero, List.set_cons_succ])
          refine Till.done (by kernel_rfl) ?_ _
          go_wp2_with fail
          go_ret
          exact ⟨rfl, HBv4.out⟩
      exact TillEach.nil
    exact TillEach.nil
  have hb12 : (v1 != v2) = false := by simpa using h12
  obtain rfl : (v3 != v4) = r := by rw [← HR2.out, hb12]; rfl
  clear HR2
  refine wp_region_till (S := fun w' => w'.cell? (ak.add n1) = some (.int .i64 v1) ∧ w'.cell? (ak.add n2) = some (.int .i64 v2) ∧ w'.cell? (ak.add n3) = some (.int .i64 v3) ∧ w'.cell? (ak.add n4) = some (.int .i64 v4)) 37 (by kernel_rfl) ⟨C1w1.out.drew.c, C2w1.out.drew.c, C3w1.out.drew.c, C4w1.out.drew.c⟩ (fun hHeld => ?_)
  refine Till.take (i := 0) (v := ?vt38) rfl (by kernel_rfl) (by kernel_rfl) (by kernel_rfl) (by kernel_rfl) (fun _ _ _ h => h) (Or.inl ⟨by rfl, ?ht38⟩) (by assumption) ?restt38
  case ht38 => (intro w hSw; (try dsimp only at hSw); go_simp; try with_reducible rfl)
  (try simp only [Act.put, List.setIfInBounds_toArray, List.set_cons_zero, List.set_cons_succ])
  refine Till.take (i := 1) (v := ?vt39) rfl (by kernel_rfl) (by kernel_rfl) (by kernel_rfl) (by kernel_rfl) (fun _ _ _ h => h) (Or.inl ⟨by rfl, ?ht39⟩) (by assumption) ?restt39
  case ht39 => (intro w hSw; (try dsimp only at hSw); go_simp; try with_reducible rfl)
  (try simp only [Act.put, List.setIfInBounds_toArray, List.set_cons_zero, List.set_cons_succ])
  refine Till.take (i := 2) (v := ?vt40) rfl (by kernel_rfl) (by kernel_rfl) (by kernel_rfl) (by kernel_rfl) (fun _ _ _ h => h) (Or.inl ⟨by rfl, ?ht40⟩) (by assumption) ?restt40
  case ht40 => (intro w hSw; (try dsimp only at hSw); go_simp; try with_reducible rfl)
  (try simp only [Act.put, List.setIfInBounds_toArray, List.set_cons_zero, List.set_cons_succ])
  refine Till.take (i := 3) (v := ?vt41) rfl (by kernel_rfl) (by kernel_rfl) (by kernel_rfl) (by kernel_rfl) (fun _ _ _ h => h) (Or.inl ⟨by rfl, ?ht41⟩) (by assumption) ?restt41
  case ht41 => (intro w hSw; (try dsimp only at hSw); go_simp; try with_reducible rfl)
  (try simp only [Act.put, List.setIfInBounds_toArray, List.set_cons_zero, List.set_cons_succ])
  refine Till.take (i := 4) (v := ?vt42) rfl (by kernel_rfl) (by kernel_rfl) (by kernel_rfl) (by kernel_rfl) (fun _ _ _ h => h) (Or.inl ⟨by rfl, ?ht42⟩) (by assumption) ?restt42
  case ht42 => (intro w hSw; (try dsimp only at hSw); go_simp; try with_reducible rfl)
  (try simp only [Act.put, List.setIfInBounds_toArray, List.set_cons_zero, List.set_cons_succ])
  refine Till.take (i := 5) (v := ?vt43) rfl (by kernel_rfl) (by kernel_rfl) (by kernel_rfl) (by kernel_rfl) (fun _ _ _ h => h) (Or.inl ⟨by rfl, ?ht43⟩) (by assumption) ?restt43
  case ht43 => (intro w hSw; (try dsimp only at hSw); go_simp; try with_reducible rfl)
  (try simp only [Act.put, List.setIfInBounds_toArray, List.set_cons_zero, List.set_cons_succ])
  refine Till.take (i := 6) (v := ?vt44) rfl (by kernel_rfl) (by kernel_rfl) (by kernel_rfl) (by kernel_rfl) (fun _ _ _ h => h) (Or.inl ⟨by rfl, ?ht44⟩) (by assumption) ?restt44
  case ht44 => (intro w hSw; (try dsimp only at hSw); go_simp; try with_reducible rfl)
  (try simp only [Act.put, List.setIfInBounds_toArray, List.set_cons_zero, List.set_cons_succ])
  refine Till.take (i := 7) (v := ?vt45) rfl (by kernel_rfl) (by kernel_rfl) (by kernel_rfl) (by kernel_rfl) (fun _ _ _ h => h) (Or.inl ⟨by rfl, ?ht45⟩) (by assumption) ?restt45
  case ht45 => (intro w hSw; (try dsimp only at hSw); go_simp; try with_reducible rfl)
  (try simp only [Act.put, List.setIfInBounds_toArray, List.set_cons_zero, List.set_cons_succ])
  refine Till.take (i := 8) (v := ?vt46) rfl (by kernel_rfl) (by kernel_rfl) (by kernel_rfl) (by kernel_rfl) (fun _ _ _ h => h) (Or.inl ⟨by rfl, ?ht46⟩) (by assumption) ?restt46
  case ht46 => (intro w hSw; (try dsimp only at hSw); go_simp; try with_reducible rfl)
  (try simp only [Act.put, List.setIfInBounds_toArray, List.set_cons_zero, List.set_cons_succ])
  refine Till.take (i := 9) (v := ?vt47) rfl (by kernel_rfl) (by kernel_rfl) (by kernel_rfl) (by kernel_rfl) (fun _ _ _ h => h) (Or.inl ⟨by rfl, ?ht47⟩) (by assumption) ?restt47
  case ht47 => (intro w hSw; (try dsimp only at hSw); go_simp; try with_reducible rfl)
  (try simp only [Act.put, List.setIfInBounds_toArray, List.set_cons_zero, List.set_cons_succ])
  refine Till.take (i := 10) (v := ?vt48) rfl (by kernel_rfl) (by kernel_rfl) (by kernel_rfl) (by kernel_rfl) (fun _ _ _ h => h) (Or.inl ⟨by rfl, ?ht48⟩) (by assumption) ?restt48
  case ht48 => (intro w hSw; (try dsimp only at hSw); go_simp; try with_reducible rfl)
  (try simp only [Act.put, List.setIfInBounds_toArray, List.set_cons_zero, List.set_cons_succ])
  refine Till.take (i := 14) (v := ?vt49) rfl (by kernel_rfl) (by kernel_rfl) (by kernel_rfl) (by kernel_rfl) (fun _ _ _ h => h) (Or.inl ⟨by rfl, ?ht49⟩) (by assumption) ?restt49
  case ht49 => (intro w hSw; (try dsimp only at hSw); go_simp; try with_reducible rfl)
  (try simp only [Act.put, List.setIfInBounds_toArray, List.set_cons_zero, List.set_cons_succ])
  refine Till.take (i := 15) (v := ?vt50) rfl (by kernel_rfl) (by kernel_rfl) (by kernel_rfl) (by kernel_rfl) (fun _ _ _ h => h) (Or.inl ⟨by rfl, ?ht50⟩) (by assumption) ?restt50
  case ht50 => (intro w hSw; (try dsimp only at hSw); go_simp; try with_reducible rfl)
  (try simp only [Act.put, List.setIfInBounds_toArray, List.set_cons_zero, List.set_cons_succ])
  refine Till.take (i := 16) (v := ?vt51) rfl (by kernel_rfl) (by kernel_rfl) (by kernel_rfl) (by kernel_rfl) (fun _ _ _ h => h) (Or.inl ⟨by rfl, ?ht51⟩) (by assumption) ?restt51
  case ht51 => (intro w hSw; (try dsimp only at hSw); go_simp; try with_reducible rfl)
  (try simp only [Act.put, List.setIfInBounds_toArray, List.set_cons_zero, List.set_cons_succ])
  refine Till.ready (rs := [11]) (by kernel_rfl) (by simp) ?_
  refine TillEach.cons rfl (fun K hK => ?_) ?_
  · go_simp
    go_wp2_with (go_at_call 11; refine (HN1.out w1.drew HTw1.out.drew).mono ?_; rintro e v3 ⟨rfl, hb⟩)
    have C1v3 := Lib.hid (C1w1.out.drew.below hb)
    have C2v3 := Lib.hid (C2w1.out.drew.below hb)
    have C3v3 := Lib.hid (C3w1.out.drew.below hb)
    have C4v3 := Lib.hid (C4w1.out.drew.below hb)
    have HTv3 := Lib.hid (HTw1.out.drew.below hb)
    have HBv3 := Lib.hid (bw_call (bw_drew HBw1.out) hb)
    clear hb
    refine hK.out _ _ ?_ (fun hHeld => ?_)
    · exact ⟨C1v3.out.c, C2v3.out.c, C3v3.out.c, C4v3.out.c⟩
    clear hK K
    (try simp only [Act.put, List.setIfInBounds_toArray, List.set_cons_zero, List.set_cons_succ])
    refine Till.take (i := 12) (v := ?vt52) rfl (by kernel_rfl) (by kernel_rfl) (by kernel_rfl) (by kernel_rfl) (fun _ _ _ h => h) (Or.inl ⟨by rfl, ?ht52⟩) (by assumption) ?restt52
    case ht52 => (intro w hSw; (try dsimp only at hSw); go_simp; try with_reducible rfl)
    (try simp only [Act.put, List.setIfInBounds_toArray, List.set_cons_zero, List.set_cons_succ])
    refine Till.take (i := 13) (v := ?vt53) rfl (by kernel_rfl) (by kernel_rfl) (by kernel_rfl) (by kernel_rfl) (fun _ _ _ h => h) (Or.inl ⟨by rfl, ?ht53⟩) (by assumption) ?restt53
    case ht53 => (intro w hSw; (try dsimp only at hSw); go_simp; try with_reducible rfl)
    (try simp only [Act.put, List.setIfInBounds_toArray, List.set_cons_zero, List.set_cons_succ])
    refine Till.ready (rs := [17]) (by kernel_rfl) (by simp) ?_
    refine TillEach.cons rfl (fun K hK => ?_) ?_
    · go_simp
      go_wp2_with (go_at_call 37; refine (HP2.out v3 HTv3.out).mono ?_; rintro e v4 ⟨rfl, hb⟩)
      have C1v4 := Lib.hid (C1v3.out.below hb)
      have C2v4 := Lib.hid (C2v3.out.below hb)
      have C3v4 := Lib.hid (C3v3.out.below hb)
      have C4v4 := Lib.hid (C4v3.out.below hb)
      have HTv4 := Lib.hid (HTv3.out.below hb)
      have HBv4 := Lib.hid (bw_call HBv3.out hb)
      clear hb C1v3 C2v3 C3v3 C4v3 HTv3 HBv3
      refine hK.out _ _ ?_ (fun hHeld => ?_)
      · exact ⟨C1v4.out.c, C2v4.out.c, C3v4.out.c, C4v4.out.c⟩
      clear hK K
      (try simp only [Act.put, List.setIfInBounds_toArray, List.set_cons_zero, List.set_cons_succ])
      refine Till.take (i := 18) (v := ?vt54) rfl (by kernel_rfl) (by kernel_rfl) (by kernel_rfl) (by kernel_rfl) (fun _ _ _ h => h) (Or.inl ⟨by rfl, ?ht54⟩) (by assumption) ?restt54
      case ht54 => (intro w hSw; (try dsimp only at hSw); go_simp; try with_reducible rfl)
      (try simp only [Act.put, List.setIfInBounds_toArray, List.set_cons_zero, List.set_cons_succ])
      refine Till.take (i := 19) (v := ?vt55) rfl (by kernel_rfl) (by kernel_rfl) (by kernel_rfl) (by kernel_rfl) (fun _ _ _ h => h) (Or.inl ⟨by rfl, ?ht55⟩) (by assumption) ?restt55
      case ht55 => (intro w hSw; (try dsimp only at hSw); go_simp; try with_reducible rfl)
      (try simp only [Act.put, List.setIfInBounds_toArray, List.set_cons_zero, List.set_cons_succ])
      refine Till.take (i := 20) (v := ?vt56) rfl (by kernel_rfl) (by kernel_rfl) (by kernel_rfl) (by kernel_rfl) (fun _ _ _ h => h) (Or.inl ⟨by rfl, ?ht56⟩) (by assumption) ?restt56
      case ht56 => (intro w hSw; (try dsimp only at hSw); go_simp; try with_reducible rfl)
      (try simp only [Act.put, List.setIfInBounds_toArray, List.set_cons_zero, List.set_cons_succ])
      refine Till.take (i := 21) (v := ?vt57) rfl (by kernel_rfl) (by kernel_rfl) (by kernel_rfl) (by kernel_rfl) (fun _ _ _ h => h) (Or.inl ⟨by rfl, ?ht57⟩) (by assumption) ?restt57
      case ht57 => (intro w hSw; (try dsimp only at hSw); go_simp; try with_reducible rfl)
      (try simp only [Act.put, List.setIfInBounds_toArray, List.set_cons_zero, List.set_cons_succ])
      refine Till.take (i := 22) (v := ?vt58) rfl (by kernel_rfl) (by kernel_rfl) (by kernel_rfl) (by kernel_rfl) (fun _ _ _ h => h) (Or.inl ⟨by rfl, ?ht58⟩) (by assumption) ?restt58
      case ht58 => (intro w hSw; (try dsimp only at hSw); go_simp; try with_reducible rfl)
      (try simp only [Act.put, List.setIfInBounds_toArray, List.set_cons_zero, List.set_cons_succ])
      refine Till.take (i := 23) (v := ?vt59) rfl (by kernel_rfl) (by kernel_rfl) (by kernel_rfl) (by kernel_rfl) (fun _ _ _ h => h) (Or.inl ⟨by rfl, ?ht59⟩) (by assumption) ?restt59
      case ht59 => (intro w hSw; (try dsimp only at hSw); go_simp; try with_reducible rfl)
      (try simp only [Act.put, List.setIfInBounds_toArray, List.set_cons_zero, List.set_cons_succ])
      refine Till.take (i := 24) (v := ?vt60) rfl (by kernel_rfl) (by kernel_rfl) (by kernel_rfl) (by kernel_rfl) (fun _ _ _ h => h) (Or.inl ⟨by rfl, ?ht60⟩) (by assumption) ?restt60
      case ht60 => (intro w hSw; (try dsimp only at hSw); go_simp; try with_reducible rfl)
      (try simp only [Act.put, List.setIfInBounds_toArray, List.set_cons_zero, List.set_cons_succ])
      refine Till.take (i := 28) (v := ?vt61) rfl (by kernel_rfl) (by kernel_rfl) (by kernel_rfl) (by kernel_rfl) (fun _ _ _ h => h) (Or.inl ⟨by rfl, ?ht61⟩) (by assumption) ?restt61
      case ht61 => (intro w hSw; (try dsimp only at hSw); go_simp; try with_reducible rfl)
      (try simp only [Act.put, List.setIfInBounds_toArray, List.set_cons_zero, List.set_cons_succ])
      refine Till.take (i := 29) (v := ?vt62) rfl (by kernel_rfl) (by kernel_rfl) (by kernel_rfl) (by kernel_rfl) (fun _ _ _ h => h) (Or.inl ⟨by rfl, ?ht62⟩) (by assumption) ?restt62
      case ht62 => (intro w hSw; (try dsimp only at hSw); go_simp; try with_reducible rfl)
      (try simp only [Act.put, List.setIfInBounds_toArray, List.set_cons_zero, List.set_cons_succ])
      refine Till.take (i := 30) (v := ?vt63) rfl (by kernel_rfl) (by kernel_rfl) (by kernel_rfl) (by kernel_rfl) (fun _ _ _ h => h) (Or.inl ⟨by rfl, ?ht63⟩) (by assumption) ?restt63
      case ht63 => (intro w hSw; (try dsimp only at hSw); go_simp; try with_reducible rfl)
      (try simp only [Act.put, List.setIfInBounds_toArray, List.set_cons_zero, List.set_cons_succ])
      refine Till.ready (rs := [25]) (by kernel_rfl) (by simp) ?_
      refine TillEach.cons rfl (fun K hK => ?_) ?_
      · go_simp
        go_wp2_with (go_at_call 37; refine (HP1.out v4 HTv4.out).mono ?_; rintro e v5 ⟨rfl, hb⟩)
        have C1v5 := Lib.hid (C1v4.out.below hb)
        have C2v5 := Lib.hid (C2v4.out.below hb)
        have C3v5 := Lib.hid (C3v4.out.below hb)
        have C4v5 := Lib.hid (C4v4.out.below hb)
        have HTv5 := Lib.hid (HTv4.out.below hb)
        have HBv5 := Lib.hid (bw_call HBv4.out hb)
        clear hb C1v4 C2v4 C3v4 C4v4 HTv4 HBv4
        refine hK.out _ _ ?_ (fun hHeld => ?_)
        · exact ⟨C1v5.out.c, C2v5.out.c, C3v5.out.c, C4v5.out.c⟩
        clear hK K
        (try simp only [Act.put, List.setIfInBounds_toArray, List.set_cons_zero, List.set_cons_succ])
        refine Till.take (i := 26) (v := ?vt64) rfl (by kernel_rfl) (by kernel_rfl) (by kernel_rfl) (by kernel_rfl) (fun _ _ _ h => h) (Or.inl ⟨by rfl, ?ht64⟩) (by assumption) ?restt64
        case ht64 => (intro w hSw; (try dsimp only at hSw); go_simp; try with_reducible rfl)
        (try simp only [Act.put, List.setIfInBounds_toArray, List.set_cons_zero, List.set_cons_succ])
        refine Till.take (i := 27) (v := ?vt65) rfl (by kernel_rfl) (by kernel_rfl) (by kernel_rfl) (by kernel_rfl) (fun _ _ _ h => h) (Or.inl ⟨by rfl, ?ht65⟩) (by assumption) ?restt65
        case ht65 => (intro w hSw; (try dsimp only at hSw); go_simp; try with_reducible rfl)
        (try simp only [Act.put, List.setIfInBounds_toArray, List.set_cons_zero, List.set_cons_succ])
        refine Till.ready (rs := [31]) (by kernel_rfl) (by simp) ?_
        refine TillEach.cons rfl (fun K hK => ?_) ?_
        · go_simp
          go_wp2_with (go_at_call 11; refine (HN2.out v5 HTv5.out).mono ?_; rintro e v6 ⟨rfl, hb⟩)
          have C1v6 := Lib.hid (C1v5.out.below hb)
          have C2v6 := Lib.hid (C2v5.out.below hb)
          have C3v6 := Lib.hid (C3v5.out.below hb)
          have C4v6 := Lib.hid (C4v5.out.below hb)
          have HTv6 := Lib.hid (HTv5.out.below hb)
          have HBv6 := Lib.hid (bw_call HBv5.out hb)
          clear hb C1v5 C2v5 C3v5 C4v5 HTv5 HBv5
          refine hK.out _ _ ?_ (fun hHeld => ?_)
          · exact ⟨C1v6.out.c, C2v6.out.c, C3v6.out.c, C4v6.out.c⟩
          clear hK K
          (try simp only [Act.put, List.setIfInBounds_toArray, List.set_cons_zero, List.set_cons_succ])
          refine Till.take (i := 32) (v := ?vt66) rfl (by kernel_rfl) (by kernel_rfl) (by kernel_rfl) (by kernel_rfl) (fun _ _ _ h => h) (Or.inl ⟨by rfl, ?ht66⟩) (by assumption) ?restt66
          case ht66 => (intro w hSw; (try dsimp only at hSw); go_simp; try with_reducible rfl)
          (try simp only [Act.put, List.setIfInBounds_toArray, List.set_cons_zero, List.set_cons_succ])
          refine Till.take (i := 33) (v := ?vt67) rfl (by kernel_rfl) (by kernel_rfl) (by kernel_rfl) (by kernel_rfl) (fun _ _ _ h => h) (Or.inl ⟨by rfl, ?ht67⟩) (by assumption) ?restt67
          case ht67 => (intro w hSw; (try dsimp only at hSw); go_simp; try with_reducible rfl)
          (try simp only [Act.put, List.setIfInBounds_toArray, List.set_cons_zero, List.set_cons_succ])
          refine Till.take (i := 34) (v := ?vt68) rfl (by kernel_rfl) (by kernel_rfl) (by kernel_rfl) (by kernel_rfl) (fun _ _ _ h => h) (Or.inl ⟨by rfl, ?ht68⟩) (by assumption) ?restt68
          case ht68 => (intro w hSw; (try dsimp only at hSw); go_simp; try with_reducible rfl)
          (try simp only [Act.put, List.setIfInBounds_toArray, List.set_cons_zero, List.set_cons_succ])
          refine Till.take (i := 35) (v := ?vt69) rfl (by kernel_rfl) (by kernel_rfl) (by kernel_rfl) (by kernel_rfl) (fun _ _ _ h => h) (Or.inl ⟨by rfl, ?ht69⟩) (by assumption) ?restt69
          case ht69 => (intro w hSw; (try dsimp only at hSw); go_simp; try with_reducible rfl)
          (try simp only [Act.put, List.setIfInBounds_toArray, List.set_cons_zero, List.set_cons_succ])
          refine Till.take (i := 36) (v := ?vt70) rfl (by kernel_rfl) (by kernel_rfl) (by kernel_rfl) (by kernel_rfl) (fun _ _ _ h => h) (Or.inl ⟨by rfl, ?ht70⟩) (by assumption) ?restt70
          case ht70 => (intro w hSw; (try dsimp only at hSw); go_simp; try with_reducible rfl)
          (try simp only [Act.put, List.setIfInBounds_toArray, List.set_cons_zero, List.set_cons_succ])
          refine Till.ready (rs := [37]) (by kernel_rfl) (by simp) ?_
          refine TillEach.last rfl (fun K hK => ?_)
          · go_simp
            refine hK.out _ _ ?_
            clear hK K
            (try simp only [Act.put, List.setIfInBounds_toArray, List.set_cons_zero, List.set_cons_succ])
            refine Till.done (by kernel_rfl) ?_ _
            go_wp2_with fail
            go_ret
            exact ⟨rfl, HBv6.out⟩
        exact TillEach.nil
      exact TillEach.nil
    exact TillEach.nil
  exact TillEach.nil
theorem edge_infoS : (Try.prog.info? 39).map (fun i => (i.zero, i.size, i.bytes)) = some (some (.agg #[.int .i64 0, .int .i64 0]), 2, 16) := by kernel_rfl
theorem edges_nil (A : Option Addr) (c n : Nat) (w : World) : Calls Try.prog 7 #[.pointer none, .slice A n c] w (IsPost w (.tuple #[.slice none 0 0, .int .i64 1])) := by
  go_enter Try.func7, Try.ntmps7
  go_wp2_with fail
  refine (right_nil A c n w).mono ?_
  rintro e w1 ⟨rfl, hw1⟩
  replace hw1 := hw1.symm
  subst hw1
  go_wp2_with fail
  go_ret2
  exact ⟨rfl, rfl⟩
theorem edges_bad (g m : Nat) (T : List Tri) (A : Option Addr) (c : Nat) (K : List Int) (w : World) (hn : K.length ≤ 1000000) (h : TabN w g m T) (hk : KR w A K) (hok : ¬ okK T.length K) :
    Calls Try.prog 7 #[.pointer (some ⟨g, 0, none⟩), .slice A K.length c] w (IsPost w (.tuple #[.slice none 0 0, .int .i64 2])) := by
  have HR := Lib.hid (right_any g 0 m T A c K w (by have := h.n; omega) hn h.t hk)
  unfold rightE at HR
  rw [if_neg hok] at HR
  clear h hk hok
  go_enter Try.func7, Try.ntmps7
  go_wp2_with fail
  refine HR.out.mono ?_
  rintro e w1 ⟨rfl, hw1⟩
  replace hw1 := hw1.symm
  subst hw1
  go_wp2_with fail
  go_ret2
  exact ⟨rfl, rfl⟩
/-- The seams. -/
def SeamPost (w : World) (T : List Tri) (K : List Int) (e : Ending) (w' : World) : Prop :=
  ∃ (A' : Option Addr) (c' : Nat), e = .returned (.tuple #[.slice A' (sortE (seamsN T K (3 * T.length))).length c', .int .i64 0]) ∧ ERow w' w.heap.size A' c' (sortE (seamsN T K (3 * T.length))) ∧ Below w.heap.size w w'
set_option maxRecDepth 100000 in
set_option maxHeartbeats 8000000 in
theorem edges31_any (g m : Nat) (T : List Tri) (A : Option Addr) (c : Nat) (K : List Int) (w : World) (hn : K.length ≤ 1000000) (h : TabN w g m T) (hk : KR w A K) (hok : okK T.length K) :
    Calls Try.prog 7 #[.pointer (some ⟨g, 0, none⟩), .slice A K.length c] w (SeamPost w T K) := by
  have HR := Lib.hid (right_any g 0 m T A c K w (by have := h.n; omega) hn h.t hk)
  unfold rightE at HR
  rw [if_pos hok] at HR
  have HTw := Lib.hid h
  have HKw := Lib.hid hk
  have HOK := Lib.hid hok
  have hTn := h.n
  clear h hk hok
  obtain ⟨i0, hi0, hz0, hz1, hz2⟩ := info_parts edge_infoS
  go_enter Try.func7, Try.ntmps7
  go_wp2_with fail
  refine HR.out.mono ?_
  rintro e w1 ⟨rfl, hw1⟩
  replace hw1 := hw1.symm
  subst hw1
  clear HR
  have hw3 : IntKind.i64.wrap (3 * (T.length : Int)) = 3 * (T.length : Int) := IntWalk.i64_in _ (by omega)
  go_wp2_with fail
  refine (tris_any g 0 m T _ HTw.out.t.s).mono ?_
  rintro e w2 ⟨rfl, hw2⟩
  replace hw2 := hw2.symm
  subst hw2
  have HE0 : Hid (ERow w w.heap.size none 0 (seamsN T K 0)) := Lib.hid (ERow.nil _ _)
  have HB0 : Hid (Below w.heap.size w w) := Lib.hid (Below.refl _ _)
  go_wp2_with fail
  go_loopw [7, 19] (fun ov iv wr => ∃ (k : Nat) (A' : Option Addr) (c' : Nat), k ≤ 3 * T.length ∧ ov = .slice A' (seamsN T K k).length c' ∧ iv = .int .i64 k ∧ Hid (ERow wr w.heap.size A' c' (seamsN T K k)) ∧ Hid (Below w.heap.size w wr)) (fun _ iv _ => 3 * T.length - (intOf iv).toNat)
  case atStart => exact ⟨0, none, 0, by omega, rfl, rfl, HE0, HB0⟩
  case round =>
    obtain ⟨k, A', c', hk, rfl, rfl, HEk, HBk⟩ := hrel
    obtain ⟨wB, hwB⟩ : ∃ wB : World, wB = wr := ⟨_, rfl⟩
    rw [← hwB] at HEk HBk ⊢
    clear hwB HE0 HB0
    have HTk := Lib.hid (HTw.out.below HBk.out)
    have HKk := Lib.hid (HKw.out.below HBk.out)
    by_cases hlt : k < 3 * T.length
    rotate_left
    · obtain rfl : k = 3 * T.length := by omega
      have HLN := Lib.hid (seamsN_len T K (3 * T.length))
      have HS := Lib.hid (sortSE_any _ A' c' w.heap.size wB HEk.out (by have := HLN.out; omega) HBk.out.size)
      have HL : Hid ((sortE (seamsN T K (3 * T.length))).length = (seamsN T K (3 * T.length)).length) := Lib.hid (sortE_len _)
      go_wp2_with fail
      refine HS.out.mono ?_
      rintro e w5 ⟨rfl, he5, hb5⟩
      have HE5 := Lib.hid he5
      have HB5 := Lib.hid (HBk.out.trans hb5)
      clear he5 hb5
      rw [← HL.out]
      go_wp2_with fail
      go_ret2
      exact ⟨A', c', rfl, HE5.out, HB5.out⟩
    have hki : (k : Int) < 3 * (T.length : Int) := by omega
    have HST := Lib.hid (seamsN_step T K k)
    have HLN := Lib.hid (seamsN_len T K k)
    unfold seamB at HST
    go_wp2_with fail
    refine (HTk.out.edge hlt).mono ?_
    rintro e w2 ⟨rfl, hb⟩
    have HE2 := Lib.hid (HEk.out.below hb)
    have HT2 := Lib.hid (HTk.out.below hb)
    have HK2 := Lib.hid (HKk.out.below hb)
    have HB2 := Lib.hid (bw_call HBk.out hb)
    clear hb HEk HTk HKk HBk
    have HPA : Hid (∀ W, TabN W g m T → KR W A K → Calls Try.prog 21 #[.pointer (some ⟨g, 0, none⟩), .slice A K.length c, .int .i64 (k : Int)] W (BoolPost W (partsB T K k))) := Lib.hid fun W h1 h2 => parts_any g m T A c K k W hlt HOK.out h1 h2
    obtain ⟨x, y, hxy⟩ : ∃ x y, ce T k = (x, y) := ⟨_, _, rfl⟩
    rw [hxy] at HST ⊢
    simp only at HST ⊢
    clear hxy
    obtain ⟨w3, hw3'⟩ : ∃ W, W = w2.alloc (.cells #[.int .i64 x, .int .i64 y] 39) := ⟨_, rfl⟩
    have GE3 : Hid (Blk w3 w2.heap.size 39 #[.int .i64 x, .int .i64 y]) := by subst hw3'; exact Lib.hid (Blk.new _ _ _)
    have HE3 : Hid (ERow w3 w.heap.size A' c' (seamsN T K k)) := by subst hw3'; exact Lib.hid (HE2.out.alloc _)
    have HT3 : Hid (TabN w3 g m T) := by subst hw3'; exact Lib.hid (HT2.out.alloc _)
    have HK3 : Hid (KR w3 A K) := by subst hw3'; exact Lib.hid (HK2.out.alloc _)
    have HB3 : Hid (Below w.heap.size w w3) := by subst hw3'; exact Lib.hid (bw_alloc HB2.out _)
    go_upto_region 9 with (fail)
    rw [← hw3']
    generalize w2.heap.size = ge at *
    clear hw3' HE2 HT2 HK2 HB2
    have e0 := GE3.out.cell 0
    have e1 := GE3.out.cell 1
    simp only [List.getElem?_toArray, List.getElem?_cons_zero, List.getElem?_cons_succ] at e0 e1
    by_cases hxy : x < y
    rotate_left
    · have HSN : Hid (seamsN T K (k + 1) = seamsN T K k) := Lib.hid (by rw [HST.out, decide_eq_false hxy]; simp)
      clear HST
      rw [← HSN.out] at HE3 ⊢
      go_wp2_with fail
      exact ⟨⟨k + 1, A', c', by omega, rfl, by go_num, HE3, HB3⟩, by simp [intOf]; omega⟩
    rw [decide_eq_true hxy] at HST
    go_wp2_with fail
    refine (HPA.out w3 HT3.out HK3.out).mono ?_
    rintro e w4 ⟨rfl, hb⟩
    have GE4 := Lib.hid (blk_call GE3.out hb)
    have HE4 := Lib.hid (HE3.out.below hb)
    have HT4 := Lib.hid (HT3.out.below hb)
    have HK4 := Lib.hid (HK3.out.below hb)
    have HB4 := Lib.hid (bw_call HB3.out hb)
    clear hb GE3 HE3 HT3 HK3 HB3 e0 e1 HPA
    have e0 := GE4.out.cell 0
    have e1 := GE4.out.cell 1
    simp only [List.getElem?_toArray, List.getElem?_cons_zero, List.getElem?_cons_succ] at e0 e1
    cases hp : partsB T K k with
    | false =>
      have HSN : Hid (seamsN T K (k + 1) = seamsN T K k) := Lib.hid (by rw [HST.out, hp]; simp)
      clear HST hp
      rw [← HSN.out] at HE4 ⊢
      go_wp2_with fail
      exact ⟨⟨k + 1, A', c', by omega, rfl, by go_num, HE4, HB4⟩, by simp [intOf]; omega⟩
    | true =>
      have HSN : Hid (seamsN T K (k + 1) = seamsN T K k ++ [(x, y)]) := Lib.hid (by rw [HST.out, hp]; simp)
      have HSL : Hid ((seamsN T K (k + 1)).length = (seamsN T K k).length + 1) := Lib.hid (by rw [HSN.out]; simp)
      have hl1 := HLN.out
      clear HST hp
      have HBE : Hid (Below w.heap.size w (w4.alloc (.cells #[.int .i64 x, .int .i64 y] 39))) := Lib.hid (bw_alloc HB4.out _)
      have HEE : Hid (ERow (w4.alloc (.cells #[.int .i64 x, .int .i64 y] 39)) w.heap.size A' c' (seamsN T K k)) := Lib.hid (HE4.out.alloc _)
      go_upto_region 11 with (at_builtin; go_must (refine wpList_append_sl _ rfl (.tmp 36) (.tmp 38) _ rfl w.heap.size 39 i0 _ 2 16 Try.underlying29 hi0 hz0 hz1 hz2 rfl (by omega) (.slice A' (seamsN T K k).length c') (seamsN T K k).length ((seamsN T K k).flatMap cellE) rfl HEE.out.owns (w4.heap.size + 1) (some ⟨w4.heap.size, 0, none⟩) 1 1 [.int .i64 x, .int .i64 y] rfl (reads_new w4 #[.int .i64 x, .int .i64 y] 39 1 2 rfl) (by intro u hu; simp at hu; rcases hu with rfl | rfl <;> rfl) (by simp only [maxLen]; omega) (by omega) (bw_size HBE.out) ?_); intro A5 c5 w5 hown5 hg5 hat5)
      have hrow : ∀ q, (Value.slice A' (seamsN T K k).length c').ownBlock = some q → w.heap.size ≤ q := fun q hq => (HEE.out.owns.lt q hq).1
      have HBn : Hid (Below w.heap.size w w5) := Lib.hid (bw_grow HBE.out hg5 hrow)
      have HEn : Hid (ERow w5 w.heap.size A5 c5 (seamsN T K (k + 1))) := Lib.hid (erow_of (by rw [HSL.out, HSN.out]; simpa [cellE] using hown5))
      rw [← HSL.out]
      clear hown5 hg5 hat5 HBE HEE GE4 HE4 HT4 HK4 HB4 e0 e1 hl1 hrow
      go_wp2_with fail
      exact ⟨⟨k + 1, A5, c5, by omega, rfl, by go_num, HEn, HBn⟩, by simp [intOf]; omega⟩
end Go.Proofs.Ytdpgbccgngdapaa
