/- slices.SortedFunc(maps.Keys(m), ..) at edges, and soup.Edges, walked. No condition. -/
import Derived.Test.YtcahbcminonfbaaSortE8
import Derived.Test.YtcahbcminonfbaaFits8
namespace Go.Proofs.Ytcahbcminonfbaa
open Go.RowKit Go.Maps Go.Sort Go.Shelf

section
attribute [local go_sem] Oper.semAt_some
set_option maxHeartbeats 2000000 in
theorem collectE_in (n : Nat) (hn : 3 ≤ n) (g : Nat) (lb : Array Value) (eg : ∀ args w, (callFunc g args).run Try.prog w = .ok (.enter g args) w)
    (S Sp : List (Int × Int) → Prop) (N : Nat) (hN : N ≤ 1000000) (w : World) (hseq : SeqStopsK Fence.wide (n - 1 - 1) Try.prog g lb (fun x => #[encE x]) KeepsWalks S Sp N w) :
    CallsIn Fence.wide n Try.prog 76 #[.func (.func g) #[] lb] w fun e w' => ∃ (v : Value) (ss : List (Int × Int)), e = .returned v ∧ S ss ∧ w'.ownsRow w.heap.size 38 2 v ss.length (ss.flatMap cellE) ∧ Below w.heap.size w w' := by
  have h1 : 1 ≤ n := by omega
  have hfA : Fence.wide.fn 101 := trivial
  refine callsIn_of_wp Try.func76 rfl trivial ?_ rfl
  simp only [Try.ntmps76, List.size_toArray, List.length_cons, List.length_nil, Nat.reduceAdd, Nat.reduceSub, Array.replicate_succ, Array.replicate_zero, List.push_toArray, List.append_toArray, List.nil_append, List.cons_append]
  gi_wp2_with (gi_at_call 101; refine (appendSeqE_in (n - 1) (by omega) g lb eg S Sp N hN _ hseq).mono ?_; rintro e w' ⟨v, ss, rfl, hS, hrow, hb⟩)
  go_ret
  exact ⟨v, ss, rfl, hS, hrow, hb⟩
end
set_option maxHeartbeats 4000000 in
theorem sortedE_any (b n : Nat) (f : Value → Option Value) (L : List (Int × Int)) (w : World) (hm : MapV Try.prog 38 w b n f) (hn : n ≤ 1000000) (hLl : L.length ≤ 1000000) (hL : L.Pairwise ltE) (hLm : ∀ x, x ∈ L ↔ wfE x ∧ (f (encE x)).isSome = true) :
    Calls Try.prog 57 #[.func (.func 77) #[] #[.pointer (some ⟨w.heap.size, 0, none⟩)], .func (.func 59) #[] #[]] (w.alloc (.cells #[.map (some b)] 94)) fun e w' => ∃ A c, e = .returned (.slice A L.length c) ∧ ERow w' (w.alloc (.cells #[.map (some b)] 94)).heap.size A c L ∧ Below (w.alloc (.cells #[.map (some b)] 94)).heap.size (w.alloc (.cells #[.map (some b)] 94)) w' := by
  obtain ⟨D, hown, hmem, hsz⟩ := hm.data
  have hbl := hown.lt
  have hseq := keysE_stops 3 (by omega) w.heap.size b n D (w.alloc (.cells #[.map (some b)] 94)) (by simp) (by simp) (by
      obtain ⟨es, clock, hb, Ft, hs, hD⟩ := hown
      exact ⟨es, clock, (Below.heap_alloc _ _ b hbl).trans hb, Ft, hs, hD⟩)
  have hcol := Lib.hid ((callsIn_wide (n := 5)).1 (collectE_in 5 (by omega) _ _ (enters_of Try.func77 (by kernel_rfl) rfl) _ _ (Maps.size D) (by omega) _ hseq))
  clear hseq
  obtain ⟨W, hW⟩ : ∃ W, W = w.alloc (.cells #[.map (some b)] 94) := ⟨_, rfl⟩
  rw [← hW] at hcol ⊢
  clear hW
  go_enter Try.func57, Try.ntmps57
  go_wp2_with fail
  refine hcol.out.mono ?_
  rintro e w1 ⟨v, ss, rfl, ⟨hnd, hS⟩, hrow, hb⟩
  obtain ⟨A, c, rfl, _⟩ := own_form hrow
  have hE : ERow w1 W.heap.size A c ss := hrow
  have hSL : ∀ x, x ∈ ss ↔ x ∈ L := fun x => by
    rw [hS x, hLm x]
    constructor
    · rintro ⟨kl, h1, h2⟩
      obtain ⟨y, e, hy⟩ := keyE_inv h1
      obtain rfl := encE_inj e
      exact ⟨hy, (hmem x kl h1).1 h2⟩
    · rintro ⟨h1, h2⟩
      obtain ⟨kl, h3⟩ := keyE h1
      exact ⟨kl, h3, (hmem x kl h3).2 h2⟩
  have hss := sortE_is hnd hL hSL
  have hlen : ss.length = L.length := by rw [← hss]; exact (List.length_mergeSort _).symm
  have HB := Lib.hid hb
  have hsl : ss.length ≤ 1000000 := by omega
  by_cases hne : ss = []
  · subst hne
    have hL0 : L = [] := List.length_eq_zero_iff.1 hlen.symm
    subst hL0
    have HN := Lib.hid (AnyF.slices_SortFunc_none Try.sortS A c (.func (.func 59) #[] #[]) w1)
    have hE := Lib.hid hE
    clear hS hSL hss hLm hrow hb
    go_wp2_with fail
    refine HN.out.mono ?_
    rintro e w2 ⟨rfl, rfl⟩
    go_wp2_with fail
    go_ret
    exact ⟨A, c, rfl, hE.out, HB.out⟩
  · have HN := Lib.hid (sortE_any ss A c W.heap.size w1 hE hne (by omega) hb.size)
    rw [hss] at HN
    clear hS hSL hss hLm hrow hb hE hne
    rw [hlen] at HN ⊢
    go_wp2_with fail
    refine HN.out.mono ?_
    rintro e w2 ⟨rfl, hE2, hb2⟩
    have HE := Lib.hid hE2
    have HB2 := Lib.hid (HB.out.trans hb2)
    clear hE2 hb2
    go_wp2_with fail
    go_ret
    exact ⟨A, c, rfl, HE.out, HB2.out⟩
theorem edgeE_mm (a b : Int) : edgeE a b = (min a b, max a b) := by
  unfold edgeE
  split
  · rw [show min a b = b by omega, show max a b = a by omega]
  · rw [show min a b = a by omega, show max a b = b by omega]
theorem ins_len (e : Int × Int) : ∀ l : List (Int × Int), (insE l e).length ≤ l.length + 1
  | [] => by simp [insE]
  | x :: l => by
    unfold insE
    by_cases h : ltE x e
    · rw [if_pos h]
      have := ins_len e l
      simp only [List.length_cons]
      omega
    · rw [if_neg h]
      by_cases he : x = e
      · rw [if_pos he]
        simp
      · rw [if_neg he]
        simp
theorem foldl_ins_len : ∀ (es l : List (Int × Int)), (es.foldl insE l).length ≤ l.length + es.length
  | [], l => by simp
  | e :: es, l => by
    have h1 := foldl_ins_len es (insE l e)
    have h2 := ins_len e l
    simp only [List.foldl_cons, List.length_cons]
    omega
theorem edges_len (T : List Tri) : (T.flatMap edgesT).length = 3 * T.length := by
  induction T with
  | nil => rfl
  | cons t T ih =>
    rw [List.flatMap_cons, List.length_append, ih]
    simp [edgesT]
    omega
open Classical in
noncomputable def edgeF (L : List (Int × Int)) : Value → Option Value := fun y => if ∃ x ∈ L, y = encE x then some (.bool true) else none
theorem edgeF_snoc (L : List (Int × Int)) (x : Int × Int) : putV (edgeF L) (encE x) (.bool true) = edgeF (L ++ [x]) := by
  funext y
  unfold putV edgeF
  by_cases h : y = encE x
  · subst h
    rw [if_pos rfl, if_pos ⟨x, by simp, rfl⟩]
  · rw [if_neg h]
    by_cases h' : ∃ z ∈ L, y = encE z
    · obtain ⟨z, hz, e⟩ := h'
      rw [if_pos ⟨z, hz, e⟩, if_pos ⟨z, by simp [hz], e⟩]
    · rw [if_neg h', if_neg]
      rintro ⟨z, hz, e⟩
      rcases List.mem_append.1 hz with hz | hz
      · exact h' ⟨z, hz, e⟩
      · simp at hz
        exact h (hz ▸ e)
theorem edgeF_some (L : List (Int × Int)) (x : Int × Int) : (edgeF L (encE x)).isSome = true ↔ x ∈ L := by
  unfold edgeF
  by_cases h : ∃ z ∈ L, encE x = encE z
  · rw [if_pos h]
    obtain ⟨z, hz, e⟩ := h
    rw [encE_inj e]
    simp [hz]
  · rw [if_neg h]
    simp only [Option.isSome_none, Bool.false_eq_true, false_iff]
    exact fun hx => h ⟨x, hx, rfl⟩
theorem fit_tri {N : Int} {T : List Tri} (hf : fitL N T = true) {i : Nat} (hi : i < T.length) : fitT N (tri T i) = true := by
  unfold fitL at hf
  simp only [Bool.and_eq_true] at hf
  exact (List.all_eq_true.1 hf.2) _ (List.mem_of_getElem? (tri_at hi))
theorem fit_N {N : Int} {T : List Tri} (hf : fitL N T = true) : 0 ≤ N ∧ N ≤ 4096 := by
  unfold fitL at hf
  simp only [Bool.and_eq_true, decide_eq_true_eq] at hf
  exact hf.1
/-- Do all numbers of a list name a triangle? -/
theorem tri_cells {w : World} {g : Nat} {x y z : Value} (h : Blk w g 78 #[x, y, z]) : w.cell? ⟨g, 0, none⟩ = some x ∧ w.cell? ⟨g, 1, none⟩ = some y ∧ w.cell? ⟨g, 2, none⟩ = some z := ⟨h.cell 0, h.cell 1, h.cell 2⟩
def SetM (b : Nat) (w w' : World) : Prop := ∃ o, w' = ChangeMaps.setBlock w b o
section
variable {w w' : World} {b : Nat}
theorem SetM.size (h : SetM b w w') : w'.heap.size = w.heap.size := by
  obtain ⟨o, rfl⟩ := h
  simp [ChangeMaps.setBlock]
theorem SetM.blk {g : Nat} {t : TypeId} {cs : Array Value} (h : SetM b w w') (hg : Blk w g t cs) (hne : g ≠ b) : Blk w' g t cs := by
  obtain ⟨o, rfl⟩ := h
  exact hg.setBlock hne o
theorem SetM.below {a : World} (h : SetM b w w') (hb : Below a.heap.size a w) (hB : a.heap.size ≤ b) : Below a.heap.size a w' := by
  obtain ⟨o, rfl⟩ := h
  exact ⟨hb.os, hb.tape, hb.output, by simpa [ChangeMaps.setBlock] using hb.size, fun i hi => (heap_setBlock_ne w b o (by omega)).trans (hb.block i hi)⟩
end
theorem MapV.put {w : World} {b n : Nat} {f : Value → Option Value} (h : MapV Try.prog 38 w b n f) (hn : n < maxLen) {x : Int × Int} (hx : wfE x) :
    ∃ w' n', (Instr.mapUpdate 94 (.map (some b)) (.agg #[.int .i64 x.1, .int .i64 x.2]) (.bool true)).run Try.prog w = .ok () w' ∧ MapV Try.prog 38 w' b n' (putV f (encE x) (.bool true)) ∧ SetM b w w' ∧ n' ≤ n + 1 := by
  obtain ⟨kl, hk⟩ := keyE hx
  obtain ⟨es', clock', hst, hm'⟩ := h.store keyedE Try.underlying94 hn hk (.bool true)
  exact ⟨_, _, hst, hm', ⟨_, rfl⟩, by split <;> omega⟩
def EPost (w : World) (L : List (Int × Int)) (e : Ending) (w' : World) : Prop := ∃ A c, e = .returned (.slice A L.length c) ∧ ERow w' w.heap.size A c L ∧ Below w.heap.size w w'
set_option linter.unusedSimpArgs false
set_option linter.unusedVariables false
attribute [local irreducible] Blk LRow World.alloc World.setCell World.cell? World.frozen? MapV ERow
set_option maxRecDepth 100000 in
set_option maxHeartbeats 8000000 in
theorem edges_any (N : Int) (A : Option Addr) (n c : Nat) (T : List Tri) (w : World) (hn : n ≤ 1000) (ht : TrisAt w w.heap.size A n T) :
    Calls Try.prog 27 #[.agg #[.int .i64 N, .slice A n c]] w (EPost w (edgesL N T)) := by
  obtain rfl : n = T.length := ht.len.symm
  have HT := Lib.hid ht
  clear ht
  go_enter Try.func27, Try.ntmps27
  go_wp2_with fail
  obtain ⟨V, hV⟩ : ∃ V, V = w.alloc (.cells #[.int .i64 N, .slice A T.length c] 24) := ⟨_, rfl⟩
  have HX : Hid (Blk V w.heap.size 24 #[.int .i64 N, .slice A T.length c]) := by subst hV; exact Lib.hid (Blk.new _ _ _)
  have HB : Hid (Below w.heap.size w V) := by subst hV; exact Lib.hid (bw_alloc (Below.refl _ _) _)
  rw [← hV]
  clear hV
  obtain ⟨gs, hgs⟩ : ∃ gs, gs = w.heap.size := ⟨_, rfl⟩
  rw [← hgs] at HX
  simp only [← hgs]
  clear hgs
  refine (fits_any N A T.length c T V (by omega) ((HT.out.below HB.out).more HB.out.size)).mono ?_
  rintro e w1 ⟨rfl, hb⟩
  have HX1 := Lib.hid (blk_call HX.out hb)
  have HB1 := Lib.hid (bw_call HB.out hb)
  clear hb HX HB
  cases hf : fitL N T with
  | false =>
    have HQ : Hid (edgesL N T = []) := Lib.hid (by unfold edgesL; rw [if_pos hf])
    go_wp2_with fail
    go_ret
    rw [HQ.out]
    exact ⟨none, 0, rfl, ERow.nil _ _, HB1.out⟩
  | true =>
    have HQ : Hid (edgesL N T = (T.flatMap edgesT).foldl insE []) := Lib.hid (by unfold edgesL; rw [if_neg (by rw [hf]; simp)])
    have HFN := Lib.hid (fit_N hf)
    obtain ⟨s0, s1, _, _, sl⟩ := soup_facts HX1.out
    have hmm := @run_makeMap Try.prog
    go_wp2_with fail
    obtain ⟨V, hV⟩ : ∃ V, V = w1.alloc (.map #[] 0) := ⟨_, rfl⟩
    have HM : Hid (MapV Try.prog 38 V w1.heap.size 0 (edgeF [])) := by subst hV; exact Lib.hid ((MapV.made_ Try.prog 38 rfl).congr (fun x => by simp [edgeF]))
    have HX2 : Hid (Blk V gs 24 #[.int .i64 N, .slice A T.length c]) := by subst hV; exact Lib.hid (HX1.out.alloc _)
    have HB2 : Hid (Below w.heap.size w V) := by subst hV; exact Lib.hid (bw_alloc HB1.out _)
    have HMN : Hid (w1.heap.size ≠ gs ∧ w.heap.size ≤ w1.heap.size) := Lib.hid ⟨by have := HX1.out.lt; omega, bw_size HB1.out⟩
    rw [← hV]
    generalize w1.heap.size = ms at *
    clear hV HX1 HB1 hmm s0 s1 sl
    go_loopw [16] (fun iv wr => ∃ k n1 : Nat, k ≤ T.length ∧ iv = .int .i64 k ∧ n1 ≤ 3 * k ∧ Hid (Blk wr gs 24 #[.int .i64 N, .slice A T.length c]) ∧ Hid (MapV Try.prog 38 wr ms n1 (edgeF ((T.take k).flatMap edgesT))) ∧ Hid (Below w.heap.size w wr)) (fun iv _ => T.length - (intOf iv).toNat)
    case atStart => exact ⟨0, 0, by omega, rfl, by omega, HX2, by simpa using HM, HB2⟩
    case round =>
      obtain ⟨k, n1, hk, rfl, hn1, HXK, HMK, HBK⟩ := hrel
      by_cases hlt : k < T.length
      · obtain ⟨ad, t, e2, htk, _, hadb, hc3⟩ := ((HT.out.below HBK.out).more HBK.out.size).at_ hlt
        obtain ⟨d0, d1, d2, d3, d4, d5⟩ := hc3
        subst e2
        obtain ⟨s0, s1, _, _, _⟩ := soup_facts HXK.out
        have hk0 : (0 : Int) ≤ (k : Int) := by omega
        have hk1 : (k : Int) < (T.length : Int) := by omega
        have HFT := Lib.hid (fitT_iff.1 (fit_tri hf hlt)).1
        rw [tri_of htk] at HFT
        have HTS : Hid ((T.take (k + 1)).flatMap edgesT = (T.take k).flatMap edgesT ++ edgesT t) := Lib.hid (by rw [take_snoc_T T k htk, List.flatMap_append]; simp)
        clear htk
        go_wp2_with fail
        obtain ⟨w3, hw3⟩ : ∃ w3, w3 = wr.alloc (.cells #[.int .i64 t.a, .int .i64 t.b, .int .i64 t.c] 78) := ⟨_, rfl⟩
        have HTB : Hid (Blk w3 wr.heap.size 78 #[.int .i64 t.a, .int .i64 t.b, .int .i64 t.c]) := by subst hw3; exact Lib.hid (Blk.new _ _ _)
        have HX3 : Hid (Blk w3 gs 24 #[.int .i64 N, .slice (some ad) T.length c]) := by subst hw3; exact Lib.hid (HXK.out.alloc _)
        have HM3 : Hid (MapV Try.prog 38 w3 ms n1 (edgeF ((T.take k).flatMap edgesT))) := by subst hw3; exact Lib.hid (HMK.out.alloc _)
        have HB3 : Hid (Below w.heap.size w w3) := by subst hw3; exact Lib.hid (bw_alloc HBK.out _)
        have HTN : Hid (wr.heap.size ≠ ms) := Lib.hid (Nat.ne_of_gt HMK.out.lt)
        rw [← hw3]
        generalize wr.heap.size = tb at *
        clear hw3 HXK HMK HBK d0 d1 d2 d3 d4 d5 s0 s1 hadb HX2 HM HB2
        generalize (T.take k).flatMap edgesT = E at *
        go_loopw [20] (fun iv wm => ∃ q n3 : Nat, q ≤ 3 ∧ iv = .int .i64 q ∧ n3 ≤ 3 * k + q ∧ Hid (Blk wm gs 24 #[.int .i64 N, .slice (some ad) T.length c]) ∧ Hid (Blk wm tb 78 #[.int .i64 t.a, .int .i64 t.b, .int .i64 t.c]) ∧ Hid (MapV Try.prog 38 wm ms n3 (edgeF (E ++ (edgesT t).take q))) ∧ Hid (Below w.heap.size w wm)) (fun iv _ => 3 - (intOf iv).toNat)
        case atStart => exact ⟨0, n1, by omega, rfl, by omega, HX3, HTB, by simpa using HM3, HB3⟩
        case round =>
          obtain ⟨q, n3, hq, hkv, hn3, HXM, HTM, HMM, HBM⟩ := hrel
          obtain ⟨wm, hwm⟩ : ∃ wm : World, wm = wr := ⟨_, rfl⟩
          rw [← hwm] at HXM HTM HMM HBM ⊢
          clear hwm HX3 HTB HM3 HB3
          obtain ⟨x0, x1, x2⟩ := tri_cells HTM.out
          rcases (by omega : q = 0 ∨ q = 1 ∨ q = 2 ∨ q = 3) with rfl | rfl | rfl | rfl
          · have hkv' : _ = Value.int .i64 0 := hkv
            subst hkv'
            clear hkv
            have v1 : IntKind.i64.wrap (0 + 1) = 1 := by decide
            have v2 : IntKind.i64.wrap 1 = 1 := by decide
            have r5 : Int.tmod 1 3 = 1 := by decide
            have v3 : IntKind.i64.wrap 1 = 1 := by decide
            have HTE : Hid ((edgesT t).take 1 = (edgesT t).take 0 ++ [edgeE t.a t.b]) := Lib.hid rfl
            go_wp2_with fail
            go_quiet (fail)
            obtain ⟨w4, hw4⟩ : ∃ w4 : World, w4 = wm.drewN nq := ⟨_, rfl⟩
            have HX4 : Hid (Blk w4 gs 24 #[.int .i64 N, .slice (some ad) T.length c]) := by subst hw4; exact Lib.hid (HXM.out.drewN _)
            have HT4 : Hid (Blk w4 tb 78 #[.int .i64 t.a, .int .i64 t.b, .int .i64 t.c]) := by subst hw4; exact Lib.hid (HTM.out.drewN _)
            have HM4 : Hid (MapV Try.prog 38 w4 ms n3 (edgeF (E ++ (edgesT t).take 0))) := by subst hw4; exact Lib.hid (HMM.out.drewN _)
            have HB4 : Hid (Below w.heap.size w w4) := by subst hw4; exact Lib.hid (below_drewN HBM.out _)
            rw [← hw4]
            clear hw4 x0 x1 x2 HXM HTM HMM HBM
            obtain ⟨w5, n4, hput, hm5, hset, hn4⟩ := HM4.out.put (by unfold maxLen; omega) (x := (min t.a t.b, max t.a t.b)) ⟨WalkArith.wf_i64 (n := min t.a t.b) (by have := HFT.out; have := HFN.out; omega), WalkArith.wf_i64 (n := max t.a t.b) (by have := HFT.out; have := HFN.out; omega)⟩
            have HM5 : Hid (MapV Try.prog 38 w5 ms n4 (edgeF (E ++ (edgesT t).take 1))) := Lib.hid (by
              rw [HTE.out, ← List.append_assoc, ← edgeF_snoc, edgeE_mm]
              exact hm5)
            clear hm5
            simp only at hput
            go_wp2_with fail
            exact ⟨⟨1, n4, by omega, by go_num, by omega, Lib.hid (hset.blk HX4.out HMN.out.1.symm), Lib.hid (hset.blk HT4.out HTN.out), HM5, Lib.hid (hset.below HB4.out HMN.out.2)⟩, by simp [intOf]⟩
          · have hkv' : _ = Value.int .i64 1 := hkv
            subst hkv'
            clear hkv
            have v1 : IntKind.i64.wrap (1 + 1) = 2 := by decide
            have v2 : IntKind.i64.wrap 2 = 2 := by decide
            have r5 : Int.tmod 2 3 = 2 := by decide
            have v3 : IntKind.i64.wrap 2 = 2 := by decide
            have HTE : Hid ((edgesT t).take 2 = (edgesT t).take 1 ++ [edgeE t.b t.c]) := Lib.hid rfl
            go_wp2_with fail
            go_quiet (fail)
            obtain ⟨w4, hw4⟩ : ∃ w4 : World, w4 = wm.drewN nq := ⟨_, rfl⟩
            have HX4 : Hid (Blk w4 gs 24 #[.int .i64 N, .slice (some ad) T.length c]) := by subst hw4; exact Lib.hid (HXM.out.drewN _)
            have HT4 : Hid (Blk w4 tb 78 #[.int .i64 t.a, .int .i64 t.b, .int .i64 t.c]) := by subst hw4; exact Lib.hid (HTM.out.drewN _)
            have HM4 : Hid (MapV Try.prog 38 w4 ms n3 (edgeF (E ++ (edgesT t).take 1))) := by subst hw4; exact Lib.hid (HMM.out.drewN _)
            have HB4 : Hid (Below w.heap.size w w4) := by subst hw4; exact Lib.hid (below_drewN HBM.out _)
            rw [← hw4]
            clear hw4 x0 x1 x2 HXM HTM HMM HBM
            obtain ⟨w5, n4, hput, hm5, hset, hn4⟩ := HM4.out.put (by unfold maxLen; omega) (x := (min t.b t.c, max t.b t.c)) ⟨WalkArith.wf_i64 (n := min t.b t.c) (by have := HFT.out; have := HFN.out; omega), WalkArith.wf_i64 (n := max t.b t.c) (by have := HFT.out; have := HFN.out; omega)⟩
            have HM5 : Hid (MapV Try.prog 38 w5 ms n4 (edgeF (E ++ (edgesT t).take 2))) := Lib.hid (by
              rw [HTE.out, ← List.append_assoc, ← edgeF_snoc, edgeE_mm]
              exact hm5)
            clear hm5
            simp only at hput
            go_wp2_with fail
            exact ⟨⟨2, n4, by omega, by go_num, by omega, Lib.hid (hset.blk HX4.out HMN.out.1.symm), Lib.hid (hset.blk HT4.out HTN.out), HM5, Lib.hid (hset.below HB4.out HMN.out.2)⟩, by simp [intOf]⟩
          · have hkv' : _ = Value.int .i64 2 := hkv
            subst hkv'
            clear hkv
            have v1 : IntKind.i64.wrap (2 + 1) = 3 := by decide
            have v2 : IntKind.i64.wrap 3 = 3 := by decide
            have r5 : Int.tmod 3 3 = 0 := by decide
            have v3 : IntKind.i64.wrap 0 = 0 := by decide
            have HTE : Hid ((edgesT t).take 3 = (edgesT t).take 2 ++ [edgeE t.c t.a]) := Lib.hid rfl
            go_wp2_with fail
            go_quiet (fail)
            obtain ⟨w4, hw4⟩ : ∃ w4 : World, w4 = wm.drewN nq := ⟨_, rfl⟩
            have HX4 : Hid (Blk w4 gs 24 #[.int .i64 N, .slice (some ad) T.length c]) := by subst hw4; exact Lib.hid (HXM.out.drewN _)
            have HT4 : Hid (Blk w4 tb 78 #[.int .i64 t.a, .int .i64 t.b, .int .i64 t.c]) := by subst hw4; exact Lib.hid (HTM.out.drewN _)
            have HM4 : Hid (MapV Try.prog 38 w4 ms n3 (edgeF (E ++ (edgesT t).take 2))) := by subst hw4; exact Lib.hid (HMM.out.drewN _)
            have HB4 : Hid (Below w.heap.size w w4) := by subst hw4; exact Lib.hid (below_drewN HBM.out _)
            rw [← hw4]
            clear hw4 x0 x1 x2 HXM HTM HMM HBM
            obtain ⟨w5, n4, hput, hm5, hset, hn4⟩ := HM4.out.put (by unfold maxLen; omega) (x := (min t.c t.a, max t.c t.a)) ⟨WalkArith.wf_i64 (n := min t.c t.a) (by have := HFT.out; have := HFN.out; omega), WalkArith.wf_i64 (n := max t.c t.a) (by have := HFT.out; have := HFN.out; omega)⟩
            have HM5 : Hid (MapV Try.prog 38 w5 ms n4 (edgeF (E ++ (edgesT t).take 3))) := Lib.hid (by
              rw [HTE.out, ← List.append_assoc, ← edgeF_snoc, edgeE_mm]
              exact hm5)
            clear hm5
            simp only at hput
            go_wp2_with fail
            exact ⟨⟨3, n4, by omega, by go_num, by omega, Lib.hid (hset.blk HX4.out HMN.out.1.symm), Lib.hid (hset.blk HT4.out HTN.out), HM5, Lib.hid (hset.below HB4.out HMN.out.2)⟩, by simp [intOf]⟩
          · have hkv' : _ = Value.int .i64 3 := hkv
            subst hkv'
            clear hkv
            go_wp2_with fail
            exact ⟨⟨k + 1, n3, by omega, by go_num, by omega, HXM, by rw [HTS.out]; exact HMM, HBM⟩, by simp [intOf]; omega⟩
      · obtain rfl : k = T.length := by omega
        rw [List.take_length] at HMK
        have HS1 := Lib.hid (foldl_ins_sorted (T.flatMap edgesT) [] (by simp))
        have HWF : Hid (∀ x, x ∈ T.flatMap edgesT → wfE x) := Lib.hid (fun x hx => by
          obtain ⟨t, ht, he⟩ := List.mem_flatMap.1 hx
          obtain ⟨i, hi, e⟩ := List.mem_iff_getElem.1 ht
          have h := (fitT_iff.1 (fit_tri hf hi)).1
          rw [tri_of (List.getElem?_eq_getElem hi), e] at h
          have hN := HFN.out
          have key : ∀ a b : Int, 0 ≤ a ∧ a < N → 0 ≤ b ∧ b < N → wfE (edgeE a b) := fun a b ha hb => by
            unfold edgeE wfE
            split
            · exact ⟨WalkArith.wf_i64 (n := b) (by omega), WalkArith.wf_i64 (n := a) (by omega)⟩
            · exact ⟨WalkArith.wf_i64 (n := a) (by omega), WalkArith.wf_i64 (n := b) (by omega)⟩
          simp only [edgesT, List.mem_cons, List.not_mem_nil, or_false] at he
          rcases he with rfl | rfl | rfl
          · exact key _ _ ⟨h.1, h.2.1⟩ ⟨h.2.2.1, h.2.2.2.1⟩
          · exact key _ _ ⟨h.2.2.1, h.2.2.2.1⟩ ⟨h.2.2.2.2.1, h.2.2.2.2.2⟩
          · exact key _ _ ⟨h.2.2.2.2.1, h.2.2.2.2.2⟩ ⟨h.1, h.2.1⟩)
        have HME : Hid (∀ x, x ∈ (T.flatMap edgesT).foldl insE [] ↔ wfE x ∧ (edgeF (T.flatMap edgesT) (encE x)).isSome = true) := Lib.hid (fun x => by
          rw [foldl_ins_mem, edgeF_some]
          simp only [List.not_mem_nil, false_or]
          exact ⟨fun h => ⟨HWF.out x h, h⟩, fun h => h.2⟩)
        have hll : ((T.flatMap edgesT).foldl insE []).length ≤ 1000000 := by
          have h1 := foldl_ins_len (T.flatMap edgesT) []
          rw [edges_len] at h1
          simp at h1
          omega
        generalize (T.flatMap edgesT).foldl insE [] = L at *
        generalize T.flatMap edgesT = E at *
        obtain ⟨w5, hw5⟩ : ∃ w5 : World, w5 = wr := ⟨_, rfl⟩
        rw [← hw5] at HXK HMK HBK ⊢
        clear hw5 HWF
        go_wp2_with fail
        refine (keysE_any _ _).mono ?_
        rintro e w6 ⟨rfl, rfl⟩
        go_wp2_with fail
        refine (sortedE_any ms n1 _ L w5 HMK.out (by omega) hll HS1.out HME.out).mono ?_
        rintro e w6 ⟨Ao, co, rfl, hrow, hb⟩
        have HA5 : Hid (Below w5.heap.size w5 (w5.alloc (.cells #[.map (some ms)] 94))) := Lib.hid (bw_alloc (Below.refl _ _) _)
        have HE := Lib.hid (ERow.base hrow (Nat.le_trans (bw_size HBK.out) HA5.out.size))
        have HBE := Lib.hid (bw_call (bw_call HBK.out HA5.out) hb)
        clear hrow hb
        go_wp2_with fail
        go_ret
        rw [HQ.out]
        exact ⟨Ao, co, rfl, HE.out, HBE.out⟩
end Go.Proofs.Ytcahbcminonfbaa
