/- ring: there, before, after, first, Around, Degree, walked. No condition. -/
import Derived.Test.YtiajlmajenabiaaGreatPlB
import Derived.Test.YtiajlmajenabiaaGreatCorC
import Derived.Test.YtiajlmajenabiaaGreatCorV
import Derived.RangeFuncNested
import Derived.RangeFuncBound
import Derived.RangeFuncCalls
import Derived.RangeFuncLeaves
import Derived.Shelf.Abstract
import Derived.Shelf.RegionOpen
import Derived.OwnWalkIn
import Derived.TacticsInMore
import Derived.LoopNIn
import Derived.LoopIn
import Derived.Maps.AppendAt
set_option maxRecDepth 100000
set_option maxHeartbeats 16000000
set_option linter.all false
namespace Go.Proofs.YtiajlmajenabiaaGreat
open Go.RowKit Go.Shelf
def RingL (m : Nat) (T : List Tri) (v : Int) (L : List Nat) : Prop :=
 (¬ (0 ≤ v ∧ v < (m : Int)) ∧ L = []) ∨ ∃ k : Nat, v = (k : Int) ∧ k < m ∧ ∃ s b border M, Ring T v s b border M L
theorem RingL.lt {m : Nat} {T : List Tri} {v : Int} {L : List Nat} (h : RingL m T v L) : ∀ x ∈ L, x < 3 * T.length := by
 rcases h with ⟨_, rfl⟩ | ⟨k, _, _, s, b, bo, M, hr⟩
 · intro x hx; cases hx
 · exact hr.lt
theorem RingL.nd {m : Nat} {T : List Tri} {v : Int} {L : List Nat} (h : RingL m T v L) : L.Nodup := by
 rcases h with ⟨_, rfl⟩ | ⟨k, _, _, s, b, bo, M, hr⟩
 · exact List.nodup_nil
 · exact hr.nd
theorem RingL.len {m : Nat} {T : List Tri} {v : Int} {L : List Nat} (h : RingL m T v L) : L.length ≤ 3 * T.length := nodup_leN _ h.nd h.lt
open Classical in
noncomputable def runLen (f : Nat → Option Nat) (s : Nat) (c : Nat) : Nat := if h : ∃ R, Run f s R c then h.choose.length else 0
theorem runLen_is {f : Nat → Option Nat} {s c : Nat} {R : List Nat} (h : Run f s R c) : runLen f s c = R.length := by
 have h' : ∃ R, Run f s R c := ⟨R, h⟩
 unfold runLen
 rw [dif_pos h', h'.choose_spec.one h]
theorem Run.next {f : Nat → Option Nat} {s c d : Nat} {R : List Nat} (h : Run f s R c) (hd : f c = some d) (hne : d ≠ s) : ∃ R', R = c :: R' ∧ Run f s R' d ∧ lastN R c = lastN R' d := by
 match R, h with
 | [x], h =>
  obtain ⟨rfl, h⟩ := h
  rcases h with h | h <;> rw [hd] at h
  · cases h
  · injection h with h; exact absurd h hne
 | x :: y :: R, h =>
  obtain ⟨rfl, h1, h2, h3⟩ := h
  rw [hd] at h1
  injection h1 with h1
  subst h1
  exact ⟨d :: R, rfl, h3, rfl⟩
theorem Run.stop {f : Nat → Option Nat} {s c : Nat} {R : List Nat} (h : Run f s R c) (hd : f c = none ∨ f c = some s) : R = [c] := by
 match R, h with
 | [x], h => rw [h.1]
 | x :: y :: R, h =>
  obtain ⟨rfl, h1, h2, h3⟩ := h
  rcases hd with hd | hd <;> rw [h1] at hd
  · cases hd
  · injection hd with hd; exact absurd hd h2
theorem oppF_ltR {T : List Tri} {c d : Nat} (h : oppF T c = some d) : d < 3 * T.length := (facing_some h).1
theorem grown_of {w w' : World} (hb : Below w.heap.size w w') : w.grownBy w' none := ⟨hb.os, hb.tape, hb.output, hb.size, fun k hk _ => hb.block k hk⟩
section
variable {w w' : World} {g m : Nat} {T : List Tri}
theorem TabN.verts (h : TabN w g m T) : Calls Tryz.prog 100 #[.pointer (some ⟨g, 0, none⟩)] w (IsPost w (.int .i64 (m : Int))) := verts_any g 0 m T w h.t.s
theorem TabN.corner (h : TabN w g m T) (v : Int) : Calls Tryz.prog 101 #[.pointer (some ⟨g, 0, none⟩), .int .i64 v] w (IsPost w (.int .i64 (cornerI T m v))) := corner_any g 0 m T v w h.s.m1 h.t
theorem cornerI_in {v : Int} (h : 0 ≤ v ∧ v < (m : Int)) {s : Nat} (hs : cornerF T v = some s) : cornerI T m v = (s : Int) := by
 unfold cornerI
 rw [if_pos h, hs]
 rfl
end
attribute [local irreducible] Blk LRow World.alloc World.setCell World.cell? World.frozen? MapV
theorem before_any (g m : Nat) (T : List Tri) (c : Nat) (w : World) (hc : c < 3 * T.length) (h : TabN w g m T) :
  Calls Tryz.prog 102 #[.pointer (some ⟨g, 0, none⟩), .int .i64 (c : Int)] w (IntPost w (optI (befF T c))) := by
 have HT := Lib.hid h
 clear h
 unfold befF
 rw [if_pos hc]
 go_enter Tryz.func102, Tryz.ntmps102
 go_wp2_with fail
 refine (HT.out.prev hc).mono ?_
 rintro e w1 ⟨rfl, hb⟩
 have HT1 := Lib.hid (HT.out.below hb)
 have HB1 := Lib.hid hb
 clear hb HT
 go_wp2_with fail
 refine (HT1.out.opp (pvc_lt hc)).mono ?_
 rintro e w2 ⟨rfl, hb⟩
 have HT2 := Lib.hid (HT1.out.below hb)
 have HB2 := Lib.hid (bw_call HB1.out hb)
 clear hb HT1 HB1
 cases ho : oppF T (pvc c) with
 | none =>
  simp only [optI, Option.map_none]
  go_wp2_with fail
  go_ret
  exact ⟨by rw [ho]; rfl, HB2.out⟩
 | some o =>
  have ho3 := oppF_ltR ho
  simp only [optI, Option.map_some]
  have hn0 : ¬ (o : Int) < 0 := by omega
  go_wp2_with fail
  refine (HT2.out.prev ho3).mono ?_
  rintro e w3 ⟨rfl, hb⟩
  have HB3 := Lib.hid (bw_call HB2.out hb)
  clear hb
  go_wp2_with fail
  go_ret
  exact ⟨by rw [ho]; rfl, HB3.out⟩
theorem after_any (g m : Nat) (T : List Tri) (c : Nat) (w : World) (hc : c < 3 * T.length) (h : TabN w g m T) :
  Calls Tryz.prog 99 #[.pointer (some ⟨g, 0, none⟩), .int .i64 (c : Int)] w (IntPost w (optI (aftF T c))) := by
 have HT := Lib.hid h
 clear h
 unfold aftF
 rw [if_pos hc]
 go_enter Tryz.func99, Tryz.ntmps99
 go_wp2_with fail
 refine (HT.out.next hc).mono ?_
 rintro e w1 ⟨rfl, hb⟩
 have HT1 := Lib.hid (HT.out.below hb)
 have HB1 := Lib.hid hb
 clear hb HT
 go_wp2_with fail
 refine (HT1.out.opp (nxc_lt hc)).mono ?_
 rintro e w2 ⟨rfl, hb⟩
 have HT2 := Lib.hid (HT1.out.below hb)
 have HB2 := Lib.hid (bw_call HB1.out hb)
 clear hb HT1 HB1
 cases ho : oppF T (nxc c) with
 | none =>
  simp only [optI, Option.map_none]
  go_wp2_with fail
  go_ret
  exact ⟨by rw [ho]; rfl, HB2.out⟩
 | some o =>
  have ho3 := oppF_ltR ho
  simp only [optI, Option.map_some]
  have hn0 : ¬ (o : Int) < 0 := by omega
  go_wp2_with fail
  refine (HT2.out.next ho3).mono ?_
  rintro e w3 ⟨rfl, hb⟩
  have HB3 := Lib.hid (bw_call HB2.out hb)
  clear hb
  go_wp2_with fail
  go_ret
  exact ⟨by rw [ho]; rfl, HB3.out⟩
theorem there_any (g m : Nat) (T : List Tri) (v : Int) (w : World) (h : TabN w g m T) :
  Calls Tryz.prog 73 #[.pointer (some ⟨g, 0, none⟩), .int .i64 v] w (IsPost w (.bool (decide (0 ≤ v ∧ v < (m : Int))))) := by
 have HT := Lib.hid h
 clear h
 by_cases h0 : 0 ≤ v
 rotate_left
 · rw [decide_eq_false (fun e => h0 e.1)]
   go_enter Tryz.func73, Tryz.ntmps73
   go_wp2_with fail
   go_ret
   exact ⟨rfl, rfl⟩
 by_cases h1 : v < (m : Int)
 rotate_left
 · rw [decide_eq_false (fun e => h1 e.2)]
   go_enter Tryz.func73, Tryz.ntmps73
   go_wp2_with fail
   refine HT.out.verts.mono ?_
   rintro e w' ⟨rfl, hw⟩
   replace hw := hw.symm
   subst hw
   go_wp2_with fail
   go_ret
   exact ⟨rfl, rfl⟩
 rw [decide_eq_true ⟨h0, h1⟩]
 obtain ⟨k, hk⟩ := Int.eq_ofNat_of_zero_le h0
 obtain ⟨s, hs⟩ := cornerF_used HT.out.s (v := k) (by omega)
 rw [← hk] at hs
 have HC := Lib.hid (HT.out.corner v)
 rw [cornerI_in ⟨h0, h1⟩ hs] at HC
 have hs0 : (0 : Int) ≤ (s : Int) := by omega
 clear hs hk
 go_enter Tryz.func73, Tryz.ntmps73
 go_wp2_with fail
 refine HT.out.verts.mono ?_
 rintro e w' ⟨rfl, hw⟩
 replace hw := hw.symm
 subst hw
 go_wp2_with fail
 refine HC.out.mono ?_
 rintro e w' ⟨rfl, hw⟩
 replace hw := hw.symm
 subst hw
 go_wp2_with fail
 go_ret
 exact ⟨rfl, rfl⟩
theorem first_any (g m : Nat) (T : List Tri) (v : Int) (s b : Nat) (border : Bool) (M L : List Nat) (w : World) (hv : 0 ≤ v ∧ v < (m : Int)) (hr : Ring T v s b border M L) (h : TabN w g m T) :
  Calls Tryz.prog 74 #[.pointer (some ⟨g, 0, none⟩), .int .i64 v] w (fun e w' => e = .returned (.tuple #[.int .i64 (b : Int), .bool border]) ∧ Below w.heap.size w w') := by
 have HT := Lib.hid h
 have HR := Lib.hid hr
 have HC := Lib.hid (HT.out.corner v)
 rw [cornerI_in hv hr.cs] at HC
 have HS := Lib.hid (cornerF_some hr.cs)
 clear h hr
 go_enter Tryz.func74, Tryz.ntmps74
 go_wp2_with fail
 refine HC.out.mono ?_
 rintro e w' ⟨rfl, hw⟩
 replace hw := hw.symm
 subst hw
 go_wp2_with fail
 go_loopw [7] (fun cv wr => ∃ (c : Nat) (R : List Nat), cv = .int .i64 (c : Int) ∧ Hid (Run (befF T) s R c ∧ lastN R c = lastN M s ∧ c < 3 * T.length) ∧ Hid (Below w.heap.size w wr)) (fun cv _ => runLen (befF T) s (intOf cv).toNat)
 case atStart => exact ⟨s, M, rfl, Lib.hid ⟨HR.out.back, rfl, HS.out.1⟩, Lib.hid (Below.refl _ _)⟩
 case round =>
  obtain ⟨c, R, rfl, HRc, HBc⟩ := hrel
  have HTc := Lib.hid (HT.out.below HBc.out)
  go_wp2_with fail
  refine (before_any g m T c wr HRc.out.2.2 HTc.out).mono ?_
  rintro e w1 ⟨rfl, hb⟩
  have HB1 := Lib.hid (bw_call HBc.out hb)
  clear hb
  cases hf : befF T c with
  | none =>
   have hR := HRc.out.1.stop (.inl hf)
   have hl := HRc.out.2.1
   rw [hR] at hl
   have hl : c = lastN M s := hl
   have hbe := HR.out.be
   have hbo := HR.out.bo
   rw [← hl, if_pos hf] at hbe
   rw [← hl, decide_eq_true hf] at hbo
   have HBE := Lib.hid hbe
   have HBO := Lib.hid hbo
   clear hR hl hbe hbo hf
   simp only [optI]
   go_wp2_with fail
   refine bodyPost_ret (v := .tuple #[.int .i64 (c : Int), .bool true]) (by simp [results, Tryz.results74, go_sem]) rfl ⟨by rw [HBE.out, HBO.out], HB1.out⟩
  | some d =>
   simp only [optI]
   have hn0 : ¬ (d : Int) < 0 := by omega
   by_cases hds : d = s
   · subst hds
     have hR := HRc.out.1.stop (.inr hf)
     have hl := HRc.out.2.1
     rw [hR] at hl
     have hl : c = lastN M d := hl
     have hbe := HR.out.be
     have hbo := HR.out.bo
     rw [← hl, if_neg (by rw [hf]; simp)] at hbe
     rw [← hl, decide_eq_false (by rw [hf]; simp)] at hbo
     have HBE := Lib.hid hbe
     have HBO := Lib.hid hbo
     clear hR hl hbe hbo hf
     go_wp2_with fail
     refine bodyPost_ret (v := .tuple #[.int .i64 (d : Int), .bool false]) (by simp [results, Tryz.results74, go_sem]) rfl ⟨by rw [HBE.out, HBO.out], HB1.out⟩
   · have hne : ((d : Int) == (s : Int)) = false := by rw [beq_eq_false_iff_ne]; omega
     obtain ⟨R', hR, h1, h2⟩ := HRc.out.1.next hf hds
     have hd3 := bef_lt HT.out.s _ _ hf
     have HN := Lib.hid (show Run (befF T) s R' d ∧ lastN R' d = lastN M s ∧ d < 3 * T.length from ⟨h1, h2 ▸ HRc.out.2.1, hd3⟩)
     have hm1 := runLen_is HRc.out.1
     have hm2 := runLen_is h1
     rw [hR] at hm1
     have HM := Lib.hid (show runLen (befF T) s d < runLen (befF T) s c by rw [hm1, hm2]; simp)
     clear hm1 hm2 h1 h2 hR hd3 hf hds
     go_wp2_with fail
     exact ⟨⟨d, R', rfl, HN, HB1⟩, by simpa [intOf] using HM.out⟩
theorem around_fn (p : Option Addr) (v : Int) (w : World) :
  Calls Tryz.prog 72 #[.pointer p, .int .i64 v] w fun e w' => e = .returned (.func (.func 98) #[] #[.pointer (some ⟨w.heap.size, 0, none⟩), .pointer (some ⟨w.heap.size + 1, 0, none⟩)]) ∧ w' = (w.alloc (.cells #[.pointer p] 41)).alloc (.cells #[.int .i64 v] 3) := by
 go_enter Tryz.func72, Tryz.ntmps72
 go_wp2_with fail
 go_ret
 exact ⟨by simp, rfl⟩
attribute [local go_sem] Oper.semAt_some
theorem onlyR_t {F : Nat → Prop} {A B C : World} (h : Only F A B) (k : Only F B C) : Only F A C := h.trans k
theorem onlyR_b {F : Nat → Prop} {w : World} (hF : ∀ k, w.heap.size ≤ k → F k) (W : World) (l : Nat) (o o' : Obj) (hl : w.heap.size ≤ l) (h : W.heap[l]? = some o) (_ : o.isCells = false) (_ : o.isWalk = false) : Only F W (W.putObj l o') :=
 (Only.refl F W).grown (grownBy_putObj' W l o') (fun k e => by cases e; exact .inl (hF _ hl))
structure ArAt (w : World) (n₀ b1 b2 g m : Nat) (T : List Tri) (v : Int) : Prop where
 at_ : ∃ w₀ : World, w₀.heap.size = n₀ ∧ TabN w₀ g m T ∧ Below n₀ w₀ w
 c1 : w.cell? ⟨b1, 0, none⟩ = some (.pointer (some ⟨g, 0, none⟩))
 c2 : w.cell? ⟨b2, 0, none⟩ = some (.int .i64 v)
 l1 : b1 < w.heap.size
 l2 : b2 < w.heap.size
section
variable {w w' : World} {n₀ b1 b2 g m : Nat} {T : List Tri} {v : Int}
theorem ArAt.t (h : ArAt w n₀ b1 b2 g m T v) : TabN w g m T := by
 obtain ⟨w₀, rfl, h1, h2⟩ := h.at_
 exact h1.below h2
theorem ArAt.only {F : Nat → Prop} (h : ArAt w n₀ b1 b2 g m T v) (ho : Only F w w') (hF : ∀ k, F k → n₀ ≤ k) (h1 : ¬ F b1) (h2 : ¬ F b2) : ArAt w' n₀ b1 b2 g m T v := by
 obtain ⟨w₀, rfl, a1, a2⟩ := h.at_
 exact ⟨⟨w₀, rfl, a1, a2.trans (ho.below a2.size fun k hk hf => by have := hF k hf; omega)⟩, (ho.cell h.l1 h1).trans h.c1, (ho.cell h.l2 h2).trans h.c2, Nat.lt_of_lt_of_le h.l1 ho.size, Nat.lt_of_lt_of_le h.l2 ho.size⟩
theorem ArAt.below (h : ArAt w n₀ b1 b2 g m T v) (hb : Below w.heap.size w w') : ArAt w' n₀ b1 b2 g m T v :=
 h.only (F := fun _ => False) (Only.of_below hb _) (fun _ h => h.elim) (fun h => h) (fun h => h)
end
theorem around1_in (n : Nat) (hn : 1 ≤ n) (l n₀ b1 b2 g m : Nat) (T : List Tri) (v : Int) (s b : Nat) (border : Bool) (M L : List Nat) (F : Nat → Prop) (hF : ∀ k, F k → n₀ ≤ k) (hF1 : ¬ F b1) (hF2 : ¬ F b2) (hv : 0 ≤ v ∧ v < (m : Int)) (hr : Ring T v s b border M L)
  (J Jx : List Nat → World → Prop)
  (hY : ∀ pre x W, x < 3 * T.length → J pre W → pre.length < L.length → YieldAt Fence.wide (n - 1) Tryz.prog l #[.int .i64 ((x : Nat) : Int)] W fun e W' =>
   (e = .returned (.bool true) ∧ J (pre ++ [x]) W' ∧ Only F W W') ∨ (e = .returned (.bool false) ∧ Jx (pre ++ [x]) W'))
  (W : World) (hJ : AbidesFrom W.heap.size J) (hA : ArAt W n₀ b1 b2 g m T v) (h0 : J [] W) :
  CallsIn Fence.wide n Tryz.prog 98 #[.func (.yield l) #[] #[], .pointer (some ⟨b1, 0, none⟩), .pointer (some ⟨b2, 0, none⟩)] W fun e W' => (∃ v, e = .returned v) ∧
   ((∃ ys, ys = L ∧ J ys W') ∨ (∃ pre, pre <+: L ∧ Jx pre W')) := by
 have HA := Lib.hid hA
 have HR := Lib.hid hr
 have HV := Lib.hid hv
 have HTH : Hid (∀ W', TabN W' g m T → Calls Tryz.prog 73 #[.pointer (some ⟨g, 0, none⟩), .int .i64 v] W' (IsPost W' (.bool true))) := Lib.hid fun W' h' => by
  have h1 := there_any g m T v W' h'
  rw [decide_eq_true hv] at h1
  exact h1
 have c1 := hA.c1
 have c2 := hA.c2
 clear hA hr hv
 refine callsIn_of_wp Tryz.func98 rfl trivial ?_ rfl
 simp only [Tryz.ntmps98, List.size_toArray, List.length_cons, List.length_nil, Nat.reduceAdd, Nat.reduceSub, Array.replicate_succ, Array.replicate_zero, List.push_toArray, List.append_toArray, List.nil_append, List.cons_append]
 gi_wp2_with (first
  | (refine ⟨trivial, ?_⟩; gi_at_call 73; refine (callsIn_wide.2 (HTH.out _ HA.out.t)).mono ?_; rintro e w' ⟨rfl, hw⟩; replace hw := hw.symm; subst hw)
  | (refine ⟨trivial, ?_⟩; gi_at_call 74; refine (callsIn_wide.2 (first_any g m T v s b border M L _ HV.out HR.out HA.out.t)).mono ?_; rintro e w1 ⟨rfl, hb⟩; have HA1 := Lib.hid (HA.out.below hb); have HJ1 := Lib.hid (hJ [] W w1 none h0 (grown_of hb) (fun r e => by cases e)); clear hb))
 have HM0 := Lib.hid (HV.out)
 gi_loopw [6] (fun cv wr => ∃ (c : Nat) (pre R : List Nat), cv = .int .i64 (c : Int) ∧ L = pre ++ R ∧ Hid (Run (aftF T) b R c) ∧ J pre wr ∧ Hid (ArAt wr n₀ b1 b2 g m T v)) (fun cv _ => runLen (aftF T) b (intOf cv).toNat)
 case atStart => exact ⟨b, [], L, rfl, rfl, Lib.hid HR.out.on, HJ1.out, HA1⟩
 case round =>
  obtain ⟨c, pre, R, rfl, hL, HRc, hJs, HAr⟩ := hrel
  obtain ⟨R0, hR0⟩ := HRc.out.head
  have hc3 : c < 3 * T.length := HR.out.lt c (by rw [hL, hR0]; simp)
  obtain ⟨fn, tmps, assign, body, hy, hR⟩ := hY pre c wr hc3 hJs (by rw [hL, hR0]; simp)
  have c1 := HAr.out.c1
  gi_wp2
  refine hR.mono ?_
  rintro e W3 (⟨rfl, hJ3, hk3⟩ | ⟨rfl, hJx3⟩)
  rotate_left
  · have HX := Lib.hid (show pre ++ [c] <+: L from ⟨R.tail, by rw [hL, hR0]; simp⟩)
    gi_wp2
    go_end0
    exact ⟨⟨_, rfl⟩, .inr ⟨pre ++ [c], HX.out, hJx3⟩⟩
  · have HA3 := Lib.hid (HAr.out.only hk3 hF hF1 hF2)
    have c1 := HA3.out.c1
    have HAF : Hid (∀ W', TabN W' g m T → Calls Tryz.prog 99 #[.pointer (some ⟨g, 0, none⟩), .int .i64 (c : Int)] W' (IntPost W' (optI (aftF T c)))) := Lib.hid fun W' h' => after_any g m T c W' hc3 h'
    by_cases hst : aftF T c = none ∨ aftF T c = some b
    · have hR1 := HRc.out.stop hst
      have HE := Lib.hid (show pre ++ [c] = L by rw [hL, hR1])
      clear hR1
      rcases hst with hf | hf
      · rw [hf] at HAF
        simp only [optI] at HAF
        clear hf
        gi_wp2_with (refine ⟨trivial, ?_⟩; gi_at_call 99; refine (callsIn_wide.2 (HAF.out _ HA3.out.t)).mono ?_; rintro e w4 ⟨rfl, hb⟩; have HJ4 := Lib.hid (hJ _ W3 w4 none hJ3 (grown_of hb) (fun r e => by cases e)); clear hb)
        refine bodyPost_ret (results_none rfl _ _ _) rfl ?_
        exact ⟨⟨_, rfl⟩, .inl ⟨pre ++ [c], HE.out, HJ4.out⟩⟩
      · rw [hf] at HAF
        simp only [optI] at HAF
        have hn0 : ¬ (b : Int) < 0 := by omega
        clear hf
        gi_wp2_with (refine ⟨trivial, ?_⟩; gi_at_call 99; refine (callsIn_wide.2 (HAF.out _ HA3.out.t)).mono ?_; rintro e w4 ⟨rfl, hb⟩; have HJ4 := Lib.hid (hJ _ W3 w4 none hJ3 (grown_of hb) (fun r e => by cases e)); clear hb)
        refine bodyPost_ret (results_none rfl _ _ _) rfl ?_
        exact ⟨⟨_, rfl⟩, .inl ⟨pre ++ [c], HE.out, HJ4.out⟩⟩
    · obtain ⟨d, hf⟩ : ∃ d, aftF T c = some d := by
       cases hf : aftF T c with
       | none => exact absurd (.inl hf) hst
       | some d => exact ⟨d, rfl⟩
      have hdb : d ≠ b := fun e => hst (.inr (by rw [hf, e]))
      have hne : ((d : Int) == (b : Int)) = false := by rw [beq_eq_false_iff_ne]; omega
      have hn0 : ¬ (d : Int) < 0 := by omega
      rw [hf] at HAF
      simp only [optI] at HAF
      obtain ⟨R', hRR, h1, _⟩ := HRc.out.next hf hdb
      have HN := Lib.hid (show L = (pre ++ [c]) ++ R' ∧ Run (aftF T) b R' d from ⟨by rw [hL, hRR]; simp, h1⟩)
      have hm1 := runLen_is HRc.out
      have hm2 := runLen_is h1
      rw [hRR] at hm1
      have HM := Lib.hid (show runLen (aftF T) b d < runLen (aftF T) b c by rw [hm1, hm2]; simp)
      clear hm1 hm2 h1 hRR hf hst hR0 hL
      gi_wp2_with (refine ⟨trivial, ?_⟩; gi_at_call 99; refine (callsIn_wide.2 (HAF.out _ HA3.out.t)).mono ?_; rintro e w4 ⟨rfl, hb⟩; have HA4 := Lib.hid (HA3.out.below hb); have HJ4 := Lib.hid (hJ _ W3 w4 none hJ3 (grown_of hb) (fun r e => by cases e)); clear hb)
      exact ⟨⟨d, pre ++ [c], R', rfl, HN.out.1, Lib.hid HN.out.2, HJ4.out, HA4⟩, by simpa [intOf] using HM.out⟩
theorem around0_in (n : Nat) (hn : 1 ≤ n) (l n₀ b1 b2 g m : Nat) (T : List Tri) (v : Int) (hv : ¬ (0 ≤ v ∧ v < (m : Int))) (J : List Nat → World → Prop)
  (W : World) (hA : ArAt W n₀ b1 b2 g m T v) (h0 : J [] W) :
  CallsIn Fence.wide n Tryz.prog 98 #[.func (.yield l) #[] #[], .pointer (some ⟨b1, 0, none⟩), .pointer (some ⟨b2, 0, none⟩)] W fun e W' => (∃ v, e = .returned v) ∧ J [] W' := by
 have HTH : Hid (Calls Tryz.prog 73 #[.pointer (some ⟨g, 0, none⟩), .int .i64 v] W (IsPost W (.bool false))) := Lib.hid (by
  have h1 := there_any g m T v W hA.t
  rw [decide_eq_false hv] at h1
  exact h1)
 have c1 := hA.c1
 have c2 := hA.c2
 clear hA hv
 refine callsIn_of_wp Tryz.func98 rfl trivial ?_ rfl
 simp only [Tryz.ntmps98, List.size_toArray, List.length_cons, List.length_nil, Nat.reduceAdd, Nat.reduceSub, Array.replicate_succ, Array.replicate_zero, List.push_toArray, List.append_toArray, List.nil_append, List.cons_append]
 gi_wp2_with (refine ⟨trivial, ?_⟩; gi_at_call 73; refine (callsIn_wide.2 HTH.out).mono ?_; rintro e w' ⟨rfl, hw⟩; replace hw := hw.symm; subst hw)
 refine bodyPost_ret (results_none rfl _ _ _) rfl ?_
 exact ⟨⟨_, rfl⟩, h0⟩
theorem around_stops (n : Nat) (hn : 1 ≤ n) (n₀ b1 b2 g m : Nat) (T : List Tri) (v : Int) (L : List Nat) (F : Nat → Prop) (w : World) (hF : ∀ k, F k → n₀ ≤ k) (hF1 : ¬ F b1) (hF2 : ¬ F b2) (hr : RingL m T v L) (hA : ArAt w n₀ b1 b2 g m T v) :
  SeqStopsK Fence.wide n Tryz.prog 98 #[.pointer (some ⟨b1, 0, none⟩), .pointer (some ⟨b2, 0, none⟩)] (fun x : { x : Nat // x < 3 * T.length } => #[.int .i64 (x.1 : Int)]) (Only F) (fun ys => ys.map (·.1) = L) (fun pre => pre.map (·.1) <+: L) L.length w := fun l J Jx W hW hJ hJx hY h0 => by
 have hA' := hA.below hW
 rcases hr with ⟨hv, rfl⟩ | ⟨k, rfl, hk, s, b, border, M, hr⟩
 · exact (around0_in n hn l n₀ b1 b2 g m T v hv (fun pre W => pre = [] → J [] W) W hA' (fun _ => h0)).mono fun e W' ⟨he, hj⟩ => ⟨he, .inl ⟨[], rfl, hj rfl⟩⟩
 · refine (around1_in n hn l n₀ b1 b2 g m T k s b border M L F hF hF1 hF2 ⟨by omega, by omega⟩ hr (fun pre W => ∃ pre' : List { x : Nat // x < 3 * T.length }, pre'.map (·.1) = pre ∧ J pre' W) (fun pre W => ∃ pre' : List { x : Nat // x < 3 * T.length }, pre'.map (·.1) = pre ∧ Jx pre' W)
    (fun pre x W1 hx hj hl => ?_) W ?_ hA' ⟨[], rfl, h0⟩).mono ?_
   · obtain ⟨pre', rfl, hj⟩ := hj
     refine (hY pre' ⟨x, hx⟩ W1 hj (by simpa using hl)).mono ?_
     rintro e W' (⟨he, h1, h2⟩ | ⟨he, h1⟩)
     · exact .inl ⟨he, ⟨pre' ++ [⟨x, hx⟩], by simp, h1⟩, h2⟩
     · exact .inr ⟨he, ⟨pre' ++ [⟨x, hx⟩], by simp, h1⟩⟩
   · rintro pre X Y row ⟨pre', e, hj⟩ hg hr
     exact ⟨pre', e, hJ pre' X Y row hj hg hr⟩
   · rintro e W' ⟨he, ⟨ys, rfl, ys', e', hj⟩ | ⟨pre, hp, pre', rfl, hj⟩⟩
     · exact ⟨he, .inl ⟨ys', e', hj⟩⟩
     · exact ⟨he, .inr ⟨pre', hp, hj⟩⟩
end Go.Proofs.YtiajlmajenabiaaGreat
