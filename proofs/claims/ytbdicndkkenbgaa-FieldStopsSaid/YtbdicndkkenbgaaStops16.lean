/- FieldStops, walked. -/
import Derived.Test.YtbdicndkkenbgaaWake16
import Derived.Test.YtbdicndkkenbgaaIsW15
import Derived.Test.YtbdicndkkenbgaaAll16
import Derived.Test.YtbdicndkkenbgaaList16
namespace Go.Proofs.Ytbdicndkkenbgaa
open Go.RowKit Go.Shelf

set_option linter.unusedSimpArgs false
set_option linter.unusedVariables false
attribute [local go_sem] Oper.semAt_some
theorem held_at {w w' : World} {D : Nat} {o : Obj} (h : w.heap[D]? = some o) (hb : Below w.heap.size w w') : w'.heap[D]? = some o := (hb.block D (Array.getElem?_eq_some_iff.1 h).1).trans h
/-- Nothing but the way on. -/
def onlyN (Q : Exit → Act → World → Prop) : Exit → Act → World → Prop
  | .normal, a, w => Q .normal a w
  | _, _, _ => False
theorem onlyN_normal {Q : Exit → Act → World → Prop} {a : Act} {w : World} (h : Q .normal a w) : onlyN Q .normal a w := h
theorem wp_onlyN {P : Program} {c : Code} {Q : Exit → Act → World → Prop} {a : Act} {w : World} (h : c.wp P (onlyN Q) a w) : c.wp P Q a w :=
  wp_mono h fun e a w h => by cases e <;> first | exact h | exact h.elim
theorem marks_ret {F : Fence} {n : Nat} {P : Program} {fn : Func} {R : Ending → World → Prop} {a : Act} {w : World} {v : Value} (hr : (results fn a.tmps).run P w = .ok v w) (hd : a.defers = []) (hR : R (.returned v) w) : bodyPostM F n P fn R .ret a w := by
  show LeavesInM F n P fn a.tmps R a.defers .returning w
  rw [hd]
  exact ⟨v, hr, hR⟩
theorem stops_end {w0 w : World} {gr D : Nat} {t : TypeId} {tm : Array Value} (h : Blk w gr t #[.bool false]) (hb : Below w0.heap.size w0 w) (hk : w.heap[D]? = some (.deferred (some []))) (hD : D ≠ gr) (h1 : w0.heap.size ≤ gr) (h2 : w0.heap.size ≤ D) (ht : tm[6]? = some (.pointer (some ⟨gr, 0, none⟩))) :
    ∃ v, (results Try.f4 tm).run Try.prog ((w.setCell ⟨gr, 0, none⟩ (.bool true)).putObj D (.deferred none)) = .ok v ((w.setCell ⟨gr, 0, none⟩ (.bool true)).putObj D (.deferred none)) ∧ BoolPost w0 true (.returned v) ((w.setCell ⟨gr, 0, none⟩ (.bool true)).putObj D (.deferred none)) := by
  have hs := h.set_ 0 (.bool true)
  have hD2 : Blk ((w.setCell ⟨gr, 0, none⟩ (.bool true)).putObj D (.deferred none)) gr t #[.bool true] := by
    have := hs.grown (grownBy_putObj' _ D (.deferred none)) (fun e => by injection e with e; exact hD e.symm)
    simpa using this
  have hc := hD2.cell 0
  simp at hc
  refine ⟨.bool true, by simp [results, Try.results4, go_sem, ht, hc], rfl, ?_⟩
  exact (hb.setCell (p := ⟨gr, 0, none⟩) h1 _).grown (grownBy_putObj' _ D _) (by rw [World.size_setCell]; exact hb.size) (fun k e => by cases e; exact h2)
/-- What comes of a field's values is numbered. -/
theorem range_pre {p : List Nat} {x n : Nat} (h : p ++ [x] <+: List.range n) : x = p.length := by
  obtain ⟨r, hr⟩ := h
  have h1 : (List.range n)[p.length]? = some x := by rw [← hr]; simp
  have hlt : p.length < n := by
    have := (List.getElem?_eq_some_iff.1 h1).1
    simpa using this
  rw [List.getElem?_range hlt] at h1
  injection h1 with h1
  exact h1.symm
/-- How a round leaves. -/
def LeftBy (gk : Nat) (nn : Int) (wG : World) (c : Code) (pre : List Nat) (W : World) : Prop :=
  (c = .ret ∧ ∃ p x, pre = p ++ [x] ∧ x ≠ p.length) ∨ (c = .exit 0 ∧ Blk W gk 3 #[.int .i64 nn] ∧ Below wG.heap.size wG W)
theorem left_own {B gk : Nat} {nn : Int} {wG : World} (hB : wG.heap.size ≤ B) (c : Code) : OwnFrom B (fun (pre : List Nat) W => LeftBy gk nn wG c pre W) := fun pre X Y row h hg hr => by
  rcases h with h | ⟨h1, h2, h3⟩
  · exact .inl h
  · exact .inr ⟨h1, blk_kept h2 hg hr, h3.grown hg h3.size fun k e => by have := (hr k e).1; omega⟩
attribute [local irreducible] Blk LRow World.alloc World.setCell World.cell? World.frozen? MapV
set_option maxHeartbeats 4000000 in
theorem stopsF_any (bl : Nat) (Al : Option Addr) (cl : Nat) (l : List Int) (c : Nat) (w : World) (hc : c < 1000000) (h1 : w.cell? ⟨bl, 0, none⟩ = some (.slice Al l.length cl))
    (hr : Reads w w.heap.size 1 Al l.length (ZL l)) :
    Calls Try.prog 18 #[.int .i64 (c : Int), .pointer (some ⟨bl, 0, none⟩)] w (IntPost w (valN l c)) := by
  have HR := Lib.hid hr
  clear hr
  go_enter Try.func18, Try.ntmps18
  go_wp2_with fail
  refine (value_any Al cl l c w w.heap.size hc HR.out).mono ?_
  rintro e w' ⟨rfl, hw⟩
  replace hw := hw.symm
  subst hw
  go_wp2_with fail
  go_ret
  exact ⟨rfl, Below.refl _ _⟩
set_option maxRecDepth 100000 in
set_option maxHeartbeats 8000000 in
theorem stopsLaw_any (N : Int) (A : Option Addr) (n c : Nat) (T : List Tri) (Al : Option Addr) (nl cl : Nat) (l : List Int) (b : Nat) (w : World) (hb8 : b < 256) (hnl : l.length = nl) (hnl2 : nl ≤ 9223372036854775807) (ht : TrisAt w w.heap.size A n T) (hl : Reads w w.heap.size 1 Al nl (ZL l)) :
    Calls Try.prog 4 #[.agg #[.int .i64 N, .slice A n c], .slice Al nl cl, .int .u8 (b : Int)] w (BoolPost w true) := by
  obtain rfl : n = T.length := ht.len.symm
  subst hnl
  have HT := Lib.hid ht
  have HRL := Lib.hid hl
  clear ht hl
  obtain ⟨V, hV⟩ : ∃ V, V = ((w.alloc (.cells #[.int .i64 N, .slice A T.length c] 24)).alloc (.cells #[.slice Al l.length cl] 25)).alloc (.cells #[.bool false] 4) := ⟨_, rfl⟩
  have GA0 : Hid (Blk V w.heap.size 24 #[.int .i64 N, .slice A T.length c]) := by subst hV; exact Lib.hid (((Blk.new _ _ _).alloc _).alloc _)
  have GL0 : Hid (Blk V (w.heap.size + 1) 25 #[.slice Al l.length cl]) := by subst hV; exact Lib.hid ((blk_new1 _ _ _ _).alloc _)
  have GR0 : Hid (Blk V (w.heap.size + 1 + 1) 4 #[.bool false]) := by subst hV; exact Lib.hid (Blk.new_ (by rw [World.size_alloc, World.size_alloc]) _ _)
  have HB0 : Hid (Below w.heap.size w V) := by subst hV; exact Lib.hid (bw_alloc (bw_alloc (bw_alloc (Below.refl _ _) _) _) _)
  refine (callsIn_wide (n := 6)).1 ?_
  refine callsIn_of_wp_marks Try.func4 rfl trivial ?_ rfl
  simp only [Try.ntmps4, List.size_toArray, List.length_cons, List.length_nil, Nat.reduceAdd, Nat.reduceSub, Array.replicate_succ, Array.replicate_zero, List.push_toArray, List.append_toArray, List.nil_append, List.cons_append]
  refine wpIn_wide.2 ?_
  go_upto_region 1 with (fail)
  rw [← hV]
  clear hV
  obtain ⟨ga, hga⟩ : ∃ g, g = w.heap.size := ⟨_, rfl⟩
  obtain ⟨gl, hgl⟩ : ∃ g, g = w.heap.size + 1 := ⟨_, rfl⟩
  obtain ⟨gr, hgr⟩ : ∃ g, g = w.heap.size + 1 + 1 := ⟨_, rfl⟩
  have HGR : Hid (w.heap.size ≤ gr) := Lib.hid (by omega)
  rw [← hgr] at GR0 ⊢
  rw [← hgl] at GL0 ⊢
  rw [← hga] at GA0
  simp only [← hga]
  clear hga hgl hgr
  go_wp2_with fail
  refine (awake_any V).mono ?_
  rintro e w1 ⟨rfl, hb⟩
  have GA1 := Lib.hid (blk_call GA0.out hb)
  have GL1 := Lib.hid (blk_call GL0.out hb)
  have GR1 := Lib.hid (blk_call GR0.out hb)
  have HB1 := Lib.hid (bw_call HB0.out hb)
  clear hb HB0 GA0 GL0 GR0
  obtain ⟨s0, s1, _, _, _⟩ := soup_facts GA1.out
  go_wp2_with fail
  refine (table12_any N A c T w1 ((HT.out.below HB1.out).more HB1.out.size)).mono ?_
  rintro e w2 (⟨rfl, hb, hno⟩ | ⟨g, m, rfl, hT40, hck, rfl, htab, hb⟩)
  · have GA2 := Lib.hid (blk_call GA1.out hb)
    have GR2 := Lib.hid (blk_call GR1.out hb)
    have HB2 := Lib.hid (bw_call HB1.out hb)
    clear hb GL1 GA1 GR1 HB1 s0 s1
    obtain ⟨s0, s1, _, _, _⟩ := soup_facts GA2.out
    have r1 := GR2.out.frozen 0
    have r0 := GR2.out.cell 0
    simp at r0
    by_cases hT40 : 40 < T.length
    · have hi : (40 : Int) < (T.length : Int) := by omega
      go_wp2_with fail
      have q0 := (GR2.out.set_ 0 (.bool true)).cell 0
      simp at q0
      exact marks_ret (v := .bool true) (by simp [results, Try.results4, go_sem, q0]) rfl ⟨rfl, bw_set HB2.out HGR.out _⟩
    have hi : ¬ (40 : Int) < (T.length : Int) := by omega
    have hck := hno.resolve_left hT40
    have HIS := Lib.hid (is15_any N A c T w2 (by omega) ((HT.out.below HB2.out).more HB2.out.size))
    rw [decide_eq_false hck] at HIS
    clear hno hck
    go_wp2_with fail
    refine HIS.out.mono ?_
    rintro e w4 ⟨rfl, hb⟩
    have GR4 := Lib.hid (blk_call GR2.out hb)
    have HB4 := Lib.hid (bw_call HB2.out hb)
    clear hb r0 r1
    have r1 := GR4.out.frozen 0
    have r0 := GR4.out.cell 0
    simp at r0
    go_wp2_with fail
    have q0 := (GR4.out.set_ 0 (.bool true)).cell 0
    simp at q0
    exact marks_ret (v := .bool true) (by simp [results, Try.results4, go_sem, q0]) rfl ⟨rfl, bw_set HB4.out HGR.out _⟩
  have GA2 := Lib.hid (blk_call GA1.out hb)
  have GL2 := Lib.hid (blk_call GL1.out hb)
  have GR2 := Lib.hid (blk_call GR1.out hb)
  have HB2 := Lib.hid (bw_call HB1.out hb)
  have HT2 := Lib.hid htab
  clear hb GL1 GA1 GR1 HB1 s0 s1 htab hck
  have HRW : Hid (∀ W, Below w2.heap.size w2 W → Reads W W.heap.size 1 Al l.length (ZL l)) := Lib.hid fun W h => (HRL.out.below (bw_call HB2.out h)).more (bw_call HB2.out h).size
  go_wp2_with fail
  refine (newI_pure 18 #[.pointer (some ⟨gl, 0, none⟩)] (enters_of Try.func18 (by kernel_rfl) rfl) g m T (fun k => valN l k) w2 (by omega) HT2.out
    (fun k W hk hW => stopsF_any gl Al cl l k W (by omega) ((hW.cell (p := ⟨gl, 0, none⟩) GL2.out.lt).trans (GL2.out.cell 0)) (HRW.out W hW))).mono ?_
  rintro e w3 ⟨gf, Af, cf, rfl, hf, hb⟩
  have GA3 := Lib.hid (blk_call GA2.out hb)
  have GL3 := Lib.hid (blk_call GL2.out hb)
  have GR3 := Lib.hid (blk_call GR2.out hb)
  have HB3 := Lib.hid (bw_call HB2.out hb)
  obtain ⟨BF, hBF⟩ : ∃ BF, BF = w2.heap.size := ⟨_, rfl⟩
  rw [← hBF] at hf
  have HF3 := Lib.hid hf
  have hm4 := HT2.out.s.m1
  clear hb hf hBF GA2 GL2 GR2 HB2 HT2 HRW
  obtain ⟨nn, hnn⟩ : ∃ nn, Int.tmod (b : Int) 7 = nn := ⟨_, rfl⟩
  have hn7 : 0 ≤ nn ∧ nn < 7 := by rw [← hnn]; exact ⟨Int.tmod_nonneg _ (by omega), Int.tmod_lt_of_pos _ (by omega)⟩
  have hcv : IntKind.i64.wrap (b : Int) = (b : Int) := IntWalk.i64_in _ (by omega)
  have hwn : IntKind.i64.wrap nn = nn := IntWalk.i64_in _ (by omega)
  obtain ⟨w4, hw4⟩ : ∃ w4, w4 = w3.alloc (.cells #[.int .i64 nn] 3) := ⟨_, rfl⟩
  have GA4 : Hid (Blk w4 ga 24 #[.int .i64 (m : Int), .slice A T.length c]) := by subst hw4; exact Lib.hid (GA3.out.alloc _)
  have GL4 : Hid (Blk w4 gl 25 #[.slice Al l.length cl]) := by subst hw4; exact Lib.hid (GL3.out.alloc _)
  have GR4 : Hid (Blk w4 gr 4 #[.bool false]) := by subst hw4; exact Lib.hid (GR3.out.alloc _)
  have GN4 : Hid (Blk w4 w3.heap.size 3 #[.int .i64 nn]) := by subst hw4; exact Lib.hid (Blk.new _ _ _)
  have HF4 : Hid (FAt w4 61 3 1 BF gf g Af cf (3 * T.length) ((List.range (3 * T.length)).flatMap fun i => cellsI (valN l i))) := by subst hw4; exact Lib.hid (HF3.out.alloc _)
  have HB4 : Hid (Below w.heap.size w w4) := by subst hw4; exact Lib.hid (bw_alloc HB3.out _)
  clear GA3 GL3 GR3 HF3 HB3
  go_upto_region 8 with (fail)
  rw [← hw4]
  clear hw4
  obtain ⟨gn, hgn⟩ : ∃ g, g = w3.heap.size := ⟨_, rfl⟩
  rw [← hgn] at GN4 ⊢
  clear hgn
  obtain ⟨gk, hgk⟩ : ∃ g, g = w4.heap.size := ⟨_, rfl⟩
  go_wp2_with fail
  refine (all_fn _ _).mono ?_
  rintro e w' ⟨rfl, hw⟩
  replace hw := hw.symm
  subst hw
  go_wp2_with fail
  obtain ⟨W6, hW6⟩ : ∃ X, X = (w4.alloc (.cells #[.int .i64 0] 3)).alloc (.cells #[.pointer (some ⟨gf, 0, none⟩)] 30) := ⟨_, rfl⟩
  have GK6 : Hid (Blk W6 gk 3 #[.int .i64 0]) := by subst hW6 hgk; exact Lib.hid ((Blk.new _ _ _).alloc _)
  have GX6 : Hid (Blk W6 (gk + 1) 30 #[.pointer (some ⟨gf, 0, none⟩)]) := by subst hW6 hgk; exact Lib.hid (Blk.new_ (by rw [World.size_alloc]) _ _)
  have HB6 : Hid (Below w4.heap.size w4 W6) := by subst hW6; exact Lib.hid (bw_alloc (bw_alloc (Below.refl _ _) _) _)
  have HS6 : Hid (W6.heap.size = gk + 2) := by subst hW6 hgk; exact Lib.hid (by simp)
  have HSK : Hid (w4.heap.size = gk ∧ ga < gk ∧ gl < gk ∧ gr < gk ∧ gn < gk) := Lib.hid ⟨hgk.symm, hgk ▸ GA4.out.lt, hgk ▸ GL4.out.lt, hgk ▸ GR4.out.lt, hgk ▸ GN4.out.lt⟩
  simp only [World.size_alloc, ← hgk]
  rw [← hW6]
  clear hW6 hgk
  refine (wpIn_wide (n := 6)).1 ?_
  have hs4 := HSK.out.1
  have hs6 := HS6.out
  refine wpIn_rangeFunc_ownF rfl (by omega) (gf := 37) (lb := #[.pointer (some ⟨gk + 1, 0, none⟩)]) rfl trivial (enters_of Try.func37 (by kernel_rfl) rfl)
    (all_stops (6 - 1) (by omega) w4.heap.size (gk + 1) gf g (3 * T.length) Af cf (valN l) (fun k => k = gk ∨ W6.heap.size ≤ k) W6 (fun k hk => by omega) (by omega) (by omega) ⟨⟨w4, BF, rfl, HF4.out, HB6.out⟩, GX6.out.cell 0, by omega⟩) onlyK_t (onlyK_b (fun k hk => .inr hk)) (Below.refl _ _) (fun _ => rfl)
    (fun (pre : List Nat) W => Blk W gk 3 #[.int .i64 (pre.length : Int)] ∧ Below w4.heap.size w4 W)
    (fun c pre W => LeftBy gk nn w4 c pre W)
    (OwnFrom.and (fun pre X Y row h hg hr => blk_kept h hg hr) (ownFrom_below (by omega) (by omega)))
    (fun c => left_own (by omega) c)
    ⟨GK6.out, HB6.out⟩
    (fun x => { tmps := #[.agg #[.int .i64 (m : Int), .slice A T.length c], .slice Al l.length cl, .int .u8 (b : Int), .pointer (some ⟨ga, 0, none⟩), .pointer (some ⟨gl, 0, none⟩), undef, .pointer (some ⟨gr, 0, none⟩), .pointer (some ⟨g, 0, none⟩), .pointer (some ⟨gf, 0, none⟩), .pointer (some ⟨gn, 0, none⟩), .pointer (some ⟨gk, 0, none⟩), .int .i64 (x : Int), .int .i64 (valN l x), .bool true, .bool false, .agg #[.int .i64 (m : Int), .slice A T.length c], .pointer (some ⟨g, 0, none⟩), .pointer (some ⟨g, 0, none⟩), .bool false, undef, undef, undef, undef, undef, undef, undef, undef, undef, .pointer (some ⟨g, 0, none⟩), .func (.func 18) #[] #[.pointer (some ⟨gl, 0, none⟩)], .pointer (some ⟨gf, 0, none⟩), .int .u8 (b : Int), .int .i64 (b : Int), .int .i64 nn, .pointer (some ⟨gf, 0, none⟩), .func (.func 37) #[] #[.pointer (some ⟨gk + 1, 0, none⟩)], .int .i64 (x : Int), .int .i64 (valN l x), undef, undef, undef, undef, undef, undef, undef, undef, undef, undef, undef, undef, undef, undef, undef, undef, undef, undef, undef, undef, undef, undef, undef, undef, undef, undef, undef, undef, undef, undef, undef, undef, undef, undef], defers := [] }) ?assign ?body ?done ?stop
  case assign =>
    intro l' x W K hK
    gi_wp2
    simpa using hK
  case body =>
    rintro l' pre x W ⟨hbk, hB⟩ hlt
    have k0 := hbk.cell 0
    have k1 := hbk.frozen 0
    simp at k0
    have HBK := Lib.hid hbk
    have HBW := Lib.hid hB
    have l0 := (GL4.out.below hB (by have := HSK.out.2.2.1; omega)).cell 0
    have r0 := (GR4.out.below hB (by have := HSK.out.2.2.2.1; omega)).cell 0
    have r1 := (GR4.out.below hB (by have := HSK.out.2.2.2.1; omega)).frozen 0
    have n0 := (GN4.out.below hB (by have := HSK.out.2.2.2.2; omega)).cell 0
    simp at l0 r0 n0
    have HRV : Hid (Reads W w.heap.size 1 Al l.length (ZL l)) := Lib.hid (HRL.out.below (bw_call HB4.out hB))
    have hp120 : pre.length < 120 := by omega
    clear hbk hB hs4 hs6
    by_cases hx : x = pre.length
    rotate_left
    · have hne : ((x : Int) != (pre.length : Int)) = true := by rw [bne_iff_ne]; omega
      have hne2 : ((x : Int) == (pre.length : Int)) = false := by rw [beq_eq_false_iff_ne]; omega
      have hne3 : ¬ (x : Int) = (pre.length : Int) := by omega
      have HX := Lib.hid hx
      clear hx
      gi_wp2
      refine ⟨trivial, ?_⟩
      gi_wp2
      exact ⟨KeepsOthers.setCell _ _ _, .inl ⟨rfl, pre, x, rfl, HX.out⟩⟩
    subst hx
    have hne : ((pre.length : Int) != (pre.length : Int)) = false := by simp
    have HVL : Hid (Calls Try.prog 11 #[.slice Al l.length cl, .int .i64 (pre.length : Int)] W (IsPost W (.int .i64 (valN l pre.length)))) := Lib.hid (value_any Al cl l pre.length W w.heap.size (by omega) HRV.out)
    generalize valN l pre.length = y at *
    have hyy : (y != y) = false := by simp
    have hwp : IntKind.i64.wrap ((pre.length : Int) + 1) = (pre.length : Int) + 1 := IntWalk.i64_in _ (by omega)
    by_cases hk : (pre.length : Int) = nn
    · have e1 : ((pre.length : Int) == nn) = true := by rw [beq_iff_eq]; exact hk
      have HK := Lib.hid hk
      clear hk
      gi_wp2_with (refine ⟨trivial, ?_⟩; gi_at_call 11; refine (CallsIn.inRound l' (callsIn_wide.2 HVL.out)).mono ?_; rintro e w' ⟨rfl, hw⟩; replace hw := hw.symm; subst hw)
      exact ⟨KeepsOthers.refl _, .inr ⟨rfl, HK.out ▸ HBK.out, HBW.out⟩⟩
    · have e1 : ((pre.length : Int) == nn) = false := by rw [beq_eq_false_iff_ne]; exact hk
      clear hk
      gi_wp2_with (refine ⟨trivial, ?_⟩; gi_at_call 11; refine (CallsIn.inRound l' (callsIn_wide.2 HVL.out)).mono ?_; rintro e w' ⟨rfl, hw⟩; replace hw := hw.symm; subst hw)
      refine ⟨KeepsOthers.setCell _ _ _, (Only.refl _ _).setCell (.inl (.inl rfl)) _, ?_, HBW.out.setCell (p := ⟨gk, 0, none⟩) (by have := HSK.out.1; show w4.heap.size ≤ gk; omega) _⟩
      have := HBK.out.set_ 0 (.int .i64 ((pre.length : Int) + 1))
      simpa using this
  case done =>
    rintro D ys wE hD rfl ⟨hbk, hB⟩ hK
    obtain ⟨kk, hkk⟩ : ∃ kk : Int, kk = 3 * (T.length : Int) := ⟨_, rfl⟩
    have GKE : Hid (Blk wE gk 3 #[.int .i64 kk]) := by
      have h := hbk
      rw [List.length_range, show (((3 * T.length : Nat)) : Int) = kk by omega] at h
      exact Lib.hid h
    have GLE := Lib.hid (GL4.out.below hB (by have := HSK.out.2.2.1; omega))
    have GAE := Lib.hid (GA4.out.below hB (by have := HSK.out.2.1; omega))
    have GRE := Lib.hid (GR4.out.below hB (by have := HSK.out.2.2.2.1; omega))
    have GNE := Lib.hid (GN4.out.below hB (by have := HSK.out.2.2.2.2; omega))
    have HFE := Lib.hid (HF4.out.below hB)
    have HBE := Lib.hid (bw_call HB4.out hB)
    have HKD := Lib.hid hK
    have HGRK : D ≠ gr := by have := HSK.out.2.2.2.1; omega
    have hDr := HGRK
    have HDw : Hid (w.heap.size ≤ D) := Lib.hid (by have := HB4.out.size; omega)
    clear hbk hB hK hD hs4 hs6 HGRK
    by_cases hkn : kk = nn
    · have e1 : (kk == nn) = true := by rw [beq_iff_eq]; exact hkn
      clear hkn hkk
      go_upto_region 16 with (fail)
      obtain ⟨x0, hx0⟩ : ∃ x, x = wE.drew := ⟨_, rfl⟩
      have GLx0 := Lib.hid GLE.out.drew
      have GAx0 := Lib.hid GAE.out.drew
      have GKx0 := Lib.hid GKE.out.drew
      have GNx0 := Lib.hid GNE.out.drew
      have GRx0 := Lib.hid GRE.out.drew
      have HFx0 := Lib.hid HFE.out.drew
      have HBx0 := Lib.hid (bw_drew HBE.out)
      have HKx0 : Hid (wE.drew.heap[D]? = some (.deferred (some []))) := Lib.hid HKD.out
      refine wp_onlyN ?_
      refine wp_region_till (S := fun w' => w'.cell? ⟨gl, 0, none⟩ = some (.slice Al l.length cl) ∧ w'.cell? ⟨ga, 0, none⟩ = some (.int .i64 (m : Int)) ∧ w'.cell? ⟨ga, 1, none⟩ = some (.slice A T.length c) ∧ w'.cell? ⟨gk, 0, none⟩ = some (.int .i64 kk) ∧ w'.cell? ⟨gn, 0, none⟩ = some (.int .i64 nn)) 19 (by kernel_rfl) ⟨GLx0.out.cell 0, (soup_facts GAx0.out).1, (soup_facts GAx0.out).2.1, GKx0.out.cell 0, GNx0.out.cell 0⟩ (fun hHeld => ?_)
      rw [← hx0] at GLx0 GAx0 GKx0 GNx0 GRx0 HFx0 HBx0 HKx0 hHeld ⊢
      clear hx0
      refine Till.take (i := 0) (v := ?vt1) rfl (by kernel_rfl) (by kernel_rfl) (by kernel_rfl) (by kernel_rfl) (fun _ _ _ h => h) (Or.inl ⟨by rfl, ?ht1⟩) (by assumption) ?restt1
      case ht1 => (intro w hSw; (try dsimp only at hSw); go_simp; try with_reducible rfl)
      (try simp only [Act.put, List.setIfInBounds_toArray, List.set_cons_zero, List.set_cons_succ])
      refine Till.take (i := 2) (v := ?vt2) rfl (by kernel_rfl) (by kernel_rfl) (by kernel_rfl) (by kernel_rfl) (fun _ _ _ h => h) (Or.inl ⟨by rfl, ?ht2⟩) (by assumption) ?restt2
      case ht2 => (intro w hSw; (try dsimp only at hSw); go_simp; try with_reducible rfl)
      (try simp only [Act.put, List.setIfInBounds_toArray, List.set_cons_zero, List.set_cons_succ])
      refine Till.take (i := 3) (v := ?vt3) rfl (by kernel_rfl) (by kernel_rfl) (by kernel_rfl) (by kernel_rfl) (fun _ _ _ h => h) (Or.inl ⟨by rfl, ?ht3⟩) (by assumption) ?restt3
      case ht3 => (intro w hSw; (try dsimp only at hSw); go_simp; try with_reducible rfl)
      (try simp only [Act.put, List.setIfInBounds_toArray, List.set_cons_zero, List.set_cons_succ])
      refine Till.ready (rs := [1]) (by kernel_rfl) (by simp) ?_
      refine TillEach.cons rfl (fun K hK => ?_) ?_
      · go_simp
        go_wp2_with (go_at_call 20; refine (allF_any gf g BF (3 * T.length) Af cf (valN l) _ (by omega) HFx0.out).mono ?_; rintro e x1 ⟨A1, c1, rfl, hr, hb⟩)
        have HR1 := Lib.hid (cellsI_zl _ ▸ Reads.of_own hr)
        clear hr
        have GLx1 := Lib.hid (blk_call GLx0.out hb)
        have GAx1 := Lib.hid (blk_call GAx0.out hb)
        have GKx1 := Lib.hid (blk_call GKx0.out hb)
        have GNx1 := Lib.hid (blk_call GNx0.out hb)
        have GRx1 := Lib.hid (blk_call GRx0.out hb)
        have HFx1 := Lib.hid (HFx0.out.below hb)
        have HBx1 := Lib.hid (bw_call HBx0.out hb)
        have HKx1 := Lib.hid (held_at HKx0.out hb)
        clear hb
        refine hK.out _ _ ?_ (fun hHeld => ?_)
        · exact ⟨GLx1.out.cell 0, (soup_facts GAx1.out).1, (soup_facts GAx1.out).2.1, GKx1.out.cell 0, GNx1.out.cell 0⟩
        clear hK K
        (try simp only [Act.put, List.setIfInBounds_toArray, List.set_cons_zero, List.set_cons_succ])
        refine Till.ready (rs := [4]) (by kernel_rfl) (by simp) ?_
        refine TillEach.cons rfl (fun K hK => ?_) ?_
        · go_simp
          go_wp2_with (go_at_call 21; refine (list_any (m : Int) A c T Al cl l _ (by omega) ((HRL.out.below HBx1.out).more HBx1.out.size)).mono ?_; rintro e x2 ⟨A2, c2, rfl, hr, hb⟩)
          have hln2 : ((List.range (3 * T.length)).map (valN l)).length = 3 * T.length := by simp
          have HR2 := Lib.hid (cellsI_zl _ ▸ Reads.of_own hr)
          have HR1' := Lib.hid ((HR1.out.below hb).more hb.size)
          clear hr
          have GLx2 := Lib.hid (blk_call GLx1.out hb)
          have GAx2 := Lib.hid (blk_call GAx1.out hb)
          have GKx2 := Lib.hid (blk_call GKx1.out hb)
          have GNx2 := Lib.hid (blk_call GNx1.out hb)
          have GRx2 := Lib.hid (blk_call GRx1.out hb)
          have HFx2 := Lib.hid (HFx1.out.below hb)
          have HBx2 := Lib.hid (bw_call HBx1.out hb)
          have HKx2 := Lib.hid (held_at HKx1.out hb)
          clear hb
          refine hK.out _ _ ?_ (fun hHeld => ?_)
          · exact ⟨GLx2.out.cell 0, (soup_facts GAx2.out).1, (soup_facts GAx2.out).2.1, GKx2.out.cell 0, GNx2.out.cell 0⟩
          clear hK K
          (try simp only [Act.put, List.setIfInBounds_toArray, List.set_cons_zero, List.set_cons_succ])
          refine Till.ready (rs := [5]) (by kernel_rfl) (by simp) ?_
          refine TillEach.cons rfl (fun K hK => ?_) ?_
          · rw [hln2] at HR2 HR1'
            go_simp
            go_wp2_with (go_at_call 15; refine (refInts_any ((List.range (3 * T.length)).map (valN l)) A1 A2 (3 * T.length) c1 c2 _ (by omega) HR1'.out HR2.out).mono ?_; rintro e x3 ⟨rfl, hb⟩)
            have GLx3 := Lib.hid (blk_call GLx2.out hb)
            have GAx3 := Lib.hid (blk_call GAx2.out hb)
            have GKx3 := Lib.hid (blk_call GKx2.out hb)
            have GNx3 := Lib.hid (blk_call GNx2.out hb)
            have GRx3 := Lib.hid (blk_call GRx2.out hb)
            have HFx3 := Lib.hid (HFx2.out.below hb)
            have HBx3 := Lib.hid (bw_call HBx2.out hb)
            have HKx3 := Lib.hid (held_at HKx2.out hb)
            clear hb
            refine hK.out _ _ ?_ (fun hHeld => ?_)
            · exact ⟨GLx3.out.cell 0, (soup_facts GAx3.out).1, (soup_facts GAx3.out).2.1, GKx3.out.cell 0, GNx3.out.cell 0⟩
            clear hK K
            (try simp only [Act.put, List.setIfInBounds_toArray, List.set_cons_zero, List.set_cons_succ])
            refine Till.take (i := 6) (v := ?vt4) rfl (by kernel_rfl) (by kernel_rfl) (by kernel_rfl) (by kernel_rfl) (fun _ _ _ h => h) (Or.inl ⟨by rfl, ?ht4⟩) (by assumption) ?restt4
            case ht4 => (intro w hSw; (try dsimp only at hSw); go_simp; try with_reducible rfl)
            (try simp only [Act.put, List.setIfInBounds_toArray, List.set_cons_zero, List.set_cons_succ])
            refine Till.take (i := 7) (v := ?vt5) rfl (by kernel_rfl) (by kernel_rfl) (by kernel_rfl) (by kernel_rfl) (fun _ _ _ h => h) (Or.inl ⟨by rfl, ?ht5⟩) (by assumption) ?restt5
            case ht5 => (intro w hSw; (try dsimp only at hSw); go_simp; try with_reducible rfl)
            (try simp only [Act.put, List.setIfInBounds_toArray, List.set_cons_zero, List.set_cons_succ])
            refine Till.take (i := 8) (v := ?vt6) rfl (by kernel_rfl) (by kernel_rfl) (by kernel_rfl) (by kernel_rfl) (fun _ _ _ h => h) (Or.inl ⟨by rfl, ?ht6⟩) (by assumption) ?restt6
            case ht6 => (intro w hSw; (try dsimp only at hSw); go_simp; try with_reducible rfl)
            (try simp only [Act.put, List.setIfInBounds_toArray, List.set_cons_zero, List.set_cons_succ])
            refine Till.take (i := 9) (v := ?vt7) rfl (by kernel_rfl) (by kernel_rfl) (by kernel_rfl) (by kernel_rfl) (fun _ _ _ h => h) (Or.inl ⟨by rfl, ?ht7⟩) (by assumption) ?restt7
            case ht7 => (intro w hSw; (try dsimp only at hSw); go_simp; try with_reducible rfl)
            (try simp only [Act.put, List.setIfInBounds_toArray, List.set_cons_zero, List.set_cons_succ])
            refine Till.take (i := 10) (v := ?vt8) rfl (by kernel_rfl) (by kernel_rfl) (by kernel_rfl) (by kernel_rfl) (fun _ _ _ h => h) (Or.inl ⟨by rfl, ?ht8⟩) (by assumption) ?restt8
            case ht8 => (intro w hSw; (try dsimp only at hSw); go_simp; try with_reducible rfl)
            (try simp only [Act.put, List.setIfInBounds_toArray, List.set_cons_zero, List.set_cons_succ])
            refine Till.take (i := 11) rfl (by kernel_rfl) (by kernel_rfl) (by kernel_rfl) (by kernel_rfl) (fun _ _ _ h => h) (Or.inr ⟨by rfl, rfl⟩) (by assumption) ?_
            (try simp only [Act.put, List.setIfInBounds_toArray, List.set_cons_zero, List.set_cons_succ])
            refine Till.take (i := 12) rfl (by kernel_rfl) (by kernel_rfl) (by kernel_rfl) (by kernel_rfl) (fun _ _ _ h => h) (Or.inr ⟨by rfl, rfl⟩) (by assumption) ?_
            (try simp only [Act.put, List.setIfInBounds_toArray, List.set_cons_zero, List.set_cons_succ])
            refine Till.take (i := 13) rfl (by kernel_rfl) (by kernel_rfl) (by kernel_rfl) (by kernel_rfl) (fun _ _ _ h => h) (Or.inr ⟨by rfl, rfl⟩) (by assumption) ?_
            (try simp only [Act.put, List.setIfInBounds_toArray, List.set_cons_zero, List.set_cons_succ])
            refine Till.take (i := 14) rfl (by kernel_rfl) (by kernel_rfl) (by kernel_rfl) (by kernel_rfl) (fun _ _ _ h => h) (Or.inr ⟨by rfl, rfl⟩) (by assumption) ?_
            (try simp only [Act.put, List.setIfInBounds_toArray, List.set_cons_zero, List.set_cons_succ])
            refine Till.take (i := 15) rfl (by kernel_rfl) (by kernel_rfl) (by kernel_rfl) (by kernel_rfl) (fun _ _ _ h => h) (Or.inr ⟨by rfl, rfl⟩) (by assumption) ?_
            (try simp only [Act.put, List.setIfInBounds_toArray, List.set_cons_zero, List.set_cons_succ])
            refine Till.take (i := 16) rfl (by kernel_rfl) (by kernel_rfl) (by kernel_rfl) (by kernel_rfl) (fun _ _ _ h => h) (Or.inr ⟨by rfl, rfl⟩) (by assumption) ?_
            (try simp only [Act.put, List.setIfInBounds_toArray, List.set_cons_zero, List.set_cons_succ])
            refine Till.take (i := 17) (v := ?vt9) rfl (by kernel_rfl) (by kernel_rfl) (by kernel_rfl) (by kernel_rfl) (fun _ _ _ h => h) (Or.inl ⟨by rfl, ?ht9⟩) (by assumption) ?restt9
            case ht9 => (intro w hSw; (try dsimp only at hSw); go_simp; try with_reducible rfl)
            (try simp only [Act.put, List.setIfInBounds_toArray, List.set_cons_zero, List.set_cons_succ])
            refine Till.take (i := 18) (v := ?vt10) rfl (by kernel_rfl) (by kernel_rfl) (by kernel_rfl) (by kernel_rfl) (fun _ _ _ h => h) (Or.inl ⟨by rfl, ?ht10⟩) (by assumption) ?restt10
            case ht10 => (intro w hSw; (try dsimp only at hSw); go_simp; try with_reducible rfl)
            (try simp only [Act.put, List.setIfInBounds_toArray, List.set_cons_zero, List.set_cons_succ])
            refine Till.ready (rs := [19]) (by kernel_rfl) (by simp) ?_
            refine TillEach.last rfl (fun K hK => ?_)
            · (have r0 := GRx3.out.cell 0; have r1 := GRx3.out.frozen 0; simp at r0; go_simp)
              refine hK.out _ _ ?_
              clear hK K
              (try simp only [Act.put, List.setIfInBounds_toArray, List.set_cons_zero, List.set_cons_succ])
              refine Till.done (by kernel_rfl) ?_ _
              refine onlyN_normal ?_
              go_wp2_with fail
              refine ⟨by simp, .inl ⟨_, _, rfl, run_takeDeferred ((Below.heap_setCell _ _ _ D (fun e => hDr e)).trans HKx3.out), ?_⟩⟩
              exact stops_end GRx3.out HBx3.out HKx3.out hDr (by have := HGR.out; omega) (by have := HDw.out; omega) (by rfl)
          exact TillEach.nil
        exact TillEach.nil
      exact TillEach.nil
    · have e1 : (kk == nn) = false := by rw [beq_eq_false_iff_ne]; exact hkn
      have e2 : (kk == 3 * (T.length : Int)) = true := by rw [beq_iff_eq]; exact hkk
      have hm3 : IntKind.i64.wrap (3 * (T.length : Int)) = 3 * (T.length : Int) := IntWalk.i64_in _ (by omega)
      clear hkn hkk
      go_upto_region 16 with (fail)
      obtain ⟨x0, hx0⟩ : ∃ x, x = wE.drew := ⟨_, rfl⟩
      have GLx0 := Lib.hid GLE.out.drew
      have GAx0 := Lib.hid GAE.out.drew
      have GKx0 := Lib.hid GKE.out.drew
      have GNx0 := Lib.hid GNE.out.drew
      have GRx0 := Lib.hid GRE.out.drew
      have HFx0 := Lib.hid HFE.out.drew
      have HBx0 := Lib.hid (bw_drew HBE.out)
      have HKx0 : Hid (wE.drew.heap[D]? = some (.deferred (some []))) := Lib.hid HKD.out
      refine wp_onlyN ?_
      refine wp_region_till (S := fun w' => w'.cell? ⟨gl, 0, none⟩ = some (.slice Al l.length cl) ∧ w'.cell? ⟨ga, 0, none⟩ = some (.int .i64 (m : Int)) ∧ w'.cell? ⟨ga, 1, none⟩ = some (.slice A T.length c) ∧ w'.cell? ⟨gk, 0, none⟩ = some (.int .i64 kk) ∧ w'.cell? ⟨gn, 0, none⟩ = some (.int .i64 nn)) 19 (by kernel_rfl) ⟨GLx0.out.cell 0, (soup_facts GAx0.out).1, (soup_facts GAx0.out).2.1, GKx0.out.cell 0, GNx0.out.cell 0⟩ (fun hHeld => ?_)
      rw [← hx0] at GLx0 GAx0 GKx0 GNx0 GRx0 HFx0 HBx0 HKx0 hHeld ⊢
      clear hx0
      refine Till.take (i := 0) (v := ?vt11) rfl (by kernel_rfl) (by kernel_rfl) (by kernel_rfl) (by kernel_rfl) (fun _ _ _ h => h) (Or.inl ⟨by rfl, ?ht11⟩) (by assumption) ?restt11
      case ht11 => (intro w hSw; (try dsimp only at hSw); go_simp; try with_reducible rfl)
      (try simp only [Act.put, List.setIfInBounds_toArray, List.set_cons_zero, List.set_cons_succ])
      refine Till.take (i := 2) (v := ?vt12) rfl (by kernel_rfl) (by kernel_rfl) (by kernel_rfl) (by kernel_rfl) (fun _ _ _ h => h) (Or.inl ⟨by rfl, ?ht12⟩) (by assumption) ?restt12
      case ht12 => (intro w hSw; (try dsimp only at hSw); go_simp; try with_reducible rfl)
      (try simp only [Act.put, List.setIfInBounds_toArray, List.set_cons_zero, List.set_cons_succ])
      refine Till.take (i := 3) (v := ?vt13) rfl (by kernel_rfl) (by kernel_rfl) (by kernel_rfl) (by kernel_rfl) (fun _ _ _ h => h) (Or.inl ⟨by rfl, ?ht13⟩) (by assumption) ?restt13
      case ht13 => (intro w hSw; (try dsimp only at hSw); go_simp; try with_reducible rfl)
      (try simp only [Act.put, List.setIfInBounds_toArray, List.set_cons_zero, List.set_cons_succ])
      refine Till.ready (rs := [1]) (by kernel_rfl) (by simp) ?_
      refine TillEach.cons rfl (fun K hK => ?_) ?_
      · go_simp
        go_wp2_with (go_at_call 20; refine (allF_any gf g BF (3 * T.length) Af cf (valN l) _ (by omega) HFx0.out).mono ?_; rintro e x1 ⟨A1, c1, rfl, hr, hb⟩)
        have HR1 := Lib.hid (cellsI_zl _ ▸ Reads.of_own hr)
        clear hr
        have GLx1 := Lib.hid (blk_call GLx0.out hb)
        have GAx1 := Lib.hid (blk_call GAx0.out hb)
        have GKx1 := Lib.hid (blk_call GKx0.out hb)
        have GNx1 := Lib.hid (blk_call GNx0.out hb)
        have GRx1 := Lib.hid (blk_call GRx0.out hb)
        have HFx1 := Lib.hid (HFx0.out.below hb)
        have HBx1 := Lib.hid (bw_call HBx0.out hb)
        have HKx1 := Lib.hid (held_at HKx0.out hb)
        clear hb
        refine hK.out _ _ ?_ (fun hHeld => ?_)
        · exact ⟨GLx1.out.cell 0, (soup_facts GAx1.out).1, (soup_facts GAx1.out).2.1, GKx1.out.cell 0, GNx1.out.cell 0⟩
        clear hK K
        (try simp only [Act.put, List.setIfInBounds_toArray, List.set_cons_zero, List.set_cons_succ])
        refine Till.ready (rs := [4]) (by kernel_rfl) (by simp) ?_
        refine TillEach.cons rfl (fun K hK => ?_) ?_
        · go_simp
          go_wp2_with (go_at_call 21; refine (list_any (m : Int) A c T Al cl l _ (by omega) ((HRL.out.below HBx1.out).more HBx1.out.size)).mono ?_; rintro e x2 ⟨A2, c2, rfl, hr, hb⟩)
          have hln2 : ((List.range (3 * T.length)).map (valN l)).length = 3 * T.length := by simp
          have HR2 := Lib.hid (cellsI_zl _ ▸ Reads.of_own hr)
          have HR1' := Lib.hid ((HR1.out.below hb).more hb.size)
          clear hr
          have GLx2 := Lib.hid (blk_call GLx1.out hb)
          have GAx2 := Lib.hid (blk_call GAx1.out hb)
          have GKx2 := Lib.hid (blk_call GKx1.out hb)
          have GNx2 := Lib.hid (blk_call GNx1.out hb)
          have GRx2 := Lib.hid (blk_call GRx1.out hb)
          have HFx2 := Lib.hid (HFx1.out.below hb)
          have HBx2 := Lib.hid (bw_call HBx1.out hb)
          have HKx2 := Lib.hid (held_at HKx1.out hb)
          clear hb
          refine hK.out _ _ ?_ (fun hHeld => ?_)
          · exact ⟨GLx2.out.cell 0, (soup_facts GAx2.out).1, (soup_facts GAx2.out).2.1, GKx2.out.cell 0, GNx2.out.cell 0⟩
          clear hK K
          (try simp only [Act.put, List.setIfInBounds_toArray, List.set_cons_zero, List.set_cons_succ])
          refine Till.ready (rs := [5]) (by kernel_rfl) (by simp) ?_
          refine TillEach.cons rfl (fun K hK => ?_) ?_
          · rw [hln2] at HR2 HR1'
            go_simp
            go_wp2_with (go_at_call 15; refine (refInts_any ((List.range (3 * T.length)).map (valN l)) A1 A2 (3 * T.length) c1 c2 _ (by omega) HR1'.out HR2.out).mono ?_; rintro e x3 ⟨rfl, hb⟩)
            have GLx3 := Lib.hid (blk_call GLx2.out hb)
            have GAx3 := Lib.hid (blk_call GAx2.out hb)
            have GKx3 := Lib.hid (blk_call GKx2.out hb)
            have GNx3 := Lib.hid (blk_call GNx2.out hb)
            have GRx3 := Lib.hid (blk_call GRx2.out hb)
            have HFx3 := Lib.hid (HFx2.out.below hb)
            have HBx3 := Lib.hid (bw_call HBx2.out hb)
            have HKx3 := Lib.hid (held_at HKx2.out hb)
            clear hb
            refine hK.out _ _ ?_ (fun hHeld => ?_)
            · exact ⟨GLx3.out.cell 0, (soup_facts GAx3.out).1, (soup_facts GAx3.out).2.1, GKx3.out.cell 0, GNx3.out.cell 0⟩
            clear hK K
            (try simp only [Act.put, List.setIfInBounds_toArray, List.set_cons_zero, List.set_cons_succ])
            refine Till.take (i := 6) (v := ?vt14) rfl (by kernel_rfl) (by kernel_rfl) (by kernel_rfl) (by kernel_rfl) (fun _ _ _ h => h) (Or.inl ⟨by rfl, ?ht14⟩) (by assumption) ?restt14
            case ht14 => (intro w hSw; (try dsimp only at hSw); go_simp; try with_reducible rfl)
            (try simp only [Act.put, List.setIfInBounds_toArray, List.set_cons_zero, List.set_cons_succ])
            refine Till.take (i := 7) (v := ?vt15) rfl (by kernel_rfl) (by kernel_rfl) (by kernel_rfl) (by kernel_rfl) (fun _ _ _ h => h) (Or.inl ⟨by rfl, ?ht15⟩) (by assumption) ?restt15
            case ht15 => (intro w hSw; (try dsimp only at hSw); go_simp; try with_reducible rfl)
            (try simp only [Act.put, List.setIfInBounds_toArray, List.set_cons_zero, List.set_cons_succ])
            refine Till.take (i := 8) (v := ?vt16) rfl (by kernel_rfl) (by kernel_rfl) (by kernel_rfl) (by kernel_rfl) (fun _ _ _ h => h) (Or.inl ⟨by rfl, ?ht16⟩) (by assumption) ?restt16
            case ht16 => (intro w hSw; (try dsimp only at hSw); go_simp; try with_reducible rfl)
            (try simp only [Act.put, List.setIfInBounds_toArray, List.set_cons_zero, List.set_cons_succ])
            refine Till.take (i := 9) (v := ?vt17) rfl (by kernel_rfl) (by kernel_rfl) (by kernel_rfl) (by kernel_rfl) (fun _ _ _ h => h) (Or.inl ⟨by rfl, ?ht17⟩) (by assumption) ?restt17
            case ht17 => (intro w hSw; (try dsimp only at hSw); go_simp; try with_reducible rfl)
            (try simp only [Act.put, List.setIfInBounds_toArray, List.set_cons_zero, List.set_cons_succ])
            refine Till.take (i := 10) (v := ?vt18) rfl (by kernel_rfl) (by kernel_rfl) (by kernel_rfl) (by kernel_rfl) (fun _ _ _ h => h) (Or.inl ⟨by rfl, ?ht18⟩) (by assumption) ?restt18
            case ht18 => (intro w hSw; (try dsimp only at hSw); go_simp; try with_reducible rfl)
            (try simp only [Act.put, List.setIfInBounds_toArray, List.set_cons_zero, List.set_cons_succ])
            refine Till.take (i := 11) (v := ?vt19) rfl (by kernel_rfl) (by kernel_rfl) (by kernel_rfl) (by kernel_rfl) (fun _ _ _ h => h) (Or.inl ⟨by rfl, ?ht19⟩) (by assumption) ?restt19
            case ht19 => (intro w hSw; (try dsimp only at hSw); go_simp; try with_reducible rfl)
            (try simp only [Act.put, List.setIfInBounds_toArray, List.set_cons_zero, List.set_cons_succ])
            refine Till.take (i := 12) (v := ?vt20) rfl (by kernel_rfl) (by kernel_rfl) (by kernel_rfl) (by kernel_rfl) (fun _ _ _ h => h) (Or.inl ⟨by rfl, ?ht20⟩) (by assumption) ?restt20
            case ht20 => (intro w hSw; (try dsimp only at hSw); go_simp; try with_reducible rfl)
            (try simp only [Act.put, List.setIfInBounds_toArray, List.set_cons_zero, List.set_cons_succ])
            refine Till.take (i := 13) (v := ?vt21) rfl (by kernel_rfl) (by kernel_rfl) (by kernel_rfl) (by kernel_rfl) (fun _ _ _ h => h) (Or.inl ⟨by rfl, ?ht21⟩) (by assumption) ?restt21
            case ht21 => (intro w hSw; (try dsimp only at hSw); go_simp; try with_reducible rfl)
            (try simp only [Act.put, List.setIfInBounds_toArray, List.set_cons_zero, List.set_cons_succ])
            refine Till.take (i := 14) (v := ?vt22) rfl (by kernel_rfl) (by kernel_rfl) (by kernel_rfl) (by kernel_rfl) (fun _ _ _ h => h) (Or.inl ⟨by rfl, ?ht22⟩) (by assumption) ?restt22
            case ht22 => (intro w hSw; (try dsimp only at hSw); go_simp; try with_reducible rfl)
            (try simp only [Act.put, List.setIfInBounds_toArray, List.set_cons_zero, List.set_cons_succ])
            refine Till.take (i := 15) (v := ?vt23) rfl (by kernel_rfl) (by kernel_rfl) (by kernel_rfl) (by kernel_rfl) (fun _ _ _ h => h) (Or.inl ⟨by rfl, ?ht23⟩) (by assumption) ?restt23
            case ht23 => (intro w hSw; (try dsimp only at hSw); go_simp; try with_reducible rfl)
            (try simp only [Act.put, List.setIfInBounds_toArray, List.set_cons_zero, List.set_cons_succ])
            refine Till.take (i := 16) (v := ?vt24) rfl (by kernel_rfl) (by kernel_rfl) (by kernel_rfl) (by kernel_rfl) (fun _ _ _ h => h) (Or.inl ⟨by rfl, ?ht24⟩) (by assumption) ?restt24
            case ht24 => (intro w hSw; (try dsimp only at hSw); go_simp; try with_reducible rfl)
            (try simp only [Act.put, List.setIfInBounds_toArray, List.set_cons_zero, List.set_cons_succ])
            refine Till.take (i := 17) (v := ?vt25) rfl (by kernel_rfl) (by kernel_rfl) (by kernel_rfl) (by kernel_rfl) (fun _ _ _ h => h) (Or.inl ⟨by rfl, ?ht25⟩) (by assumption) ?restt25
            case ht25 => (intro w hSw; (try dsimp only at hSw); go_simp; try with_reducible rfl)
            (try simp only [Act.put, List.setIfInBounds_toArray, List.set_cons_zero, List.set_cons_succ])
            refine Till.take (i := 18) (v := ?vt26) rfl (by kernel_rfl) (by kernel_rfl) (by kernel_rfl) (by kernel_rfl) (fun _ _ _ h => h) (Or.inl ⟨by rfl, ?ht26⟩) (by assumption) ?restt26
            case ht26 => (intro w hSw; (try dsimp only at hSw); go_simp; try with_reducible rfl)
            (try simp only [Act.put, List.setIfInBounds_toArray, List.set_cons_zero, List.set_cons_succ])
            refine Till.ready (rs := [19]) (by kernel_rfl) (by simp) ?_
            refine TillEach.last rfl (fun K hK => ?_)
            · (have r0 := GRx3.out.cell 0; have r1 := GRx3.out.frozen 0; simp at r0; go_simp)
              refine hK.out _ _ ?_
              clear hK K
              (try simp only [Act.put, List.setIfInBounds_toArray, List.set_cons_zero, List.set_cons_succ])
              refine Till.done (by kernel_rfl) ?_ _
              refine onlyN_normal ?_
              go_wp2_with fail
              refine ⟨by simp, .inl ⟨_, _, rfl, run_takeDeferred ((Below.heap_setCell _ _ _ D (fun e => hDr e)).trans HKx3.out), ?_⟩⟩
              exact stops_end GRx3.out HBx3.out HKx3.out hDr (by have := HGR.out; omega) (by have := HDw.out; omega) (by rfl)
          exact TillEach.nil
        exact TillEach.nil
      exact TillEach.nil
  case stop =>
    rintro D c' pre wE hD hp hx hK
    rcases hx with ⟨rfl, p, x, rfl, hne⟩ | ⟨rfl, hbk, hB⟩
    · exact absurd (range_pre hp) hne
    obtain ⟨kk, hkk⟩ : ∃ kk : Int, kk = nn := ⟨_, rfl⟩
    have GKE : Hid (Blk wE gk 3 #[.int .i64 kk]) := Lib.hid (hkk ▸ hbk)
    have GLE := Lib.hid (GL4.out.below hB (by have := HSK.out.2.2.1; omega))
    have GAE := Lib.hid (GA4.out.below hB (by have := HSK.out.2.1; omega))
    have GRE := Lib.hid (GR4.out.below hB (by have := HSK.out.2.2.2.1; omega))
    have GNE := Lib.hid (GN4.out.below hB (by have := HSK.out.2.2.2.2; omega))
    have HFE := Lib.hid (HF4.out.below hB)
    have HBE := Lib.hid (bw_call HB4.out hB)
    have HKD := Lib.hid hK
    have HGRK : D ≠ gr := by have := HSK.out.2.2.2.1; omega
    have hDr := HGRK
    have HDw : Hid (w.heap.size ≤ D) := Lib.hid (by have := HB4.out.size; omega)
    clear hbk hB hK hD hs4 hs6 HGRK
    have e1 : (kk == nn) = true := by rw [beq_iff_eq]; exact hkk
    clear hkk hp
    gi_wp2
    go_upto_region 16 with (fail)
    obtain ⟨x0, hx0⟩ : ∃ x, x = wE.drew := ⟨_, rfl⟩
    have GLx0 := Lib.hid GLE.out.drew
    have GAx0 := Lib.hid GAE.out.drew
    have GKx0 := Lib.hid GKE.out.drew
    have GNx0 := Lib.hid GNE.out.drew
    have GRx0 := Lib.hid GRE.out.drew
    have HFx0 := Lib.hid HFE.out.drew
    have HBx0 := Lib.hid (bw_drew HBE.out)
    have HKx0 : Hid (wE.drew.heap[D]? = some (.deferred (some []))) := Lib.hid HKD.out
    refine wp_onlyN ?_
    refine wp_region_till (S := fun w' => w'.cell? ⟨gl, 0, none⟩ = some (.slice Al l.length cl) ∧ w'.cell? ⟨ga, 0, none⟩ = some (.int .i64 (m : Int)) ∧ w'.cell? ⟨ga, 1, none⟩ = some (.slice A T.length c) ∧ w'.cell? ⟨gk, 0, none⟩ = some (.int .i64 kk) ∧ w'.cell? ⟨gn, 0, none⟩ = some (.int .i64 nn)) 19 (by kernel_rfl) ⟨GLx0.out.cell 0, (soup_facts GAx0.out).1, (soup_facts GAx0.out).2.1, GKx0.out.cell 0, GNx0.out.cell 0⟩ (fun hHeld => ?_)
    rw [← hx0] at GLx0 GAx0 GKx0 GNx0 GRx0 HFx0 HBx0 HKx0 hHeld ⊢
    clear hx0
    refine Till.take (i := 0) (v := ?vt27) rfl (by kernel_rfl) (by kernel_rfl) (by kernel_rfl) (by kernel_rfl) (fun _ _ _ h => h) (Or.inl ⟨by rfl, ?ht27⟩) (by assumption) ?restt27
    case ht27 => (intro w hSw; (try dsimp only at hSw); go_simp; try with_reducible rfl)
    (try simp only [Act.put, List.setIfInBounds_toArray, List.set_cons_zero, List.set_cons_succ])
    refine Till.take (i := 2) (v := ?vt28) rfl (by kernel_rfl) (by kernel_rfl) (by kernel_rfl) (by kernel_rfl) (fun _ _ _ h => h) (Or.inl ⟨by rfl, ?ht28⟩) (by assumption) ?restt28
    case ht28 => (intro w hSw; (try dsimp only at hSw); go_simp; try with_reducible rfl)
    (try simp only [Act.put, List.setIfInBounds_toArray, List.set_cons_zero, List.set_cons_succ])
    refine Till.take (i := 3) (v := ?vt29) rfl (by kernel_rfl) (by kernel_rfl) (by kernel_rfl) (by kernel_rfl) (fun _ _ _ h => h) (Or.inl ⟨by rfl, ?ht29⟩) (by assumption) ?restt29
    case ht29 => (intro w hSw; (try dsimp only at hSw); go_simp; try with_reducible rfl)
    (try simp only [Act.put, List.setIfInBounds_toArray, List.set_cons_zero, List.set_cons_succ])
    refine Till.ready (rs := [1]) (by kernel_rfl) (by simp) ?_
    refine TillEach.cons rfl (fun K hK => ?_) ?_
    · go_simp
      go_wp2_with (go_at_call 20; refine (allF_any gf g BF (3 * T.length) Af cf (valN l) _ (by omega) HFx0.out).mono ?_; rintro e x1 ⟨A1, c1, rfl, hr, hb⟩)
      have HR1 := Lib.hid (cellsI_zl _ ▸ Reads.of_own hr)
      clear hr
      have GLx1 := Lib.hid (blk_call GLx0.out hb)
      have GAx1 := Lib.hid (blk_call GAx0.out hb)
      have GKx1 := Lib.hid (blk_call GKx0.out hb)
      have GNx1 := Lib.hid (blk_call GNx0.out hb)
      have GRx1 := Lib.hid (blk_call GRx0.out hb)
      have HFx1 := Lib.hid (HFx0.out.below hb)
      have HBx1 := Lib.hid (bw_call HBx0.out hb)
      have HKx1 := Lib.hid (held_at HKx0.out hb)
      clear hb
      refine hK.out _ _ ?_ (fun hHeld => ?_)
      · exact ⟨GLx1.out.cell 0, (soup_facts GAx1.out).1, (soup_facts GAx1.out).2.1, GKx1.out.cell 0, GNx1.out.cell 0⟩
      clear hK K
      (try simp only [Act.put, List.setIfInBounds_toArray, List.set_cons_zero, List.set_cons_succ])
      refine Till.ready (rs := [4]) (by kernel_rfl) (by simp) ?_
      refine TillEach.cons rfl (fun K hK => ?_) ?_
      · go_simp
        go_wp2_with (go_at_call 21; refine (list_any (m : Int) A c T Al cl l _ (by omega) ((HRL.out.below HBx1.out).more HBx1.out.size)).mono ?_; rintro e x2 ⟨A2, c2, rfl, hr, hb⟩)
        have hln2 : ((List.range (3 * T.length)).map (valN l)).length = 3 * T.length := by simp
        have HR2 := Lib.hid (cellsI_zl _ ▸ Reads.of_own hr)
        have HR1' := Lib.hid ((HR1.out.below hb).more hb.size)
        clear hr
        have GLx2 := Lib.hid (blk_call GLx1.out hb)
        have GAx2 := Lib.hid (blk_call GAx1.out hb)
        have GKx2 := Lib.hid (blk_call GKx1.out hb)
        have GNx2 := Lib.hid (blk_call GNx1.out hb)
        have GRx2 := Lib.hid (blk_call GRx1.out hb)
        have HFx2 := Lib.hid (HFx1.out.below hb)
        have HBx2 := Lib.hid (bw_call HBx1.out hb)
        have HKx2 := Lib.hid (held_at HKx1.out hb)
        clear hb
        refine hK.out _ _ ?_ (fun hHeld => ?_)
        · exact ⟨GLx2.out.cell 0, (soup_facts GAx2.out).1, (soup_facts GAx2.out).2.1, GKx2.out.cell 0, GNx2.out.cell 0⟩
        clear hK K
        (try simp only [Act.put, List.setIfInBounds_toArray, List.set_cons_zero, List.set_cons_succ])
        refine Till.ready (rs := [5]) (by kernel_rfl) (by simp) ?_
        refine TillEach.cons rfl (fun K hK => ?_) ?_
        · rw [hln2] at HR2 HR1'
          go_simp
          go_wp2_with (go_at_call 15; refine (refInts_any ((List.range (3 * T.length)).map (valN l)) A1 A2 (3 * T.length) c1 c2 _ (by omega) HR1'.out HR2.out).mono ?_; rintro e x3 ⟨rfl, hb⟩)
          have GLx3 := Lib.hid (blk_call GLx2.out hb)
          have GAx3 := Lib.hid (blk_call GAx2.out hb)
          have GKx3 := Lib.hid (blk_call GKx2.out hb)
          have GNx3 := Lib.hid (blk_call GNx2.out hb)
          have GRx3 := Lib.hid (blk_call GRx2.out hb)
          have HFx3 := Lib.hid (HFx2.out.below hb)
          have HBx3 := Lib.hid (bw_call HBx2.out hb)
          have HKx3 := Lib.hid (held_at HKx2.out hb)
          clear hb
          refine hK.out _ _ ?_ (fun hHeld => ?_)
          · exact ⟨GLx3.out.cell 0, (soup_facts GAx3.out).1, (soup_facts GAx3.out).2.1, GKx3.out.cell 0, GNx3.out.cell 0⟩
          clear hK K
          (try simp only [Act.put, List.setIfInBounds_toArray, List.set_cons_zero, List.set_cons_succ])
          refine Till.take (i := 6) (v := ?vt30) rfl (by kernel_rfl) (by kernel_rfl) (by kernel_rfl) (by kernel_rfl) (fun _ _ _ h => h) (Or.inl ⟨by rfl, ?ht30⟩) (by assumption) ?restt30
          case ht30 => (intro w hSw; (try dsimp only at hSw); go_simp; try with_reducible rfl)
          (try simp only [Act.put, List.setIfInBounds_toArray, List.set_cons_zero, List.set_cons_succ])
          refine Till.take (i := 7) (v := ?vt31) rfl (by kernel_rfl) (by kernel_rfl) (by kernel_rfl) (by kernel_rfl) (fun _ _ _ h => h) (Or.inl ⟨by rfl, ?ht31⟩) (by assumption) ?restt31
          case ht31 => (intro w hSw; (try dsimp only at hSw); go_simp; try with_reducible rfl)
          (try simp only [Act.put, List.setIfInBounds_toArray, List.set_cons_zero, List.set_cons_succ])
          refine Till.take (i := 8) (v := ?vt32) rfl (by kernel_rfl) (by kernel_rfl) (by kernel_rfl) (by kernel_rfl) (fun _ _ _ h => h) (Or.inl ⟨by rfl, ?ht32⟩) (by assumption) ?restt32
          case ht32 => (intro w hSw; (try dsimp only at hSw); go_simp; try with_reducible rfl)
          (try simp only [Act.put, List.setIfInBounds_toArray, List.set_cons_zero, List.set_cons_succ])
          refine Till.take (i := 9) (v := ?vt33) rfl (by kernel_rfl) (by kernel_rfl) (by kernel_rfl) (by kernel_rfl) (fun _ _ _ h => h) (Or.inl ⟨by rfl, ?ht33⟩) (by assumption) ?restt33
          case ht33 => (intro w hSw; (try dsimp only at hSw); go_simp; try with_reducible rfl)
          (try simp only [Act.put, List.setIfInBounds_toArray, List.set_cons_zero, List.set_cons_succ])
          refine Till.take (i := 10) (v := ?vt34) rfl (by kernel_rfl) (by kernel_rfl) (by kernel_rfl) (by kernel_rfl) (fun _ _ _ h => h) (Or.inl ⟨by rfl, ?ht34⟩) (by assumption) ?restt34
          case ht34 => (intro w hSw; (try dsimp only at hSw); go_simp; try with_reducible rfl)
          (try simp only [Act.put, List.setIfInBounds_toArray, List.set_cons_zero, List.set_cons_succ])
          refine Till.take (i := 11) rfl (by kernel_rfl) (by kernel_rfl) (by kernel_rfl) (by kernel_rfl) (fun _ _ _ h => h) (Or.inr ⟨by rfl, rfl⟩) (by assumption) ?_
          (try simp only [Act.put, List.setIfInBounds_toArray, List.set_cons_zero, List.set_cons_succ])
          refine Till.take (i := 12) rfl (by kernel_rfl) (by kernel_rfl) (by kernel_rfl) (by kernel_rfl) (fun _ _ _ h => h) (Or.inr ⟨by rfl, rfl⟩) (by assumption) ?_
          (try simp only [Act.put, List.setIfInBounds_toArray, List.set_cons_zero, List.set_cons_succ])
          refine Till.take (i := 13) rfl (by kernel_rfl) (by kernel_rfl) (by kernel_rfl) (by kernel_rfl) (fun _ _ _ h => h) (Or.inr ⟨by rfl, rfl⟩) (by assumption) ?_
          (try simp only [Act.put, List.setIfInBounds_toArray, List.set_cons_zero, List.set_cons_succ])
          refine Till.take (i := 14) rfl (by kernel_rfl) (by kernel_rfl) (by kernel_rfl) (by kernel_rfl) (fun _ _ _ h => h) (Or.inr ⟨by rfl, rfl⟩) (by assumption) ?_
          (try simp only [Act.put, List.setIfInBounds_toArray, List.set_cons_zero, List.set_cons_succ])
          refine Till.take (i := 15) rfl (by kernel_rfl) (by kernel_rfl) (by kernel_rfl) (by kernel_rfl) (fun _ _ _ h => h) (Or.inr ⟨by rfl, rfl⟩) (by assumption) ?_
          (try simp only [Act.put, List.setIfInBounds_toArray, List.set_cons_zero, List.set_cons_succ])
          refine Till.take (i := 16) rfl (by kernel_rfl) (by kernel_rfl) (by kernel_rfl) (by kernel_rfl) (fun _ _ _ h => h) (Or.inr ⟨by rfl, rfl⟩) (by assumption) ?_
          (try simp only [Act.put, List.setIfInBounds_toArray, List.set_cons_zero, List.set_cons_succ])
          refine Till.take (i := 17) (v := ?vt35) rfl (by kernel_rfl) (by kernel_rfl) (by kernel_rfl) (by kernel_rfl) (fun _ _ _ h => h) (Or.inl ⟨by rfl, ?ht35⟩) (by assumption) ?restt35
          case ht35 => (intro w hSw; (try dsimp only at hSw); go_simp; try with_reducible rfl)
          (try simp only [Act.put, List.setIfInBounds_toArray, List.set_cons_zero, List.set_cons_succ])
          refine Till.take (i := 18) (v := ?vt36) rfl (by kernel_rfl) (by kernel_rfl) (by kernel_rfl) (by kernel_rfl) (fun _ _ _ h => h) (Or.inl ⟨by rfl, ?ht36⟩) (by assumption) ?restt36
          case ht36 => (intro w hSw; (try dsimp only at hSw); go_simp; try with_reducible rfl)
          (try simp only [Act.put, List.setIfInBounds_toArray, List.set_cons_zero, List.set_cons_succ])
          refine Till.ready (rs := [19]) (by kernel_rfl) (by simp) ?_
          refine TillEach.last rfl (fun K hK => ?_)
          · (have r0 := GRx3.out.cell 0; have r1 := GRx3.out.frozen 0; simp at r0; go_simp)
            refine hK.out _ _ ?_
            clear hK K
            (try simp only [Act.put, List.setIfInBounds_toArray, List.set_cons_zero, List.set_cons_succ])
            refine Till.done (by kernel_rfl) ?_ _
            refine onlyN_normal ?_
            go_wp2_with fail
            refine ⟨by simp, .inl ⟨_, _, rfl, run_takeDeferred ((Below.heap_setCell _ _ _ D (fun e => hDr e)).trans HKx3.out), ?_⟩⟩
            exact stops_end GRx3.out HBx3.out HKx3.out hDr (by have := HGR.out; omega) (by have := HDw.out; omega) (by rfl)
        exact TillEach.nil
      exact TillEach.nil
    exact TillEach.nil
end Go.Proofs.Ytbdicndkkenbgaa
