/- SeamAround, walked. -/
import Derived.Test.YtdpgbccgngdapaaWake31
import Derived.Test.YtdpgbccgngdapaaFldVI
import Derived.Test.YtdpgbccgngdapaaRingS
namespace Go.Proofs.Ytdpgbccgngdapaa
open Go.RowKit Go.Shelf

set_option linter.unusedSimpArgs false
set_option linter.unusedVariables false
attribute [local go_sem] Oper.semAt_some
theorem held_at {w w' : World} {D : Nat} {o : Obj} (h : w.heap[D]? = some o) (hb : Below w.heap.size w w') : w'.heap[D]? = some o := (hb.block D (Array.getElem?_eq_some_iff.1 h).1).trans h
/-- Nothing but the way on. -/
def onlyN (Q : Exit → Act → World → Prop) : Exit → Act → World → Prop
  | .normal, a, w => Q .normal a w
  | _, _, _ => False
theorem onlyN_normal {Q : Exit → Act → World → Prop} {a : Act} {w : World} (h : Q .normal a w) : onlyN Q .normal a w := h
theorem wp_onlyN {P : Program} {c : Code} {Q : Exit → Act → World → Prop} {a : Act} {w : World} (h : c.wp P (onlyN Q) a w) : c.wp P Q a w :=
  wp_mono h fun e a w h => by cases e <;> first | exact h | exact h.elim
theorem marks_ret {F : Fence} {n : Nat} {P : Program} {fn : Func} {R : Ending → World → Prop} {a : Act} {w : World} {v : Value} (hr : (results fn a.tmps).run P w = .ok v w) (hd : a.defers = []) (hR : R (.returned v) w) : bodyPostM F n P fn R .ret a w := by
  show LeavesInM F n P fn a.tmps R a.defers .returning w
  rw [hd]
  exact ⟨v, hr, hR⟩
theorem stops_end {w0 w : World} {gr D : Nat} {t : TypeId} {tm : Array Value} (h : Blk w gr t #[.bool false]) (hb : Below w0.heap.size w0 w) (hk : w.heap[D]? = some (.deferred (some []))) (hD : D ≠ gr) (h1 : w0.heap.size ≤ gr) (h2 : w0.heap.size ≤ D) (ht : tm[6]? = some (.pointer (some ⟨gr, 0, none⟩))) :
    ∃ v, (results Try.f3 tm).run Try.prog ((w.setCell ⟨gr, 0, none⟩ (.bool true)).putObj D (.deferred none)) = .ok v ((w.setCell ⟨gr, 0, none⟩ (.bool true)).putObj D (.deferred none)) ∧ BoolPost w0 true (.returned v) ((w.setCell ⟨gr, 0, none⟩ (.bool true)).putObj D (.deferred none)) := by
  have hs := h.set_ 0 (.bool true)
  have hD2 : Blk ((w.setCell ⟨gr, 0, none⟩ (.bool true)).putObj D (.deferred none)) gr t #[.bool true] := by
    have := hs.grown (grownBy_putObj' _ D (.deferred none)) (fun e => by injection e with e; exact hD e.symm)
    simpa using this
  have hc := hD2.cell 0
  simp at hc
  refine ⟨.bool true, by simp [results, Try.results3, go_sem, ht, hc], rfl, ?_⟩
  exact (hb.setCell (p := ⟨gr, 0, none⟩) h1 _).grown (grownBy_putObj' _ D _) (by rw [World.size_setCell]; exact hb.size) (fun k e => by cases e; exact h2)
theorem kr_of {w : World} {A : Option Addr} {c B : Nat} {L : List Int} (h : IR w B A c L) : KR w A L := ⟨h.reads⟩
theorem ir_own {w : World} {B c k : Nat} {A : Option Addr} {L : List Int} (h : IR w B A c L) (hk : L.length = k) : w.ownsRow B 3 1 (.slice A k c) k (ZL L) := by
  subst hk
  exact h
theorem run_eq_ed3 (a b c d : Int) (w : World) : (binOp .eql 39 (.agg #[.int .i64 a, .int .i64 b]) (.agg #[.int .i64 c, .int .i64 d])).run Try.prog w = .ok (.bool (a == c && b == d)) w := by
  rw [run_eql_struct]
  show ((Op.equalIn (9998 + 1 + 1) _ _ _).run _ _).andThen _ = _
  unfold Op.equalIn
  cases h1 : (a == c) <;> cases h2 : (b == d) <;> simp [go_sem, Try.underlying3, Result.andThen, List.range', h1, h2]
theorem run_ne_ed3 (a b c d : Int) (w : World) : (binOp .neq 39 (.agg #[.int .i64 a, .int .i64 b]) (.agg #[.int .i64 c, .int .i64 d])).run Try.prog w = .ok (.bool (!(a == c && b == d))) w := by
  rw [run_neq_struct]
  show ((Op.equalIn (9998 + 1 + 1) _ _ _).run _ _).andThen _ = _
  unfold Op.equalIn
  cases h1 : (a == c) <;> cases h2 : (b == d) <;> simp [go_sem, Try.underlying3, Result.andThen, List.range', h1, h2]
theorem pair_eqB (a b c d : Int) : (a == c && b == d) = decide ((a, b) = (c, d)) := by
  rw [Bool.eq_iff_iff, Bool.and_eq_true, beq_iff_eq, beq_iff_eq, decide_eq_true_eq, Prod.mk.injEq]
theorem mem_step {L : List (Int × Int)} {k : Nat} {e x : Int × Int} (h : L[k]? = some x) : decide (e ∈ L.take (k + 1)) = (decide (e ∈ L.take k) || decide (e = x)) := by
  rw [List.take_add_one, h, Bool.eq_iff_iff, Bool.or_eq_true, decide_eq_true_eq, decide_eq_true_eq, decide_eq_true_eq, List.mem_append]
  simp
structure EK (w : World) (g k : Nat) (x y : Int) : Prop where
  c0 : w.cell? ⟨g, k * 2, none⟩ = some (.int .i64 x)
  c1 : w.cell? ⟨g, k * 2 + 1, none⟩ = some (.int .i64 y)
  lt : g < w.heap.size
theorem EK.below {w w' : World} {g k : Nat} {x y : Int} (h : EK w g k x y) (hb : Below w.heap.size w w') : EK w' g k x y := ⟨(hb.cell (p := ⟨g, k * 2, none⟩) h.lt).trans h.c0, (hb.cell (p := ⟨g, k * 2 + 1, none⟩) h.lt).trans h.c1, Nat.lt_of_lt_of_le h.lt hb.size⟩
theorem EK.drew {w : World} {g k : Nat} {x y : Int} (h : EK w g k x y) : EK w.drew g k x y := ⟨h.c0, h.c1, h.lt⟩
theorem EC.ek {w : World} {A : Option Addr} {L : List (Int × Int)} (h : EC w A L) {k : Nat} {e : Int × Int} (he : L[k]? = some e) : ∃ g, A = some ⟨g, 0, none⟩ ∧ EK w g k e.1 e.2 := by
  obtain ⟨g, hA, hg, hc⟩ := h.at_ (by have := (List.getElem?_eq_some_iff.1 he).1; omega)
  exact ⟨g, hA, (hc k e he).1, (hc k e he).2, hg⟩
set_option maxHeartbeats 4000000 in
/-- Is a vertex inner? -/
theorem inner_any (g m : Nat) (T : List Tri) (v : Int) (s b : Nat) (border : Bool) (M L : List Nat) (w : World) (hv : 0 ≤ v ∧ v < (m : Int)) (hr : Ring T v s b border M L) (h : TabN w g m T) :
    Calls Try.prog 9 #[.pointer (some ⟨g, 0, none⟩), .int .i64 v] w (BoolPost w (!border)) := by
  have HTH := Lib.hid (there_any g m T v w h)
  rw [decide_eq_true hv] at HTH
  have HF := Lib.hid (first_any g m T v s b border M L w hv hr h)
  clear h hr
  go_enter Try.func9, Try.ntmps9
  go_wp2_with fail
  refine HTH.out.mono ?_
  rintro e w' ⟨rfl, hw⟩
  replace hw := hw.symm
  subst hw
  go_wp2_with fail
  refine HF.out.mono ?_
  rintro e w2 ⟨rfl, hb⟩
  go_wp2_with fail
  go_ret
  exact ⟨rfl, hb⟩
theorem inner_no (g m : Nat) (T : List Tri) (v : Int) (w : World) (hv : ¬ (0 ≤ v ∧ v < (m : Int))) (h : TabN w g m T) :
    Calls Try.prog 9 #[.pointer (some ⟨g, 0, none⟩), .int .i64 v] w (BoolPost w false) := by
  have HTH := Lib.hid (there_any g m T v w h)
  rw [decide_eq_false hv] at HTH
  clear h
  go_enter Try.func9, Try.ntmps9
  go_wp2_with fail
  refine HTH.out.mono ?_
  rintro e w' ⟨rfl, hw⟩
  replace hw := hw.symm
  subst hw
  go_wp2_with fail
  go_ret
  exact ⟨rfl, Below.refl _ _⟩
/-- The corner ahead of one around a vertex. -/
theorem ring_ahead {T : List Tri} {v : Int} {s b : Nat} {border : Bool} {M L : List Nat} (hr : Ring T v s b border M L) {i x : Nat} (hx : L[i]? = some x) (h : i ≠ 0 ∨ border = false) : ∃ y, L[(i + L.length - 1) % L.length]? = some y ∧ aftF T y = some x := by
  have hl := (List.getElem?_eq_some_iff.1 hx).1
  by_cases h0 : i = 0
  · subst h0
    have hb := h.resolve_left (fun h => h rfl)
    obtain ⟨R, hR⟩ := hr.on.head
    have hxb : x = b := by rw [hR] at hx; simpa using hx.symm
    refine ⟨lastN L b, ?_, hxb ▸ (hr.fi.inn hb).2 L hr.on⟩
    rw [Nat.zero_add, Nat.mod_eq_of_lt (by omega)]
    exact lastN_at hr.on.ne
  · obtain ⟨j, rfl⟩ : ∃ j, i = j + 1 := ⟨i - 1, by omega⟩
    have hj : j < L.length := by omega
    have e : (j + 1 + L.length - 1) % L.length = j := by
      rw [show j + 1 + L.length - 1 = j + L.length by omega, Nat.add_mod_right, Nat.mod_eq_of_lt hj]
    rw [e]
    exact ⟨L[j], List.getElem?_eq_getElem hj, hr.on.step j _ _ (List.getElem?_eq_getElem hj) hx⟩
/-- What the walk asks of a vertex: is it inner, and what is around it. -/
structure AroF (T : List Tri) (v : Int) (m : Nat) (L : List Nat) (inn : Bool) : Prop where
  kind : (¬ (0 ≤ v ∧ v < (m : Int)) ∧ inn = false) ∨ ((0 ≤ v ∧ v < (m : Int)) ∧ ∃ s b bo M, Ring T v s b bo M L ∧ inn = !bo)
  ahead : ∀ i x, L[i]? = some x → (i ≠ 0 ∨ inn = true) → ∃ y, L[(i + L.length - 1) % L.length]? = some y ∧ aftF T y = some x
  vv : ∀ x ∈ L, cv T x = v ∧ x < 3 * T.length
theorem aro_ex {m : Nat} {T : List Tri} {v : Int} {L : List Nat} (h : RingL m T v L) : ∃ inn, AroF T v m L inn := by
  rcases h with ⟨hv, rfl⟩ | ⟨k, rfl, hk, s, b, bo, M, hr⟩
  · exact ⟨false, .inl ⟨hv, rfl⟩, fun i x h => by simp at h, fun x h => by cases h⟩
  · refine ⟨!bo, .inr ⟨⟨by omega, by omega⟩, s, b, bo, M, hr, rfl⟩, fun i x hx hc => ring_ahead hr hx (hc.imp id fun h => by simpa using h), fun x hx => ⟨hr.vv x hx, hr.lt x hx⟩⟩
def lastV (K : List Int) (L : List Nat) : Int := kval K (L.getD (L.length - 1) 0)
def curV (K : List Int) (L : List Nat) (i : Nat) : Int := if i = 0 then lastV K L else kval K (L.getD (i - 1) 0)
theorem curV_ahead {K : List Int} {L : List Nat} {i x y : Nat} (hx : L[i]? = some x) (hy : L[(i + L.length - 1) % L.length]? = some y) : curV K L i = kval K y := by
  have hl := (List.getElem?_eq_some_iff.1 hx).1
  unfold curV lastV
  by_cases h0 : i = 0
  · rw [if_pos h0]
    rw [h0, Nat.zero_add, Nat.mod_eq_of_lt (by omega)] at hy
    rw [List.getD_eq_getElem?_getD, hy]; rfl
  · rw [if_neg h0]
    rw [show i + L.length - 1 = (i - 1) + L.length by omega, Nat.add_mod_right, Nat.mod_eq_of_lt (by omega)] at hy
    rw [List.getD_eq_getElem?_getD, hy]; rfl
theorem curV_next {K : List Int} {L : List Nat} {i x : Nat} (hx : L[i]? = some x) : curV K L (i + 1) = kval K x := by
  unfold curV
  rw [if_neg (by omega), Nat.add_sub_cancel, List.getD_eq_getElem?_getD, hx]; rfl
theorem curV_end {K : List Int} {L : List Nat} : curV K L L.length = lastV K L := by
  unfold curV lastV
  split <;> rfl
def ZN (L : List Nat) : List Int := List.map (fun x : Nat => (x : Int)) L
/-- The corners that came. -/
structure VJ (w : World) (B gk : Nat) (M : List Nat) (W : World) : Prop where
  at_ : ∃ (A' : Option Addr) (c' : Nat), Blk W gk 25 #[.slice A' M.length c'] ∧ W.ownsRow B 3 1 (.slice A' M.length c') M.length (ZL (ZN M))
  b : Below w.heap.size w W
  z : B ≤ W.heap.size
theorem vj_own (w : World) (B gk : Nat) (hB : w.heap.size ≤ B) {β : Type} (f : β → List Nat) : OwnFrom B (fun (pre : β) W => VJ w B gk (f pre) W) := fun pre X Y row h hg hr => by
  obtain ⟨A', c', h1, h2⟩ := h.at_
  exact ⟨⟨A', c', blk_kept h1 hg hr, own_kept h2 hg hr⟩, h.b.grown hg h.b.size fun k e => by have := (hr k e).1; omega, Nat.le_trans h.z hg.size⟩
attribute [local irreducible] Blk LRow World.alloc World.setCell World.cell? World.frozen? MapV ERow
set_option maxRecDepth 100000 in
set_option maxHeartbeats 8000000 in
theorem aro31_any (N : Int) (A : Option Addr) (n c : Nat) (T : List Tri) (Ak : Option Addr) (nk ck : Nat) (K : List Int) (v : Int) (w : World) (hnk : K.length = nk) (hnk2 : nk ≤ 9223372036854775807) (ht : TrisAt w w.heap.size A n T) (hk : Reads w w.heap.size 1 Ak nk (ZL K)) :
    Calls Try.prog 3 #[.agg #[.int .i64 N, .slice A n c], .slice Ak nk ck, .int .i64 v] w (BoolPost w true) := by
  obtain rfl : n = T.length := ht.len.symm
  subst hnk
  have HT := Lib.hid ht
  have HKw : Hid (KR w Ak K) := Lib.hid ⟨hk⟩
  clear ht hk
  obtain ⟨i0, hi0, hz0, hz1, hz2⟩ := info_parts int_infoC
  obtain ⟨V, hV⟩ : ∃ V, V = (w.alloc (.cells #[.int .i64 N, .slice A T.length c] 24)).alloc (.cells #[.bool false] 4) := ⟨_, rfl⟩
  have GA0 : Hid (Blk V w.heap.size 24 #[.int .i64 N, .slice A T.length c]) := by subst hV; exact Lib.hid ((Blk.new _ _ _).alloc _)
  have GR0 : Hid (Blk V (w.heap.size + 1) 4 #[.bool false]) := by subst hV; exact Lib.hid (Blk.new_ (by rw [World.size_alloc]) _ _)
  have HB0 : Hid (Below w.heap.size w V) := by subst hV; exact Lib.hid (bw_alloc (bw_alloc (Below.refl _ _) _) _)
  refine (callsIn_wide (n := 6)).1 ?_
  refine callsIn_of_wp_marks Try.func3 rfl trivial ?_ rfl
  simp only [Try.ntmps3, List.size_toArray, List.length_cons, List.length_nil, Nat.reduceAdd, Nat.reduceSub, Array.replicate_succ, Array.replicate_zero, List.push_toArray, List.append_toArray, List.nil_append, List.cons_append]
  refine wpIn_wide.2 ?_
  go_upto_region 1 with (fail)
  rw [← hV]
  clear hV
  obtain ⟨ga, hga⟩ : ∃ g, g = w.heap.size := ⟨_, rfl⟩
  obtain ⟨gr, hgr⟩ : ∃ g, g = w.heap.size + 1 := ⟨_, rfl⟩
  have HGR : Hid (w.heap.size ≤ gr) := Lib.hid (by omega)
  rw [← hgr] at GR0 ⊢
  rw [← hga] at GA0
  simp only [← hga]
  clear hga hgr
  go_wp2_with fail
  refine (awake_any V).mono ?_
  rintro e w1 ⟨rfl, hb⟩
  have GA1 := Lib.hid (blk_call GA0.out hb)
  have GR1 := Lib.hid (blk_call GR0.out hb)
  have HB1 := Lib.hid (bw_call HB0.out hb)
  clear hb HB0 GA0 GR0
  obtain ⟨s0, s1, _, _, _⟩ := soup_facts GA1.out
  go_wp2_with fail
  refine (table31_any N A c T w1 ((HT.out.below HB1.out).more HB1.out.size)).mono ?_
  rintro e w2 (⟨rfl, hb, _⟩ | ⟨g, m, rfl, hm60, hT40, hck, rfl, htab, hb⟩)
  · have GR2 := Lib.hid (blk_call GR1.out hb)
    have HB2 := Lib.hid (bw_call HB1.out hb)
    clear hb s0 s1
    have r1 := GR2.out.frozen 0
    have r0 := GR2.out.cell 0
    simp at r0
    go_wp2_with fail
    have q0 := (GR2.out.set_ 0 (.bool true)).cell 0
    simp at q0
    exact marks_ret (v := .bool true) (by simp [results, Try.results3, go_sem, q0]) rfl ⟨rfl, bw_set HB2.out HGR.out _⟩
  have GR2 := Lib.hid (blk_call GR1.out hb)
  have HT2 := Lib.hid htab
  have HB2 := Lib.hid (bw_call HB1.out hb)
  have HK2 := Lib.hid (HKw.out.below HB2.out)
  clear hb htab hck GA1 GR1 HB1 s0 s1
  have r1 := GR2.out.frozen 0
  have r0 := GR2.out.cell 0
  simp at r0
  by_cases hk200 : 200 < K.length
  · have hki : (200 : Int) < (K.length : Int) := by omega
    go_wp2_with fail
    have q0 := (GR2.out.set_ 0 (.bool true)).cell 0
    simp at q0
    exact marks_ret (v := .bool true) (by simp [results, Try.results3, go_sem, q0]) rfl ⟨rfl, bw_set HB2.out HGR.out _⟩
  have hki : ¬ (200 : Int) < (K.length : Int) := by omega
  rcases Nat.eq_zero_or_pos K.length with hk0 | hk0
  · have e0 : ((K.length : Int) == 0) = true := by rw [beq_iff_eq]; omega
    clear hk0
    go_wp2_with fail
    have q0 := (GR2.out.set_ 0 (.bool true)).cell 0
    simp at q0
    exact marks_ret (v := .bool true) (by simp [results, Try.results3, go_sem, q0]) rfl ⟨rfl, bw_set HB2.out HGR.out _⟩
  have e0 : ((K.length : Int) == 0) = false := by rw [beq_eq_false_iff_ne]; omega
  by_cases hok : okK T.length K
  rotate_left
  · have HE := Lib.hid (edges_bad g m T Ak ck K w2 (by omega) HT2.out HK2.out hok)
    clear hok
    go_wp2_with fail
    refine HE.out.mono ?_
    rintro e w' ⟨rfl, hw⟩
    replace hw := hw.symm
    subst hw
    go_wp2_with fail
    have q0 := (GR2.out.set_ 0 (.bool true)).cell 0
    simp at q0
    exact marks_ret (v := .bool true) (by simp [results, Try.results3, go_sem, q0]) rfl ⟨rfl, bw_set HB2.out HGR.out _⟩
  have HOK := Lib.hid hok
  have HE := Lib.hid (edges31_any g m T Ak ck K w2 (by omega) HT2.out HK2.out hok)
  unfold SeamPost at HE
  clear hok
  go_wp2_with fail
  refine HE.out.mono ?_
  rintro e w5 ⟨As, cs, rfl, hes, hb⟩
  have GR5 := Lib.hid (blk_call GR2.out hb)
  have HT5 := Lib.hid (HT2.out.below hb)
  have HK5 := Lib.hid (HK2.out.below hb)
  have HB5 := Lib.hid (bw_call HB2.out hb)
  have HES : Hid (EC w5 As (sortE (seamsN T K (3 * T.length)))) := Lib.hid hes.ec
  have HSL : Hid ((sortE (seamsN T K (3 * T.length))).length ≤ 120) := Lib.hid (by have := sortE_len (seamsN T K (3 * T.length)); have := seamsN_len T K (3 * T.length); omega)
  have HSM : Hid (∀ e, e ∈ seamsN T K (3 * T.length) → e ∈ sortE (seamsN T K (3 * T.length))) := Lib.hid fun e he => sortE_mem.2 he
  clear hes hb GR2 HT2 HK2 HB2 HE e0
  generalize hS : sortE (seamsN T K (3 * T.length)) = S at *
  clear hS
  obtain ⟨L, hRL⟩ := ringL_ex HT5.out.s v
  have HRL := Lib.hid hRL
  have hL120 : L.length ≤ 120 := by have := hRL.len; omega
  clear hRL
  obtain ⟨gk, hgk⟩ : ∃ g, g = w5.heap.size := ⟨_, rfl⟩
  have HSZ := HSL.out
  go_wp2_with fail
  refine (around_fn _ _ _).mono ?_
  rintro e w' ⟨rfl, hw⟩
  replace hw := hw.symm
  subst hw
  go_wp2_with fail
  obtain ⟨W6, hW6⟩ : ∃ X, X = ((w5.alloc (.cells #[.slice none 0 0] 25)).alloc (.cells #[.pointer (some ⟨g, 0, none⟩)] 27)).alloc (.cells #[.int .i64 v] 3) := ⟨_, rfl⟩
  have GK6 : Hid (Blk W6 gk 25 #[.slice none 0 0]) := by subst hW6 hgk; exact Lib.hid (((Blk.new _ _ _).alloc _).alloc _)
  have HA6 : Hid (ArAt W6 w5.heap.size (gk + 1) (gk + 1 + 1) g m T v) := by
    have := arAt_new (v := v) (p := .int .i64 0) (t1 := 27) (t2 := 3) HT5.out (bw_alloc (Below.refl _ _) (.cells #[.slice none 0 0] 25))
    rw [World.size_alloc] at this
    subst hW6 hgk
    exact Lib.hid this
  have HB6 : Hid (Below w5.heap.size w5 W6) := by subst hW6; exact Lib.hid (bw_alloc (bw_alloc (bw_alloc (Below.refl _ _) _) _) _)
  have HS6 : Hid (W6.heap.size = gk + 3) := by subst hW6 hgk; exact Lib.hid (by simp)
  have HSK : Hid (w5.heap.size = gk ∧ gr < gk) := Lib.hid ⟨hgk.symm, hgk ▸ GR5.out.lt⟩
  simp only [World.size_alloc, ← hgk]
  rw [← hW6]
  clear hW6 hgk
  refine (wpIn_wide (n := 6)).1 ?_
  have hs5 := HSK.out.1
  have hs6 := HS6.out
  refine wpIn_rangeFunc_ownF rfl (by omega) (gf := 26) (lb := #[.pointer (some ⟨gk + 1, 0, none⟩), .pointer (some ⟨gk + 1 + 1, 0, none⟩)]) rfl trivial (enters_of Try.func26 (by kernel_rfl) rfl)
    (around_stops (6 - 1) (by omega) w5.heap.size (gk + 1) (gk + 1 + 1) g m T v L (fun k => k = gk ∨ W6.heap.size ≤ k) W6 (fun k hk => by omega) (by omega) (by omega) HRL.out HA6.out) onlyK_t (onlyK_b (fun k hk => .inr hk)) (Below.refl _ _) (fun _ => rfl)
    (fun (pre : List { x : Nat // x < 3 * T.length }) W => VJ w5 W6.heap.size gk (pre.map (·.1)) W)
    (fun _ _ _ => False)
    (vj_own w5 W6.heap.size gk (by omega) fun (pre : List { x : Nat // x < 3 * T.length }) => pre.map (·.1))
    (fun _ _ _ _ _ hs _ _ => hs)
    ⟨⟨none, 0, GK6.out, World.ownsRow_nil _ _ _ _⟩, HB6.out, Nat.le_refl _⟩
    (fun x => { tmps := #[.agg #[.int .i64 (m : Int), .slice A T.length c], .slice Ak K.length ck, .int .i64 v, .pointer (some ⟨ga, 0, none⟩), undef, undef, .pointer (some ⟨gr, 0, none⟩), .pointer (some ⟨g, 0, none⟩), .slice As S.length cs, .int .i64 0, .pointer (some ⟨gk, 0, none⟩), .int .i64 (x.1 : Int), undef, undef, undef, undef, undef, undef, undef, .bool true, .bool false, .agg #[.int .i64 (m : Int), .slice A T.length c], .pointer (some ⟨g, 0, none⟩), .pointer (some ⟨g, 0, none⟩), .bool false, .bool false, .slice Ak K.length ck, .int .i64 (K.length : Int), .bool (decide (200 < (K.length : Int))), .bool (decide (200 < (K.length : Int))), .bool (decide (200 < (K.length : Int))), .slice Ak K.length ck, .int .i64 (K.length : Int), .bool false, .bool (decide (200 < (K.length : Int))), .tuple #[.slice As S.length cs, .int .i64 0], .pointer (some ⟨g, 0, none⟩), .slice Ak K.length ck, .tuple #[.slice As S.length cs, .int .i64 0], .slice As S.length cs, .int .i64 0, .int .i64 0, .bool false, undef, undef, undef, .pointer (some ⟨g, 0, none⟩), .int .i64 v, .func (.func 26) #[] #[.pointer (some ⟨gk + 1, 0, none⟩), .pointer (some ⟨gk + 1 + 1, 0, none⟩)], .int .i64 (x.1 : Int), undef, undef, undef, undef, undef, undef, undef, undef, undef, undef, undef, undef, undef, undef, undef, undef, undef, undef, undef, undef, undef, undef, undef, undef, undef, undef, undef, undef, undef, undef, undef, undef, undef, undef, undef, undef, undef, undef, undef, undef, undef, undef, undef, undef, undef, undef, undef, undef, undef, undef, undef, undef, undef, undef, undef, undef, undef, undef, undef, undef, undef, undef, undef, undef, undef, undef, undef, undef, undef, undef, undef, undef, undef, undef, undef, undef, undef, undef, undef, undef, undef, undef, undef, undef, undef, undef, undef, undef, undef, undef, undef, undef, undef, undef, undef, undef, undef, undef, undef, undef, undef, undef, undef, undef, undef, undef, undef, undef, undef, undef], defers := [] }) ?assign ?body ?done ?stop
  case assign =>
    intro l' x W K' hK
    gi_wp2
    simpa using hK
  case body =>
    rintro l' pre x W hVJ hlt
    have hpl : (pre.map (·.1)).length = pre.length := List.length_map _
    obtain ⟨pr, hpr⟩ : ∃ pr, pr = pre.map (·.1) := ⟨_, rfl⟩
    have hnx : (pre ++ [x]).map (·.1) = pr ++ [x.1] := by rw [List.map_append, hpr]; rfl
    have HNX := Lib.hid hnx
    rw [← hpr] at hVJ hpl
    clear hpr hnx
    have hp120 : pr.length < 120 := by omega
    obtain ⟨A', c', h1, h2⟩ := hVJ.at_
    have HB1 := Lib.hid h1
    have HRW := Lib.hid h2
    have HBW := Lib.hid hVJ.b
    have HSW := Lib.hid hVJ.z
    have c1 := h1.cell 0
    simp at c1
    have hgt : ¬ (200 : Int) < (pr.length : Int) + 1 := by omega
    clear h1 h2 hVJ hlt hpl hs5 hs6
    gi_wp2_with (gi_at_builtin; refine wpListIn_append_own _ rfl _ _ 25 rfl W6.heap.size 3 i0 _ 1 8 Try.underlying25 hi0 hz0 hz1 hz2 rfl (by decide) _ _ _ rfl (own_same HRW.out fun k hk => Below.heap_alloc _ _ k (HRW.out.lt k hk).2) ⟨W.heap.size, 0, none⟩ 1 1 [.int .i64 (x.1 : Int)] rfl rfl (cell_one_new _ _ _) (by simp [Value.oneCell']) (by simp only [maxLen]; omega) (by omega) (by rw [World.size_alloc]; have := HSW.out; omega) ?_; intro v' w1 hown' hgrow _; obtain ⟨g', cap', rfl⟩ := ownsRow_succ hown'; have BA1 := HB1.out.alloc (.cells #[.int .i64 (x.1 : Int)] 3); have B1 := BA1.grown hgrow (fun e => own_blk_ne HRW.out HB1.out (by decide) e.symm); have BW := (bw_alloc HBW.out (.cells #[.int .i64 (x.1 : Int)] 3)).grown hgrow (by rw [World.size_alloc]; have := HBW.out.size; omega) (fun k hk => by have := (HRW.out.lt k hk).1; have := HS6.out; have := HSK.out; omega); have z0 := B1.cell 0; have z1 := B1.frozen 0; simp at z0; have HB5' := Lib.hid B1; have HBW5 := Lib.hid BW; have HO5 := Lib.hid hown'; have HG5 := Lib.hid hgrow; clear B1 BW BA1 hown' hgrow)
    refine ⟨?_, ?_, ?_⟩
    · exact ((KeepsOthers.alloc _ _).trans (keeps_own (own_same HRW.out fun k hk => Below.heap_alloc _ _ k (HRW.out.lt k hk).2) HG5.out)).trans (KeepsOthers.setCell _ _ _)
    · exact (((Only.refl _ _).alloc _).grown HG5.out (fun k hk => .inl (.inr (HRW.out.lt k hk).1))).setCell (.inl (.inl rfl)) _
    · show VJ _ _ _ ((pre ++ [x]).map (·.1)) _
      rw [HNX.out]
      refine ⟨⟨some ⟨g', 0, none⟩, cap', ?_, ?_⟩, HBW5.out.setCell (p := ⟨gk, 0, none⟩) (by have := HSK.out.1; show w5.heap.size ≤ gk; omega) _, ?_⟩
      · rw [List.length_append]
        simpa using HB5'.out.set_ 0 (.slice (some ⟨g', 0, none⟩) (pr.length + 1) cap')
      · rw [List.length_append]
        refine own_same (v := .slice (some ⟨g', 0, none⟩) (pr.length + 1) cap') (by simpa [ZL, ZN] using HO5.out) fun k hk => ?_
        obtain ⟨ds, hd⟩ := own_blk HO5.out hk
        exact Below.heap_setCell _ _ _ _ (hd.ne_ HB5'.out (by decide))
      · rw [World.size_setCell]
        refine Nat.le_trans HSW.out (Nat.le_trans ?_ HG5.out.size)
        rw [World.size_alloc]
        omega
  case done =>
    rintro D ys wE hD hys hVJ hK
    have hVJ2 : VJ w5 W6.heap.size gk L wE := hys ▸ hVJ
    obtain ⟨A', c', h1, h2⟩ := hVJ2.at_
    have hB := hVJ2.b
    have GKE := Lib.hid h1
    have HRE : Hid (Reads wE wE.heap.size 1 A' L.length (ZL (ZN L))) := Lib.hid (Reads.of_own h2)
    have GRE := Lib.hid (blk_call GR5.out hB)
    have HTE := Lib.hid (HT5.out.below hB)
    have HKE := Lib.hid (HK5.out.below hB)
    have HBE := Lib.hid (bw_call HB5.out hB)
    have HEE := Lib.hid (HES.out.below hB)
    have HKD := Lib.hid hK
    have hDr : D ≠ gr := by have := HSK.out; omega
    have HDw : Hid (w.heap.size ≤ D) := Lib.hid (by have := HB5.out.size; have := HSK.out; omega)
    obtain ⟨inn, hinn⟩ : ∃ inn, AroF T v m L inn := aro_ex HRL.out
    have HIF := Lib.hid hinn
    have HIN : Hid (∀ W, TabN W g m T → Calls Try.prog 9 #[.pointer (some ⟨g, 0, none⟩), .int .i64 v] W (BoolPost W inn)) := Lib.hid fun W h => by
      rcases hinn.kind with ⟨hv, hf⟩ | ⟨hv, s, b, bo, M, hr, hf⟩
      · rw [hf]; exact inner_no g m T v W hv h
      · rw [hf]; exact inner_any g m T v s b bo M L W hv hr h
    have HKL : Hid (K.length = 3 * T.length ∧ K ≠ [] ∧ ∀ c, 0 ≤ kval K c ∧ kval K c ≤ 65535) := Lib.hid (by
      rcases HOK.out with e | ⟨h1, h2⟩
      · rw [e] at hk0; simp at hk0
      · refine ⟨h1, fun e => by rw [e] at hk0; simp at hk0, fun c => ?_⟩
        by_cases hc : c < K.length
        · exact h2 _ (List.mem_of_getElem? (kval_at hc))
        · unfold kval; rw [List.getD_eq_getElem?_getD, List.getElem?_eq_none (by omega)]; simp)
    clear hVJ hys hVJ2 h1 h2 hB hK hD hs5 hs6 hinn hki hk0
    go_wp2_with fail
    go_loopw [12, 13, 14, 15, 16, 17, 18] (fun pv iv _ _ _ _ _ wr => ∃ i p : Nat, i ≤ L.length ∧ p ≤ i ∧ pv = .int .i64 (p : Int) ∧ iv = .int .i64 (i : Int) ∧ Hid (inn = true → PartsI (lastV K L) (curV K L i) (p : Int)) ∧ Hid (Below wE.heap.size wE wr)) (fun _ iv _ _ _ _ _ _ => L.length - (intOf iv).toNat)
    case atStart => exact ⟨0, 0, by omega, by omega, rfl, rfl, fun _ => PartsI.start _, Below.refl _ _⟩
    case round =>
      obtain ⟨i, p, hi, hp, rfl, rfl, HPI, HBR⟩ := hrel
      obtain ⟨wB, hwB⟩ : ∃ wB : World, wB = wr := ⟨_, rfl⟩
      rw [← hwB] at HBR ⊢
      clear hwB
      have g0 := (blk_call GKE.out HBR.out).cell 0
      simp at g0
      by_cases hil : i < L.length
      · have hii : (i : Int) < (L.length : Int) := by omega
        obtain ⟨x, hx⟩ : ∃ x, L[i]? = some x := ⟨_, List.getElem?_eq_getElem hil⟩
        obtain ⟨hvx, hx3⟩ := HIF.out.vv x (List.mem_of_getElem? hx)
        have HX := Lib.hid hx
        have HVX := Lib.hid hvx
        clear hx hvx
        go_upto_region 19 with (fail)
        go_cut [70] from 57 to 151 (fun bv wc => bv = .bool (decide (i = 0) && !inn) ∧ Hid (Below wB.heap.size wB wc))
        case first =>
          by_cases h0 : i = 0
          · have e0 : ((i : Int) == 0) = true := by rw [beq_iff_eq]; omega
            have HD : Hid ((decide (i = 0) && !inn) = !inn) := Lib.hid (by rw [decide_eq_true h0]; simp)
            clear h0
            go_wp2_with fail
            refine (HIN.out wB (HTE.out.below HBR.out)).mono ?_
            rintro e w' ⟨rfl, hb⟩
            go_wp2_with fail
            go_meet
            exact ⟨by rw [HD.out], hb⟩
          · have e0 : ((i : Int) == 0) = false := by rw [beq_eq_false_iff_ne]; omega
            have HD : Hid ((decide (i = 0) && !inn) = false) := Lib.hid (by rw [decide_eq_false h0]; simp)
            clear h0
            go_wp2_with fail
            go_meet
            exact ⟨by rw [HD.out], Below.refl _ _⟩
        case rest =>
          obtain ⟨rfl, hbc⟩ := hcut
          obtain ⟨wC, hwC⟩ : ∃ wC : World, wC = wc := ⟨_, rfl⟩
          rw [← hwC] at hbc ⊢
          have HCC := Lib.hid (bw_call HBR.out hbc.out)
          clear hwC hbc g0 HBR
          by_cases hsk : i = 0 ∧ inn = false
          · have hd : (decide (i = 0) && !inn) = true := by rw [decide_eq_true hsk.1, hsk.2]; rfl
            rw [hd]
            have HF := Lib.hid hsk.2
            clear hd hsk
            go_wp2_with fail
            go_roundw
            case rel => exact ⟨i + 1, p, by omega, by omega, rfl, by go_num, Lib.hid (fun h => by rw [HF.out] at h; cases h), HCC⟩
            case measure => simp [intOf]; omega
          have hd : (decide (i = 0) && !inn) = false := by
            cases hi' : inn with
            | true => simp
            | false =>
              have : i ≠ 0 := fun e => hsk ⟨e, hi'⟩
              rw [decide_eq_false this]; rfl
          have hx2 : i ≠ 0 ∨ inn = true := by
            cases hi' : inn with
            | true => exact .inr rfl
            | false => exact .inl fun e => hsk ⟨e, hi'⟩
          obtain ⟨y, hy, hay⟩ := HIF.out.ahead i x HX.out hx2
          have hy3 := (HIF.out.vv y (List.mem_of_getElem? hy)).2
          rw [hd]
          obtain ⟨q, hq⟩ : ∃ q, q = (i + L.length - 1) % L.length := ⟨_, rfl⟩
          have hql : q < L.length := by rw [hq]; exact Nat.mod_lt _ (by omega)
          have hmod : Int.tmod ((i : Int) + (L.length : Int) - 1) (L.length : Int) = (q : Int) := by rw [hq, show ((i : Int) + (L.length : Int) - 1) = ((i + L.length - 1 : Nat) : Int) by omega]; rfl
          have HY' := Lib.hid hy
          rw [← hq] at hy
          have HY := Lib.hid hy
          have HAY := Lib.hid hay
          clear hd hx2 hsk hq hay hy
          have hzl : ∀ (W : World) (j z : Nat), Below wE.heap.size wE W → L[j]? = some z → ∃ ad, A' = some ad ∧ W.cell? (ad.add j) = some (.int .i64 (z : Int)) := fun W j z h hz => by
            obtain ⟨ad, u, e, _, hu, hc⟩ := ((HRE.out.below h).at_ (List.getElem?_eq_some_iff.1 hz).1)
            refine ⟨ad, e, ?_⟩
            rw [hc]
            unfold ZL ZN at hu
            rw [List.map_map, List.getElem?_map, hz] at hu
            exact hu.symm
          have HZL := Lib.hid hzl
          clear hzl
          have hqi : (q : Int) < (L.length : Int) := by omega
          have hwq : IntKind.i64.wrap (q : Int) = (q : Int) := IntWalk.i64_in _ (by omega)
          have hlz : ¬ (L.length : Int) = 0 := by omega
          have hln : ¬ L = [] := fun e => by rw [e] at hil; simp at hil
          have g0 := (blk_call GKE.out HCC.out).cell 0
          simp at g0
          obtain ⟨ad, rfl, y0⟩ := HZL.out _ _ _ HCC.out HY.out
          go_upto_region 20 with (fail)
          go_quiet (fail)
          go_upto_region 21 with (fail)
          generalize hnq : wC.drewN _ = wD
          have HCD : Hid (Below wE.heap.size wE wD) := hnq ▸ Lib.hid (below_drewN HCC.out _)
          clear hnq y0 g0 HCC hmod hwq
          have g0 := (blk_call GKE.out HCD.out).cell 0
          simp at g0
          obtain ⟨ad', e', x0⟩ := HZL.out _ _ _ HCD.out HX.out
          obtain rfl : ad = ad' := by injection e'
          clear e'
          obtain ⟨hk1, hk2, hk3⟩ := HKL.out
          have hxk : (x : Int) < (K.length : Int) := by omega
          have hyk : (y : Int) < (K.length : Int) := by omega
          have hx0' : ¬ (x : Int) < 0 := by omega
          have hy0' : ¬ (y : Int) < 0 := by omega
          clear hk1 hk2 hk3
          go_upto_region 23 with (fail)
          obtain ⟨kd, hkd, kq⟩ := (HKE.out.below HCD.out).cell (show x < K.length by omega)
          obtain ⟨kd', hkd', kq'⟩ := (HKE.out.below HCD.out).cell (show y < K.length by omega)
          have k0 := kq.c
          have k1 := kq'.c
          rw [hkd] at hkd'
          injection hkd' with hkd'
          subst hkd'
          subst hkd
          clear kq kq'
          by_cases hxy : kval K x = kval K y
          · have hxe : (kval K x == kval K y) = true := by rw [beq_iff_eq]; exact hxy
            have HPN : Hid (inn = true → PartsI (lastV K L) (curV K L (i + 1)) (p : Int)) := Lib.hid fun h => (HPI.out h).same (by rw [curV_next HX.out, curV_ahead HX.out HY'.out, hxy])
            clear hxy
            go_quiet (fail)
            go_wp2_with fail
            go_roundw
            case rel => exact ⟨i + 1, p, by omega, by omega, rfl, by go_num, HPN, Lib.hid (below_drewN HCD.out _)⟩
            case measure => simp [intOf]; omega
          · have hxe : (kval K x == kval K y) = false := by rw [beq_eq_false_iff_ne]; exact hxy
            have HPN : Hid (inn = true → PartsI (lastV K L) (curV K L (i + 1)) (((p + 1 : Nat)) : Int)) := Lib.hid fun h => by
              have := (HPI.out h).other (x := kval K x) (by rw [curV_ahead HX.out HY'.out]; exact hxy)
              rw [curV_next HX.out]
              exact this
            have hmm := HSM.out _ (seam_aft HTE.out.s HKL.out.2.1 HAY.out hxy)
            rw [HVX.out] at hmm
            obtain ⟨vb, hvb⟩ : ∃ vb, vb = cv T (nxc x) := ⟨_, rfl⟩
            rw [← hvb] at hmm
            have HMEM := Lib.hid hmm
            have HVB := Lib.hid hvb
            clear hxy hmm hvb
            go_quiet (fail)
            go_upto_region 25 with (fail)
            generalize hnq : wD.drewN _ = wF
            have HCF : Hid (Below wE.heap.size wE wF) := hnq ▸ Lib.hid (below_drewN HCD.out _)
            clear hnq g0 x0 k0 k1 HCD
            have g0 := (blk_call GKE.out HCF.out).cell 0
            simp at g0
            obtain ⟨ad', e', x0⟩ := HZL.out _ _ _ HCF.out HX.out
            obtain rfl : ad = ad' := by injection e'
            clear e'
            go_wp2_with fail
            refine ((HTE.out.below HCF.out).next hx3).mono ?_
            rintro e w7 ⟨rfl, hb⟩
            have HC7 := Lib.hid (bw_call HCF.out hb)
            clear hb g0 x0 HCF
            go_wp2_with fail
            refine ((HTE.out.below HC7.out).vertex (nxc_lt hx3)).mono ?_
            rintro e w8 ⟨rfl, hb⟩
            have HC8 := Lib.hid (bw_call HC7.out hb)
            rw [← HVB.out]
            clear hb HC7
            go_wp2_with fail
            go_loopw [17, 18] (fun nv iv wr => ∃ h : Nat, h ≤ S.length ∧ nv = .bool (decide ((min v vb, max v vb) ∈ S.take h)) ∧ iv = .int .i64 h ∧ Hid (Below wE.heap.size wE wr)) (fun _ iv _ => S.length - (intOf iv).toNat)
            case atStart => exact ⟨0, by omega, by simp, rfl, HC8⟩
            case round =>
              obtain ⟨h, hh, rfl, rfl, HBwH⟩ := hrel
              obtain ⟨wH, hwH⟩ : ∃ wH : World, wH = wr := ⟨_, rfl⟩
              rw [← hwH] at HBwH ⊢
              clear hwH HC8
              by_cases hlth : h < S.length
              · have hhi : (h : Int) < (S.length : Int) := by omega
                have hhe := List.getElem?_eq_getElem hlth
                have HST := Lib.hid (mem_step (e := (min v vb, max v vb)) hhe)
                obtain ⟨gy, hgy, hek⟩ := (HEE.out.below HBwH.out).ek hhe
                subst hgy
                have y0 := hek.c0
                have y1 := hek.c1
                clear hek hhe
                generalize S[h] = ey at HST y0 y1
                obtain ⟨x2, y2⟩ := ey
                simp only at HST y0 y1
                rw [← pair_eqB] at HST
                have heq := run_eq_ed3 x2 y2 (min v vb) (max v vb)
                rw [show (x2 == (min v vb) && y2 == (max v vb)) = ((min v vb) == x2 && (max v vb) == y2) by rw [Bool.beq_comm (a := x2), Bool.beq_comm (a := y2)]] at heq
                cases hin : decide ((min v vb, max v vb) ∈ S.take h) with
                | true =>
                  rw [hin] at HST
                  clear hin heq
                  go_wp2_with fail
                  exact ⟨⟨h + 1, by omega, by rw [HST.out]; rfl, by go_num, HBwH⟩, by simp [intOf]; omega⟩
                | false =>
                  rw [hin] at HST
                  rw [Bool.false_or] at HST
                  clear hin
                  generalize ((min v vb) == x2 && (max v vb) == y2) = bt at *
                  go_wp2_with fail
                  exact ⟨⟨h + 1, by omega, by rw [HST.out], by go_num, HBwH⟩, by simp [intOf]; omega⟩
              · obtain rfl : h = S.length := by omega
                have HIX : Hid (decide ((min v vb, max v vb) ∈ S.take S.length) = true) := Lib.hid (by rw [List.take_length]; exact decide_eq_true HMEM.out)
                rw [HIX.out]
                clear HIX
                go_wp2_with fail
                exact ⟨⟨i + 1, p + 1, by omega, by omega, by go_num, by go_num, HPN, HBwH⟩, by simp [intOf]; omega⟩
      · obtain rfl : L.length = i := by omega
        go_wp2_with fail
        refine (HIN.out wB (HTE.out.below HBR.out)).mono ?_
        rintro e w6 ⟨rfl, hb⟩
        have HB6' := Lib.hid (bw_call HBR.out hb)
        have GR6 := Lib.hid (blk_call GRE.out HB6'.out)
        have HK6 := Lib.hid (held_at HKD.out HB6'.out)
        have HW6 := Lib.hid (bw_call HBE.out HB6'.out)
        have hpe : inn = true → (p : Int) ≠ 1 := fun h => by have := HPI.out h; rw [curV_end] at this; exact this.end_
        have HPE := Lib.hid hpe
        clear hb HBR hpe
        have r0 := GR6.out.cell 0
        have r1 := GR6.out.frozen 0
        simp at r0
        cases inn with
        | false =>
          go_wp2_with fail
          refine ⟨by simp, .inl ⟨_, _, rfl, run_takeDeferred ((Below.heap_setCell _ _ _ D (fun e => hDr e)).trans HK6.out), ?_⟩⟩
          exact stops_end GR6.out HW6.out HK6.out hDr (by have := HGR.out; omega) (by have := HDw.out; omega) (by rfl)
        | true =>
          have hp1 : ((p : Int) != 1) = true := by rw [bne_iff_ne]; exact HPE.out rfl
          go_wp2_with fail
          refine ⟨by simp, .inl ⟨_, _, rfl, run_takeDeferred ((Below.heap_setCell _ _ _ D (fun e => hDr e)).trans HK6.out), ?_⟩⟩
          exact stops_end GR6.out HW6.out HK6.out hDr (by have := HGR.out; omega) (by have := HDw.out; omega) (by rfl)
  case stop =>
    rintro D c pre W _ _ h _
    exact h.elim
end Go.Proofs.Ytdpgbccgngdapaa
