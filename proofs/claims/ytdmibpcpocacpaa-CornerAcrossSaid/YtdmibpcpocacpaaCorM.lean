/- What a table tells, method by method. No condition but sizes. -/
import Derived.Test.YtdmibpcpocacpaaCorA
namespace Go.Proofs.Ytdmibpcpocacpaa
open Go.RowKit

set_option linter.unusedSimpArgs false
set_option linter.unusedVariables false
attribute [local irreducible] Blk LRow World.alloc World.setCell World.cell? World.frozen? MapV
theorem TabS.cells {w : World} {B g : Nat} {N : Int} {T : List Tri} (h : TabS w B g N T) : ∃ (A : Option Addr) (c : Nat), w.cell? ⟨g, 0, none⟩ = some (.int .i64 N) ∧ w.cell? ⟨g, 1, none⟩ = some (.slice A T.length c) ∧ LRow w B A c T := by
  obtain ⟨A, c, x2, x3, h1, h2⟩ := h.at_
  exact ⟨A, c, h1.cell 0, h1.cell 1, h2⟩
set_option maxHeartbeats 2000000 in
theorem has_any (g B : Nat) (N : Int) (T : List Tri) (x : Int) (w : World) (hT : T.length ≤ 8192) (h : TabS w B g N T) :
    Calls Try.prog 38 #[.pointer (some ⟨g, 0, none⟩), .int .i64 x] w (IsPost w (.bool (decide (isC T.length x)))) := by
  obtain ⟨A, c, t0, t1, hR⟩ := h.cells
  clear hR
  go_enter Try.func38, Try.ntmps38
  by_cases h0 : x < 0
  · rw [decide_eq_false (fun hc => by have := hc.1; omega)]
    go_wp2_with fail
    go_ret
    exact ⟨rfl, rfl⟩
  by_cases h1 : x < 3 * (T.length : Int)
  · rw [decide_eq_true (show isC T.length x from ⟨by omega, h1⟩)]
    go_wp2_with fail
    go_ret
    exact ⟨rfl, rfl⟩
  · rw [decide_eq_false (fun hc => h1 hc.2)]
    go_wp2_with fail
    go_ret
    exact ⟨rfl, rfl⟩
set_option maxHeartbeats 2000000 in
theorem turned1_any (k : Nat) (w : World) (hk : k < 100000) : Calls Try.prog 39 #[.int .i64 (k : Int), .int .i64 1] w (IsPost w (.int .i64 (nxc k : Int))) := by
  have e1 : Int.tmod (k : Int) 3 = ((k % 3 : Nat) : Int) := Int.ofNat_tmod k 3
  have e2 : Int.tmod ((k : Int) + 1) 3 = (((k + 1) % 3 : Nat) : Int) := Int.ofNat_tmod (k + 1) 3
  have e3 : ((nxc k : Nat) : Int) = (k : Int) - ((k % 3 : Nat) : Int) + (((k + 1) % 3 : Nat) : Int) := by unfold nxc; omega
  have h1 : k % 3 < 3 := Nat.mod_lt _ (by omega)
  have h2 : (k + 1) % 3 < 3 := Nat.mod_lt _ (by omega)
  rw [e3]
  clear e3
  generalize k % 3 = r1 at *
  generalize (k + 1) % 3 = r2 at *
  go_enter Try.func39, Try.ntmps39
  go_wp2_with fail
  go_ret
  exact ⟨rfl, rfl⟩
set_option maxHeartbeats 2000000 in
theorem turned2_any (k : Nat) (w : World) (hk : k < 100000) : Calls Try.prog 39 #[.int .i64 (k : Int), .int .i64 2] w (IsPost w (.int .i64 (pvc k : Int))) := by
  have e1 : Int.tmod (k : Int) 3 = ((k % 3 : Nat) : Int) := Int.ofNat_tmod k 3
  have e2 : Int.tmod ((k : Int) + 2) 3 = (((k + 2) % 3 : Nat) : Int) := Int.ofNat_tmod (k + 2) 3
  have e3 : ((pvc k : Nat) : Int) = (k : Int) - ((k % 3 : Nat) : Int) + (((k + 2) % 3 : Nat) : Int) := by unfold pvc; omega
  have h1 : k % 3 < 3 := Nat.mod_lt _ (by omega)
  have h2 : (k + 2) % 3 < 3 := Nat.mod_lt _ (by omega)
  rw [e3]
  clear e3
  generalize k % 3 = r1 at *
  generalize (k + 2) % 3 = r2 at *
  go_enter Try.func39, Try.ntmps39
  go_wp2_with fail
  go_ret
  exact ⟨rfl, rfl⟩
set_option maxHeartbeats 2000000 in
theorem next_any (g B : Nat) (N : Int) (T : List Tri) (x : Int) (w : World) (hT : T.length ≤ 8192) (h : TabS w B g N T) :
    Calls Try.prog 15 #[.pointer (some ⟨g, 0, none⟩), .int .i64 x] w (IsPost w (.int .i64 (nextI T.length x))) := by
  have HH := Lib.hid (has_any g B N T x w hT h)
  unfold nextI
  by_cases hc : isC T.length x
  · rw [if_pos hc]
    rw [decide_eq_true hc] at HH
    obtain ⟨k, rfl⟩ := Int.eq_ofNat_of_zero_le hc.1
    have hk : k < 100000 := by have := hc.2; omega
    clear hc
    go_enter Try.func15, Try.ntmps15
    go_wp2_with fail
    refine HH.out.mono ?_
    rintro e w' ⟨rfl, rfl⟩
    go_wp2_with fail
    refine (turned1_any k w' hk).mono ?_
    rintro e w2 ⟨rfl, rfl⟩
    go_wp2_with fail
    go_ret
    exact ⟨rfl, rfl⟩
  · rw [if_neg hc]
    rw [decide_eq_false hc] at HH
    clear hc
    go_enter Try.func15, Try.ntmps15
    go_wp2_with fail
    refine HH.out.mono ?_
    rintro e w' ⟨rfl, rfl⟩
    go_wp2_with fail
    go_ret
    exact ⟨rfl, rfl⟩
set_option maxHeartbeats 2000000 in
theorem prev_any (g B : Nat) (N : Int) (T : List Tri) (x : Int) (w : World) (hT : T.length ≤ 8192) (h : TabS w B g N T) :
    Calls Try.prog 16 #[.pointer (some ⟨g, 0, none⟩), .int .i64 x] w (IsPost w (.int .i64 (prevI T.length x))) := by
  have HH := Lib.hid (has_any g B N T x w hT h)
  unfold prevI
  by_cases hc : isC T.length x
  · rw [if_pos hc]
    rw [decide_eq_true hc] at HH
    obtain ⟨k, rfl⟩ := Int.eq_ofNat_of_zero_le hc.1
    have hk : k < 100000 := by have := hc.2; omega
    clear hc
    go_enter Try.func16, Try.ntmps16
    go_wp2_with fail
    refine HH.out.mono ?_
    rintro e w' ⟨rfl, rfl⟩
    go_wp2_with fail
    refine (turned2_any k w' hk).mono ?_
    rintro e w2 ⟨rfl, rfl⟩
    go_wp2_with fail
    go_ret
    exact ⟨rfl, rfl⟩
  · rw [if_neg hc]
    rw [decide_eq_false hc] at HH
    clear hc
    go_enter Try.func16, Try.ntmps16
    go_wp2_with fail
    refine HH.out.mono ?_
    rintro e w' ⟨rfl, rfl⟩
    go_wp2_with fail
    go_ret
    exact ⟨rfl, rfl⟩
set_option maxHeartbeats 2000000 in
theorem vertex_any (g B : Nat) (N : Int) (T : List Tri) (x : Int) (w : World) (hT : T.length ≤ 8192) (h : TabS w B g N T) :
    Calls Try.prog 14 #[.pointer (some ⟨g, 0, none⟩), .int .i64 x] w (IsPost w (.int .i64 (vertexI T x))) := by
  have HH := Lib.hid (has_any g B N T x w hT h)
  obtain ⟨A, c, t0, t1, hR⟩ := h.cells
  have HR := Lib.hid hR
  clear hR
  unfold vertexI
  by_cases hc : isC T.length x
  · rw [if_pos hc]
    rw [decide_eq_true hc] at HH
    obtain ⟨k, rfl⟩ := Int.eq_ofNat_of_zero_le hc.1
    have hk3 : k / 3 < T.length := by have := hc.2; omega
    clear hc
    rw [show ((k : Int)).toNat = k from rfl]
    obtain ⟨ad, t, rfl, ht, _, hadb, hc3⟩ := HR.out.tris.at_ hk3
    unfold cv
    rw [tri_of ht]
    obtain ⟨d0, d1, d2, d3, d4, d5⟩ := hc3
    have e1 : Int.tmod (k : Int) 3 = ((k % 3 : Nat) : Int) := Int.ofNat_tmod k 3
    have e2 : Int.tdiv (k : Int) 3 = ((k / 3 : Nat) : Int) := Int.ofNat_tdiv k 3
    have h1 : k % 3 < 3 := Nat.mod_lt _ (by omega)
    clear ht hadb
    generalize k % 3 = r at *
    generalize k / 3 = q at *
    have hq0 : (0 : Int) ≤ (q : Int) := by omega
    have hq1 : (q : Int) < (T.length : Int) := by omega
    rcases (by omega : r = 0 ∨ r = 1 ∨ r = 2) with rfl | rfl | rfl
    · replace e1 : Int.tmod (k : Int) 3 = 0 := e1
      rw [show cornerT t 0 = t.a from rfl]
      go_enter Try.func14, Try.ntmps14
      go_wp2_with fail
      refine HH.out.mono ?_
      rintro e w' ⟨rfl, rfl⟩
      go_wp2_with fail
      go_ret
      exact ⟨rfl, rfl⟩
    · replace e1 : Int.tmod (k : Int) 3 = 1 := e1
      rw [show cornerT t 1 = t.b from rfl]
      go_enter Try.func14, Try.ntmps14
      go_wp2_with fail
      refine HH.out.mono ?_
      rintro e w' ⟨rfl, rfl⟩
      go_wp2_with fail
      go_ret
      exact ⟨rfl, rfl⟩
    · replace e1 : Int.tmod (k : Int) 3 = 2 := e1
      rw [show cornerT t 2 = t.c from rfl]
      go_enter Try.func14, Try.ntmps14
      go_wp2_with fail
      refine HH.out.mono ?_
      rintro e w' ⟨rfl, rfl⟩
      go_wp2_with fail
      go_ret
      exact ⟨rfl, rfl⟩
  · rw [if_neg hc]
    rw [decide_eq_false hc] at HH
    clear hc
    go_enter Try.func14, Try.ntmps14
    go_wp2_with fail
    refine HH.out.mono ?_
    rintro e w' ⟨rfl, rfl⟩
    go_wp2_with fail
    go_ret
    exact ⟨rfl, rfl⟩
set_option maxRecDepth 100000 in
set_option maxHeartbeats 4000000 in
theorem edge_any (g B : Nat) (N : Int) (T : List Tri) (x : Int) (w : World) (hT : T.length ≤ 8192) (h : TabS w B g N T) :
    Calls Try.prog 18 #[.pointer (some ⟨g, 0, none⟩), .int .i64 x] w (EdPost w (edgeI T x)) := by
  obtain ⟨V, hV⟩ : ∃ V, V = w.alloc (.cells #[.int .i64 0, .int .i64 0] 31) := ⟨_, rfl⟩
  have GV : Hid (Blk V w.heap.size 31 #[.int .i64 0, .int .i64 0]) := by subst hV; exact Lib.hid (Blk.new _ _ _)
  have HV : Hid (TabS V B g N T) := by subst hV; exact Lib.hid (h.alloc _)
  have HB : Hid (Below w.heap.size w V) := by subst hV; exact Lib.hid (bw_alloc (Below.refl _ _) _)
  clear h
  obtain ⟨a, ha⟩ : ∃ a, vertexI T (nextI T.length x) = a := ⟨_, rfl⟩
  obtain ⟨b, hb⟩ : ∃ b, vertexI T (prevI T.length x) = b := ⟨_, rfl⟩
  rw [show edgeI T x = (a, b) by unfold edgeI; rw [ha, hb]]
  have HVA := Lib.hid (vertex_any g B N T (nextI T.length x) V hT HV.out)
  have HVB := Lib.hid (vertex_any g B N T (prevI T.length x) V hT HV.out)
  rw [ha] at HVA
  rw [hb] at HVB
  clear ha hb
  go_enter Try.func18, Try.ntmps18
  go_upto_region 1 with (fail)
  rw [← hV]
  clear hV
  obtain ⟨ge, hge⟩ : ∃ ge, ge = w.heap.size := ⟨_, rfl⟩
  have HGE : Hid (w.heap.size ≤ ge) := Lib.hid (by omega)
  rw [← hge] at GV
  simp only [← hge]
  clear hge
  go_wp2_with fail
  refine (next_any g B N T x V hT HV.out).mono ?_
  rintro e w' ⟨rfl, rfl⟩
  go_wp2_with fail
  refine HVA.out.mono ?_
  rintro e w2 ⟨rfl, rfl⟩
  go_wp2_with fail
  refine (prev_any g B N T x w2 hT HV.out).mono ?_
  rintro e w3 ⟨rfl, rfl⟩
  go_wp2_with fail
  refine HVB.out.mono ?_
  rintro e w4 ⟨rfl, rfl⟩
  obtain ⟨f0, f1, f2, f3⟩ := edge_facts GV.out
  go_wp2_with fail
  obtain ⟨g0, g1, _, _⟩ := edge_facts (edge_set GV.out (.int .i64 a) (.int .i64 b))
  refine bodyPost_ret (v := .agg #[.int .i64 a, .int .i64 b]) ?_ rfl ⟨rfl, bw_set (bw_set HB.out HGE.out _) HGE.out _⟩
  simp [results, Try.results18, go_sem, g0, g1]
theorem TabAt.cells {w : World} {B g : Nat} {N : Int} {T : List Tri} (h : TabAt w B g N T) : ∃ (A : Option Addr) (c b n gf m : Nat) (L : List Int), w.cell? ⟨g, 0, none⟩ = some (.int .i64 N) ∧ w.cell? ⟨g, 1, none⟩ = some (.slice A T.length c) ∧ w.cell? ⟨g, 2, none⟩ = some (.map (some b)) ∧ w.cell? ⟨g, 3, none⟩ = some (.slice (some ⟨gf, 0, none⟩) m m) ∧
    LRow w B A c T ∧ MapV Try.prog 31 w b n (facesV T 0) ∧ Blk w gf 3 (ints L) ∧ N = (m : Int) ∧ L.length = m ∧ ∀ v, v < m → L[v]? = some (optI (cornerF T (v : Int))) := by
  obtain ⟨A, c, b, n, gf, m, L, h1, h2, h3, h4, h5, h6, h7, h8, h9, h10⟩ := h.at_
  exact ⟨A, c, b, n, gf, m, L, h1.cell 0, h1.cell 1, h1.cell 2, h1.cell 3, h5, h6, h7, h8, h9, h10⟩
theorem look_face {w : World} {b n : Nat} {T : List Tri} (h : MapV Try.prog 31 w b n (facesV T 0)) {x y : Int} (hw : wfE (x, y)) :
    (Instr.lookup 59 (.map (some b)) (.agg #[.int .i64 x, .int .i64 y]) true).run Try.prog w = .ok (.tuple #[.int .i64 (((facingF T (x, y)).map fun c : Nat => (c : Int)).getD 0), .bool (facingF T (x, y)).isSome]) w := by
  obtain ⟨l, hl⟩ := keyE hw
  have hz : ∀ w, (zeroValue 3).run Try.prog w = .ok (.int .i64 0) w := by intro w; kernel_rfl
  have h1 := h.look keyedE Try.underlying59 (hz w) hl true
  rw [facesV_zero] at h1
  cases hf : facingF T (x, y) with
  | none => rw [hf] at h1; exact h1
  | some c => rw [hf] at h1; exact h1
set_option maxRecDepth 100000 in
set_option maxHeartbeats 4000000 in
theorem facing_any (g B : Nat) (N : Int) (T : List Tri) (x y : Int) (w : World) (hT : T.length ≤ 8192) (hw : wfE (x, y)) (h : TabAt w B g N T) :
    Calls Try.prog 24 #[.pointer (some ⟨g, 0, none⟩), .agg #[.int .i64 x, .int .i64 y]] w (IntPost w (facingI T (x, y))) := by
  obtain ⟨V, hV⟩ : ∃ V, V = w.alloc (.cells #[.int .i64 x, .int .i64 y] 31) := ⟨_, rfl⟩
  have GV : Hid (Blk V w.heap.size 31 #[.int .i64 x, .int .i64 y]) := by subst hV; exact Lib.hid (Blk.new _ _ _)
  have HV : Hid (TabAt V B g N T) := by subst hV; exact Lib.hid (h.alloc _)
  have HB : Hid (Below w.heap.size w V) := by subst hV; exact Lib.hid (bw_alloc (Below.refl _ _) _)
  clear h
  obtain ⟨A, c, b, n, gf, m, L, t0, t1, t2, t3, hR, hM, hF, hN, hL, hVV⟩ := HV.out.cells
  have hlk := fun k => look_face (hM.drewN k) hw
  clear hR hM hF hN hL hVV
  unfold facingI
  generalize facingF T (x, y) = r at *
  cases r with
  | none =>
    simp only [Option.map_none, Option.getD_none, Option.isSome_none] at hlk
    go_enter Try.func24, Try.ntmps24
    go_upto_region 3 with (fail)
    rw [← hV]
    clear hV
    generalize w.heap.size = ge at GV ⊢
    obtain ⟨g0, g1, _, _⟩ := edge_facts GV.out
    go_quiet (fail)
    go_wp2_with fail
    go_ret
    exact ⟨rfl, below_drewN HB.out _⟩
  | some q =>
    simp only [Option.map_some, Option.getD_some, Option.isSome_some] at hlk
    go_enter Try.func24, Try.ntmps24
    go_upto_region 3 with (fail)
    rw [← hV]
    clear hV
    generalize w.heap.size = ge at GV ⊢
    obtain ⟨g0, g1, _, _⟩ := edge_facts GV.out
    go_quiet (fail)
    go_wp2_with fail
    go_ret
    exact ⟨rfl, below_drewN HB.out _⟩
set_option maxRecDepth 100000 in
set_option maxHeartbeats 4000000 in
theorem opp_any (g B : Nat) (N : Int) (T : List Tri) (x : Int) (w : World) (hT : T.length ≤ 8192) (hw : wfE ((edgeI T x).2, (edgeI T x).1)) (h : TabAt w B g N T) :
    Calls Try.prog 17 #[.pointer (some ⟨g, 0, none⟩), .int .i64 x] w (IntPost w (oppI T x)) := by
  have HED := Lib.hid (edge_any g B N T x w hT h.s)
  have HH := Lib.hid h
  have HWF := Lib.hid hw
  clear h hw
  unfold oppI
  obtain ⟨E, hE⟩ : ∃ E, edgeI T x = E := ⟨_, rfl⟩
  rw [hE] at HED HWF ⊢
  clear hE
  obtain ⟨a, b⟩ := E
  go_enter Try.func17, Try.ntmps17
  go_wp2_with fail
  refine HED.out.mono ?_
  rintro e w1 ⟨rfl, hb⟩
  have HT1 := Lib.hid (HH.out.below hb)
  have HB1 := Lib.hid hb
  clear hb HED HH
  obtain ⟨V, hV⟩ : ∃ V, V = w1.alloc (.cells #[.int .i64 a, .int .i64 b] 31) := ⟨_, rfl⟩
  have GV : Hid (Blk V w1.heap.size 31 #[.int .i64 a, .int .i64 b]) := by subst hV; exact Lib.hid (Blk.new _ _ _)
  have HV : Hid (TabAt V B g N T) := by subst hV; exact Lib.hid (HT1.out.alloc _)
  have HB : Hid (Below w.heap.size w V) := by subst hV; exact Lib.hid (bw_alloc HB1.out _)
  go_upto_region 2 with (fail)
  rw [← hV]
  clear hV
  generalize w1.heap.size = ge at GV ⊢
  obtain ⟨g0, g1, _, _⟩ := edge_facts GV.out
  go_wp2_with fail
  refine (facing_any g B N T b a V hT HWF.out HV.out).mono ?_
  rintro e w2 ⟨rfl, hb⟩
  have HB2 := Lib.hid (bw_call HB.out hb)
  clear hb
  go_wp2_with fail
  go_ret
  exact ⟨rfl, HB2.out⟩
set_option maxHeartbeats 4000000 in
theorem corner_any (g B : Nat) (m : Nat) (T : List Tri) (v : Int) (w : World) (hm : m ≤ 4096) (h : TabAt w B g (m : Int) T) :
    Calls Try.prog 26 #[.pointer (some ⟨g, 0, none⟩), .int .i64 v] w (IsPost w (.int .i64 (cornerI T m v))) := by
  obtain ⟨A, c, b, n, gf, m', L, t0, t1, t2, t3, hR, hM, hF, hN, hL, hV⟩ := h.cells
  obtain rfl : m = m' := by omega
  unfold cornerI
  by_cases h0 : v < 0
  · rw [if_neg (by omega)]
    clear hR hM hF hN hL hV h
    go_enter Try.func26, Try.ntmps26
    go_wp2_with fail
    go_ret
    exact ⟨rfl, rfl⟩
  by_cases h1 : (m : Int) ≤ v
  · rw [if_neg (by omega)]
    clear hR hM hF hN hL hV h
    go_enter Try.func26, Try.ntmps26
    go_wp2_with fail
    go_ret
    exact ⟨rfl, rfl⟩
  rw [if_pos (by omega)]
  obtain ⟨k, rfl⟩ := Int.eq_ofNat_of_zero_le (show 0 ≤ v by omega)
  have hk : k < m := by omega
  have q0 := hF.cell k
  rw [ints_at (hV k hk)] at q0
  generalize optI (cornerF T (k : Int)) = r at *
  clear hR hM hF hN hL hV h
  go_enter Try.func26, Try.ntmps26
  go_wp2_with fail
  go_ret
  exact ⟨rfl, rfl⟩
set_option maxHeartbeats 2000000 in
theorem tris_any (g B : Nat) (N : Int) (T : List Tri) (w : World) (h : TabS w B g N T) :
    Calls Try.prog 28 #[.pointer (some ⟨g, 0, none⟩)] w (IsPost w (.int .i64 T.length)) := by
  obtain ⟨A, c, t0, t1, hR⟩ := h.cells
  clear hR
  go_enter Try.func28, Try.ntmps28
  go_wp2_with fail
  go_ret
  exact ⟨rfl, rfl⟩
set_option maxHeartbeats 2000000 in
theorem verts_any (g B : Nat) (N : Int) (T : List Tri) (w : World) (h : TabS w B g N T) :
    Calls Try.prog 35 #[.pointer (some ⟨g, 0, none⟩)] w (IsPost w (.int .i64 N)) := by
  obtain ⟨A, c, t0, t1, hR⟩ := h.cells
  clear hR
  go_enter Try.func35, Try.ntmps35
  go_wp2_with fail
  go_ret
  exact ⟨rfl, rfl⟩
end Go.Proofs.Ytdmibpcpocacpaa
