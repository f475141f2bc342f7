/- corner.New, walked. No condition but the size. -/
import Derived.Test.YtdmibpcpocacpaaCorN
import Derived.Test.YtdmibpcpocacpaaTill
import Derived.Test.YtdmibpcpocacpaaCheck
import Derived.Deep.CutBlock
import Derived.Deep.LoopGhost
namespace Go.Proofs.Ytdmibpcpocacpaa
open Go.RowKit

set_option linter.unusedSimpArgs false
set_option linter.unusedVariables false
/-- What New tells: a table of a surface, else the witness. -/
def NewPost (w : World) (N : Int) (T : List Tri) (e : Ending) (w' : World) : Prop :=
  (checkR N T = (0, 0, 0) ∧ ∃ g, e = .returned (.tuple #[.pointer (some ⟨g, 0, none⟩), wv (0, 0, 0)]) ∧ TabAt w' w.heap.size g N T ∧ Below w.heap.size w w') ∨
  (checkR N T ≠ (0, 0, 0) ∧ e = .returned (.tuple #[.pointer none, wv (checkR N T)]) ∧ Below w.heap.size w w')
theorem new_yes {w w' : World} {N : Int} {T : List Tri} {g : Nat} (h : checkR N T = (0, 0, 0)) (ht : TabAt w' w.heap.size g N T) (hb : Below w.heap.size w w') : NewPost w N T (.returned (.tuple #[.pointer (some ⟨g, 0, none⟩), .agg #[.int .i64 0, .int .i64 0, .int .i64 0]])) w' := Or.inl ⟨h, g, rfl, ht, hb⟩
theorem new_no {w w' : World} {N k a b : Int} {T : List Tri} (h : checkR N T ≠ (0, 0, 0)) (hx : checkR N T = (k, a, b)) (hb : Below w.heap.size w w') : NewPost w N T (.returned (.tuple #[.pointer none, .agg #[.int .i64 k, .int .i64 a, .int .i64 b]])) w' := Or.inr ⟨h, by rw [hx]; rfl, hb⟩
theorem int_infoC : (Try.prog.info? 3).map (fun i => (i.zero, i.size, i.bytes)) = some (some (.int .i64 0), 1, 8) := by kernel_rfl
theorem wit_facts {w : World} {g : Nat} {x y z : Value} (h : Blk w g 41 #[x, y, z]) : w.cell? ⟨g, 0, none⟩ = some x ∧ w.cell? ⟨g, 1, none⟩ = some y ∧ w.cell? ⟨g, 2, none⟩ = some z ∧ w.frozen? ⟨g, 0, none⟩ = false ∧ w.frozen? ⟨g, 1, none⟩ = false ∧ w.frozen? ⟨g, 2, none⟩ = false :=
  ⟨h.cell 0, h.cell 1, h.cell 2, h.frozen 0, h.frozen 1, h.frozen 2⟩
theorem wit_set {w : World} {g : Nat} {x y z : Value} (h : Blk w g 41 #[x, y, z]) (u v t : Value) : Blk (((w.setCell ⟨g, 0, none⟩ u).setCell ⟨g, 1, none⟩ v).setCell ⟨g, 2, none⟩ t) g 41 #[u, v, t] := by
  simpa using ((h.set_ 0 u).set_ 1 v).set_ 2 t
theorem checkR_zero {N : Int} {T : List Tri} (h : (checkR N T).1 = 0) : refAll N T = [] ∧ checkR N T = (0, 0, 0) := by
  cases e : refAll N T with
  | nil => exact ⟨rfl, by unfold checkR; rw [e]; rfl⟩
  | cons x l =>
    have h1 := ref_kind (N := N) (T := T) (x := x) (by rw [e]; exact List.mem_cons_self ..)
    unfold checkR at h
    rw [e] at h
    have h2 : x.1 = 0 := h
    omega
theorem cv_ok {m : Nat} {T : List Tri} (h : ∀ t ∈ T, TriOk m t) {c : Nat} (hc : c < 3 * T.length) : 0 ≤ cv T c ∧ cv T c < m := by
  have hq : c / 3 < T.length := by omega
  have ht : tri T (c / 3) ∈ T := by
    rw [tri_of (List.getElem?_eq_getElem hq)]
    exact List.getElem_mem hq
  have h1 := h _ ht
  unfold cv cornerT
  split
  · exact ⟨h1.a0, h1.a1⟩
  · split
    · exact ⟨h1.b0, h1.b1⟩
    · exact ⟨h1.c0, h1.c1⟩
theorem wf_small {x : Int} (h0 : -1 ≤ x) (h1 : x < 100000) : (Lit.int .i64 x).wf = true := WalkArith.wf_i64 (by omega)
/-- The faces' map while it grows. -/
def MapW (w : World) (b n : Nat) (T : List Tri) (k : Nat) : Prop := MapV Try.prog 31 w b n (facesV T k)
theorem MapW.below {w w' : World} {b n : Nat} {T : List Tri} {k : Nat} (h : MapW w b n T k) (hb : Below w.heap.size w w') : MapW w' b n T k := MapV.below h hb (MapV.lt h)
theorem MapW.drew {w : World} {b n : Nat} {T : List Tri} {k : Nat} (h : MapW w b n T k) : MapW w.drew b n T k := MapV.drew h
theorem MapW.store {w : World} {b n : Nat} {T : List Tri} {k : Nat} (h : MapW w b n T (k + 1)) (hk : k < 3 * T.length) (hn : n < maxLen) (hw : wfE (ce T k)) :
    ∃ es cl, (Instr.mapUpdate 59 (.map (some b)) (.agg #[.int .i64 (ce T k).1, .int .i64 (ce T k).2]) (.int .i64 (k : Int))).run Try.prog w = .ok () (ChangeMaps.setBlock w b (.map es cl)) ∧ ∃ n', n' ≤ n + 1 ∧ MapW (ChangeMaps.setBlock w b (.map es cl)) b n' T k := by
  obtain ⟨l, hl⟩ := keyE hw
  obtain ⟨es, cl, h1, h2⟩ := MapV.store h keyedE Try.underlying59 hn hl (.int .i64 (k : Int))
  rw [facesV_step hk] at h2
  exact ⟨es, cl, h1, _, by split <;> omega, h2⟩
theorem MapW.set {w : World} {b n : Nat} {T : List Tri} {k : Nat} (h : MapW w b n T k) {p : Addr} {u0 : Value} (hp : w.cell? p = some u0) (u : Value) : MapW (w.setCell p u) b n T k := MapV.setCell h hp u
theorem LRow.setBlock {w : World} {B : Nat} {A : Option Addr} {c b n : Nat} {L T : List Tri} {k : Nat} (h : LRow w B A c L) (hm : MapW w b n T k) (o : Obj) : LRow (ChangeMaps.setBlock w b o) B A c L := by
  refine own_same h fun j hj => heap_setBlock_ne w b o fun e => ?_
  obtain ⟨cs, hb⟩ := own_blk h hj
  exact MapV.ne_blk hm hb e.symm
theorem LRow.setInt {w : World} {B : Nat} {A : Option Addr} {c g i : Nat} {L : List Tri} {cs : Array Value} (h : LRow w B A c L) (hb : Blk w g 3 cs) (u : Value) : LRow (w.setCell ⟨g, i, none⟩ u) B A c L := by
  refine own_same h fun k hk => ?_
  obtain ⟨ds, hd⟩ := own_blk h hk
  exact Below.heap_setCell _ _ _ _ (hd.ne_ hb (by decide))
theorem bw_setBlock {a w : World} {b : Nat} (h : Below a.heap.size a w) (hb : a.heap.size ≤ b) (o : Obj) : Below a.heap.size a (ChangeMaps.setBlock w b o) :=
  ⟨h.os, h.tape, h.output, by simpa [ChangeMaps.setBlock] using h.size, fun i hi => (heap_setBlock_ne w b o (by omega)).trans (h.block i hi)⟩
/-- The least corners while they are entered. -/
def firstV (T : List Tri) (k : Nat) (v : Nat) : Int := ((leastF (fun c => decide (cv T c = (v : Int))) k (3 * T.length - k)).map fun c : Nat => (c : Int)).getD 0
theorem firstV_end (T : List Tri) (v : Nat) : firstV T (3 * T.length) v = 0 := by
  unfold firstV
  rw [Nat.sub_self]
  rfl
theorem firstV_step {T : List Tri} {k : Nat} (h : k < 3 * T.length) (v : Nat) : firstV T k v = if cv T k = (v : Int) then (k : Int) else firstV T (k + 1) v := by
  unfold firstV
  rw [leastF_step h]
  by_cases e : cv T k = (v : Int)
  · simp [e]
  · simp [e]
theorem firstV_zero {T : List Tri} {v : Nat} (h : usedTo T T.length v = true) : firstV T 0 v = optI (cornerF T (v : Int)) := by
  unfold firstV cornerF
  rw [Nat.sub_zero]
  cases e : leastF (fun c => decide (cv T c = (v : Int))) 0 (3 * T.length) with
  | some c => rfl
  | none =>
    exfalso
    have hn := leastF_none e
    unfold usedTo at h
    rw [List.take_length, List.any_eq_true] at h
    obtain ⟨t, ht, hv⟩ := h
    obtain ⟨i, hi, rfl⟩ := List.mem_iff_getElem.1 ht
    have hti : tri T i = T[i] := tri_of (List.getElem?_eq_getElem hi)
    unfold hasV at hv
    simp only [Bool.or_eq_true, beq_iff_eq] at hv
    have key : ∀ r, r < 3 → cornerT T[i] r ≠ (v : Int) := fun r hr he => by
      have h2 := hn (3 * i + r) (by omega) (by omega)
      unfold cv at h2
      rw [show (3 * i + r) / 3 = i by omega, show (3 * i + r) % 3 = r by omega, hti] at h2
      simp [he] at h2
    rcases hv with (hv | hv) | hv
    · exact key 0 (by omega) hv
    · exact key 1 (by omega) hv
    · exact key 2 (by omega) hv
theorem tab_facts {w : World} {g : Nat} {x0 x1 x2 x3 : Value} (h : Blk w g 61 #[x0, x1, x2, x3]) : w.cell? ⟨g, 0, none⟩ = some x0 ∧ w.cell? ⟨g, 1, none⟩ = some x1 ∧ w.cell? ⟨g, 2, none⟩ = some x2 ∧ w.cell? ⟨g, 3, none⟩ = some x3 := ⟨h.cell 0, h.cell 1, h.cell 2, h.cell 3⟩
theorem ints_cell {w : World} {g : Nat} {L : List Int} (h : Blk w g 3 (ints L)) {k : Nat} (hk : k < L.length) : w.cell? ⟨g, k, none⟩ = some (.int .i64 (L.getD k 0)) := by
  rw [h.cell]
  exact ints_at (by rw [List.getD_eq_getElem?_getD, List.getElem?_eq_getElem hk]; rfl)
theorem MapW.start {w : World} {b : Nat} {T : List Tri} (h : MapV Try.prog 31 w b 0 (fun _ => none)) : MapW w b 0 T (3 * T.length) := MapV.congr h (fun x => by rw [facesV_end])
theorem MapW.out {w : World} {b n : Nat} {T : List Tri} (h : MapW w b n T 0) : MapV Try.prog 31 w b n (facesV T 0) := h
theorem MapW.ne_blk {w : World} {b n : Nat} {T : List Tri} {k g : Nat} {t : TypeId} {cs : Array Value} (h : MapW w b n T k) (hg : Blk w g t cs) : g ≠ b := (MapV.ne_blk h hg).symm
theorem LRow.setWit {w : World} {B : Nat} {A : Option Addr} {c g i : Nat} {L : List Tri} {cs : Array Value} (h : LRow w B A c L) (hb : Blk w g 41 cs) (u : Value) : LRow (w.setCell ⟨g, i, none⟩ u) B A c L := by
  refine own_same h fun k hk => ?_
  obtain ⟨ds, hd⟩ := own_blk h hk
  exact Below.heap_setCell _ _ _ _ (hd.ne_ hb (by decide))
/-- A table stays while another kind of block is written. -/
theorem tab_wit {w : World} {B gt gm q gi gr m : Nat} {A : Option Addr} {c : Nat} {T : List Tri} {L : List Int} {x y z : Value} (hg : Blk w gt 61 #[.int .i64 (m : Int), .slice A T.length c, .map (some gm), .slice (some ⟨gi, 0, none⟩) m m]) (hm : MapW w gm q T 0) (hi : Blk w gi 3 (ints L)) (hr : LRow w B A c T)
    (hw : Blk w gr 41 #[x, y, z]) (h1 : B ≤ gt) (h2 : B ≤ gm) (h3 : B ≤ gi) (hl : L.length = m) (hv : ∀ v, v < m → L[v]? = some (optI (cornerF T (v : Int)))) (u v t : Value) :
    TabAt (((w.setCell ⟨gr, 0, none⟩ u).setCell ⟨gr, 1, none⟩ v).setCell ⟨gr, 2, none⟩ t) B gt m T := by
  have n1 : gt ≠ gr := hg.ne_ hw (by decide)
  have n2 : gi ≠ gr := hi.ne_ hw (by decide)
  have w1 := hw.set_ 0 u
  have w2 := w1.set_ 1 v
  refine ⟨A, c, gm, q, gi, m, L, ((hg.far n1 _).far n1 _).far n1 _, h1, h2, h3, ((hr.setWit hw _).setWit w1 _).setWit w2 _, ?_, ((hi.far n2 _).far n2 _).far n2 _, rfl, hl, hv⟩
  exact (((hm.set (p := ⟨gr, 0, none⟩) (hw.cell 0) u).set (p := ⟨gr, 1, none⟩) (u0 := y) (by rw [w1.cell]; simp) v).set (p := ⟨gr, 2, none⟩) (u0 := z) (by rw [w2.cell]; simp) t).out
attribute [local irreducible] MapW
attribute [local irreducible] Blk LRow World.alloc World.setCell World.cell? World.frozen? MapV
set_option maxRecDepth 100000 in
set_option maxHeartbeats 8000000 in
theorem new_any (N : Int) (A : Option Addr) (n c : Nat) (T : List Tri) (w : World) (hn : n ≤ 1000) (ht : TrisAt w w.heap.size A n T) :
    Calls Try.prog 29 #[.agg #[.int .i64 N, .slice A n c]] w (NewPost w N T) := by
  obtain rfl : n = T.length := ht.len.symm
  have HT := Lib.hid ht
  clear ht
  obtain ⟨i1, hii, hy0, hy1, hy2⟩ := info_parts int_infoC
  have hmm := @run_makeMap Try.prog
  go_enter Try.func29, Try.ntmps29
  go_upto_region 1 with (fail)
  obtain ⟨V, hV⟩ : ∃ V, V = (w.alloc (.cells #[.int .i64 N, .slice A T.length c] 24)).alloc (.cells #[.int .i64 0, .int .i64 0, .int .i64 0] 41) := ⟨_, rfl⟩
  have GA0 : Hid (Blk V w.heap.size 24 #[.int .i64 N, .slice A T.length c]) := by subst hV; exact Lib.hid ((Blk.new _ _ _).alloc _)
  have GR0 : Hid (Blk V (w.heap.size + 1) 41 #[.int .i64 0, .int .i64 0, .int .i64 0]) := by subst hV; exact Lib.hid (blk_new1 _ _ _ _)
  have HB0 : Hid (Below w.heap.size w V) := by subst hV; exact Lib.hid (bw_alloc (bw_alloc (Below.refl _ _) _) _)
  rw [← hV]
  clear hV
  obtain ⟨ga, hga⟩ : ∃ g, g = w.heap.size := ⟨_, rfl⟩
  obtain ⟨gr, hgr⟩ : ∃ g, g = w.heap.size + 1 := ⟨_, rfl⟩
  have HGR : Hid (w.heap.size ≤ gr ∧ ga ≠ gr) := Lib.hid ⟨by omega, by omega⟩
  rw [← hgr] at GR0 ⊢
  rw [← hga] at GA0
  simp only [← hga]
  clear hga hgr
  obtain ⟨s0, s1, _, _, _⟩ := soup_facts GA0.out
  go_wp2_with fail
  refine (check_any N A T.length c T V (by omega) ((HT.out.below HB0.out).more HB0.out.size)).mono ?_
  rintro e w3 ⟨rfl, hb⟩
  have GA3 := Lib.hid (blk_call GA0.out hb)
  have GR3 := Lib.hid (blk_call GR0.out hb)
  have HB3 := Lib.hid (bw_call HB0.out hb)
  clear hb GA0 GR0 HB0 s0 s1
  obtain ⟨x, HX⟩ : ∃ x, Hid (checkR N T = x) := ⟨_, Lib.hid rfl⟩
  have HKS := Lib.hid (@checkR_zero N T)
  rw [HX.out] at HKS ⊢
  obtain ⟨k, a, b⟩ := x
  unfold wv
  simp only
  obtain ⟨w5, hw5⟩ : ∃ w5, w5 = w3.alloc (.cells #[.int .i64 k, .int .i64 a, .int .i64 b] 41) := ⟨_, rfl⟩
  have GWw5 : Hid (Blk w5 w3.heap.size 41 #[.int .i64 k, .int .i64 a, .int .i64 b]) := by subst hw5; exact Lib.hid (Blk.new _ _ _)
  have GAw5 : Hid (Blk w5 ga 24 #[.int .i64 N, .slice A T.length c]) := by subst hw5; exact Lib.hid (GA3.out.alloc _)
  have GRw5 : Hid (Blk w5 gr 41 #[.int .i64 0, .int .i64 0, .int .i64 0]) := by subst hw5; exact Lib.hid (GR3.out.alloc _)
  have HBw5 : Hid (Below w.heap.size w w5) := by subst hw5; exact Lib.hid (bw_alloc HB3.out _)
  go_upto_region 2 with (fail)
  rw [← hw5]
  generalize w3.heap.size = gw at *
  clear hw5 GA3 GR3 HB3
  obtain ⟨x0, x1, x2, _, _, _⟩ := wit_facts GWw5.out
  by_cases hk : k = 0
  · subst hk
    obtain ⟨hnil, h00⟩ := HKS.out rfl
    cases h00
    obtain ⟨m, hs⟩ := surf_of hnil
    obtain rfl : N = (m : Int) := hs.n
    have hm1 := hs.m1
    have hT8 : T.length ≤ 8192 := hs.t1
    have HOK := Lib.hid hs.ok
    have HUS := Lib.hid hs.used
    clear hs hnil HKS
    have hmk := fun W => run_make_rowN (P := Try.prog) 52 3 i1 (.int .i64 0) Try.underlying52 hii hy0 .i64 .i64 m m (Nat.le_refl _) (by rw [hy2]; omega) (by omega) W
    rw [hy1, Nat.mul_one, madeInts] at hmk
    go_upto_region 4 with (fail)
    clear GWw5 x0 x1 x2
    go_cut [5] (fun tv wx => ∃ (gt gm gi : Nat) (A1 : Option Addr) (c1 : Nat), tv = .pointer (some ⟨gt, 0, none⟩) ∧ Hid (Blk wx gt 61 #[.int .i64 (m : Int), .slice A1 T.length c1, .map (some gm), .slice (some ⟨gi, 0, none⟩) m m]) ∧ Hid (MapV Try.prog 31 wx gm 0 (fun _ => none)) ∧ Hid (Blk wx gi 3 (ints (List.replicate m 0))) ∧ Hid (LRow wx w.heap.size A1 c1 T) ∧ Hid (Blk wx ga 24 #[.int .i64 (m : Int), .slice A T.length c]) ∧ Hid (Blk wx gr 41 #[.int .i64 0, .int .i64 0, .int .i64 0]) ∧ Hid (Below w.heap.size w wx) ∧ Hid (w.heap.size ≤ gt ∧ w.heap.size ≤ gm ∧ w.heap.size ≤ gi))
    case first =>
      refine wp_region_till (S := fun w' => w'.cell? ⟨ga, 0, none⟩ = some (.int .i64 (m : Int)) ∧ w'.cell? ⟨ga, 1, none⟩ = some (.slice A T.length c)) 12 (by kernel_rfl) ⟨(soup_facts GAw5.out.drew).1, (soup_facts GAw5.out.drew).2.1⟩ (fun hHeld => ?_)
      refine Till.take (i := 0) (v := ?vt18) rfl (by kernel_rfl) (by kernel_rfl) (by kernel_rfl) (by kernel_rfl) (fun _ _ _ h => h) (Or.inl ⟨by rfl, ?ht18⟩) (by assumption) ?restt18
      case ht18 => (intro w hSw; (try dsimp only at hSw); go_simp; try with_reducible rfl)
      (try simp only [Act.put, List.setIfInBounds_toArray, List.set_cons_zero, List.set_cons_succ])
      refine Till.take (i := 1) (v := ?vt19) rfl (by kernel_rfl) (by kernel_rfl) (by kernel_rfl) (by kernel_rfl) (fun _ _ _ h => h) (Or.inl ⟨by rfl, ?ht19⟩) (by assumption) ?restt19
      case ht19 => (intro w hSw; (try dsimp only at hSw); go_simp; try with_reducible rfl)
      (try simp only [Act.put, List.setIfInBounds_toArray, List.set_cons_zero, List.set_cons_succ])
      refine Till.take (i := 2) (v := ?vt20) rfl (by kernel_rfl) (by kernel_rfl) (by kernel_rfl) (by kernel_rfl) (fun _ _ _ h => h) (Or.inl ⟨by rfl, ?ht20⟩) (by assumption) ?restt20
      case ht20 => (intro w hSw; (try dsimp only at hSw); go_simp; try with_reducible rfl)
      (try simp only [Act.put, List.setIfInBounds_toArray, List.set_cons_zero, List.set_cons_succ])
      refine Till.take (i := 3) (v := ?vt21) rfl (by kernel_rfl) (by kernel_rfl) (by kernel_rfl) (by kernel_rfl) (fun _ _ _ h => h) (Or.inl ⟨by rfl, ?ht21⟩) (by assumption) ?restt21
      case ht21 => (intro w hSw; (try dsimp only at hSw); go_simp; try with_reducible rfl)
      (try simp only [Act.put, List.setIfInBounds_toArray, List.set_cons_zero, List.set_cons_succ])
      refine Till.take (i := 7) (v := ?vt22) rfl (by kernel_rfl) (by kernel_rfl) (by kernel_rfl) (by kernel_rfl) (fun _ _ _ h => h) (Or.inl ⟨by rfl, ?ht22⟩) (by assumption) ?restt22
      case ht22 => (intro w hSw; (try dsimp only at hSw); go_simp; try with_reducible rfl)
      (try simp only [Act.put, List.setIfInBounds_toArray, List.set_cons_zero, List.set_cons_succ])
      refine Till.take (i := 8) (v := ?vt23) rfl (by kernel_rfl) (by kernel_rfl) (by kernel_rfl) (by kernel_rfl) (fun _ _ _ h => h) (Or.inl ⟨by rfl, ?ht23⟩) (by assumption) ?restt23
      case ht23 => (intro w hSw; (try dsimp only at hSw); go_simp; try with_reducible rfl)
      (try simp only [Act.put, List.setIfInBounds_toArray, List.set_cons_zero, List.set_cons_succ])
      refine Till.ready (rs := [4, 6, 9]) (by kernel_rfl) (by simp) ?_
      refine TillEach.cons rfl (fun K hK => ?_) ?_
      · go_simp
        go_wp2_with (go_at_call 40; refine (clone_any A c T w5.drew hT8 ((HT.out.below (bw_drew HBw5.out)).more (bw_size (bw_drew HBw5.out)))).mono ?_; rintro e v1 ⟨A1, c1, rfl, hr, hb⟩)
        have GAv1 : Hid (Blk v1 ga 24 #[.int .i64 (m : Int), .slice A T.length c]) := Lib.hid (blk_call GAw5.out.drew hb)
        have GRv1 : Hid (Blk v1 gr 41 #[.int .i64 0, .int .i64 0, .int .i64 0]) := Lib.hid (blk_call GRw5.out.drew hb)
        have HBv1 : Hid (Below w.heap.size w v1) := Lib.hid (bw_call (bw_drew HBw5.out) hb)
        have RAv1 : Hid (LRow v1 w.heap.size A1 c1 T) := Lib.hid (LRow.base hr (bw_size (bw_drew HBw5.out)))
        clear hr hb
        refine hK.out _ _ ?_ (fun hHeld => ?_)
        · exact ⟨(soup_facts GAv1.out).1, (soup_facts GAv1.out).2.1⟩
        clear hK K
        (try simp only [Act.put, List.setIfInBounds_toArray, List.set_cons_zero, List.set_cons_succ])
        clear GAw5 GRw5 HBw5
        refine Till.take (i := 5) (v := ?vt24) rfl (by kernel_rfl) (by kernel_rfl) (by kernel_rfl) (by kernel_rfl) (fun _ _ _ h => h) (Or.inl ⟨by rfl, ?ht24⟩) (by assumption) ?restt24
        case ht24 => (intro w hSw; (try dsimp only at hSw); go_simp; try with_reducible rfl)
        (try simp only [Act.put, List.setIfInBounds_toArray, List.set_cons_zero, List.set_cons_succ])
        refine Till.ready (rs := [6, 9]) (by kernel_rfl) (by simp) ?_
        refine TillEach.cons rfl (fun K hK => ?_) ?_
        · go_simp
          refine hK.out _ _ ?_ (fun hHeld => ?_)
          · exact ⟨(soup_facts (GAv1.out.alloc _)).1, (soup_facts (GAv1.out.alloc _)).2.1⟩
          clear hK K
          (try simp only [Act.put, List.setIfInBounds_toArray, List.set_cons_zero, List.set_cons_succ])
          obtain ⟨v2, hv2⟩ : ∃ v2, v2 = v1.alloc (.map #[] 0) := ⟨_, rfl⟩
          have GAv2 : Hid (Blk v2 ga 24 #[.int .i64 (m : Int), .slice A T.length c]) := by subst hv2; exact Lib.hid (GAv1.out.alloc _)
          have GRv2 : Hid (Blk v2 gr 41 #[.int .i64 0, .int .i64 0, .int .i64 0]) := by subst hv2; exact Lib.hid (GRv1.out.alloc _)
          have HBv2 : Hid (Below w.heap.size w v2) := by subst hv2; exact Lib.hid (bw_alloc HBv1.out _)
          have RAv2 : Hid (LRow v2 w.heap.size A1 c1 T) := by subst hv2; exact Lib.hid (RAv1.out.alloc _)
          have MBv2 : Hid (MapV Try.prog 31 v2 v1.heap.size 0 (fun _ => none)) := by subst hv2; exact Lib.hid ((MapV.made _ _ _))
          have hsgm : w.heap.size ≤ v1.heap.size := HBv1.out.size
          have hHeld : v2.cell? ⟨ga, 0, none⟩ = some (.int .i64 (m : Int)) ∧ v2.cell? ⟨ga, 1, none⟩ = some (.slice A T.length c) := ⟨(soup_facts GAv2.out).1, (soup_facts GAv2.out).2.1⟩
          rw [← hv2]
          generalize v1.heap.size = gm at *
          clear hv2 GAv1 GRv1 HBv1 RAv1
          refine Till.ready (rs := [9]) (by kernel_rfl) (by simp) ?_
          refine TillEach.cons rfl (fun K hK => ?_) ?_
          · go_simp
            refine hK.out _ _ ?_ (fun hHeld => ?_)
            · exact ⟨(soup_facts (GAv2.out.alloc _)).1, (soup_facts (GAv2.out.alloc _)).2.1⟩
            clear hK K
            (try simp only [Act.put, List.setIfInBounds_toArray, List.set_cons_zero, List.set_cons_succ])
            obtain ⟨v3, hv3⟩ : ∃ v3, v3 = v2.alloc (.cells (ints (List.replicate m 0)) 3) := ⟨_, rfl⟩
            have GAv3 : Hid (Blk v3 ga 24 #[.int .i64 (m : Int), .slice A T.length c]) := by subst hv3; exact Lib.hid (GAv2.out.alloc _)
            have GRv3 : Hid (Blk v3 gr 41 #[.int .i64 0, .int .i64 0, .int .i64 0]) := by subst hv3; exact Lib.hid (GRv2.out.alloc _)
            have HBv3 : Hid (Below w.heap.size w v3) := by subst hv3; exact Lib.hid (bw_alloc HBv2.out _)
            have RAv3 : Hid (LRow v3 w.heap.size A1 c1 T) := by subst hv3; exact Lib.hid (RAv2.out.alloc _)
            have MBv3 : Hid (MapV Try.prog 31 v3 gm 0 (fun _ => none)) := by subst hv3; exact Lib.hid (MBv2.out.alloc _)
            have IBv3 : Hid (Blk v3 v2.heap.size 3 (ints (List.replicate m 0))) := by subst hv3; exact Lib.hid ((Blk.new _ _ _))
            have hsgi : w.heap.size ≤ v2.heap.size := HBv2.out.size
            have hHeld : v3.cell? ⟨ga, 0, none⟩ = some (.int .i64 (m : Int)) ∧ v3.cell? ⟨ga, 1, none⟩ = some (.slice A T.length c) := ⟨(soup_facts GAv3.out).1, (soup_facts GAv3.out).2.1⟩
            rw [← hv3]
            generalize v2.heap.size = gi at *
            clear hv3 GAv2 GRv2 HBv2 RAv2 MBv2
            refine Till.take (i := 10) (v := ?vt25) rfl (by kernel_rfl) (by kernel_rfl) (by kernel_rfl) (by kernel_rfl) (fun _ _ _ h => h) (Or.inl ⟨by rfl, ?ht25⟩) (by assumption) ?restt25
            case ht25 => (intro w hSw; (try dsimp only at hSw); go_simp; try with_reducible rfl)
            (try simp only [Act.put, List.setIfInBounds_toArray, List.set_cons_zero, List.set_cons_succ])
            refine Till.ready (rs := [11]) (by kernel_rfl) (by simp) ?_
            refine TillEach.cons rfl (fun K hK => ?_) ?_
            · go_simp
              refine hK.out _ _ ?_ (fun hHeld => ?_)
              · exact ⟨(soup_facts (GAv3.out.alloc _)).1, (soup_facts (GAv3.out.alloc _)).2.1⟩
              clear hK K
              (try simp only [Act.put, List.setIfInBounds_toArray, List.set_cons_zero, List.set_cons_succ])
              refine Till.ready (rs := [12]) (by kernel_rfl) (by simp) ?_
              refine TillEach.last rfl (fun K hK => ?_)
              · go_simp
                refine hK.out _ _ ?_
                clear hK K
                (try simp only [Act.put, List.setIfInBounds_toArray, List.set_cons_zero, List.set_cons_succ])
                refine Till.done (by kernel_rfl) ?_ _
                go_wp2_with fail
                go_meet
                exact ⟨v3.heap.size, gm, gi, A1, c1, rfl, Lib.hid (Blk.new _ _ _), Lib.hid (MBv3.out.alloc _), Lib.hid (IBv3.out.alloc _), Lib.hid (RAv3.out.alloc _), Lib.hid (GAv3.out.alloc _), Lib.hid (GRv3.out.alloc _), Lib.hid (bw_alloc HBv3.out _), Lib.hid ⟨HBv3.out.size, hsgm, hsgi⟩⟩
            exact TillEach.nil
          exact TillEach.nil
        refine TillEach.cons rfl (fun K hK => ?_) ?_
        · go_simp
          refine hK.out _ _ ?_ (fun hHeld => ?_)
          · exact ⟨(soup_facts (GAv1.out.alloc _)).1, (soup_facts (GAv1.out.alloc _)).2.1⟩
          clear hK K
          (try simp only [Act.put, List.setIfInBounds_toArray, List.set_cons_zero, List.set_cons_succ])
          obtain ⟨v4, hv4⟩ : ∃ v4, v4 = v1.alloc (.cells (ints (List.replicate m 0)) 3) := ⟨_, rfl⟩
          have GAv4 : Hid (Blk v4 ga 24 #[.int .i64 (m : Int), .slice A T.length c]) := by subst hv4; exact Lib.hid (GAv1.out.alloc _)
          have GRv4 : Hid (Blk v4 gr 41 #[.int .i64 0, .int .i64 0, .int .i64 0]) := by subst hv4; exact Lib.hid (GRv1.out.alloc _)
          have HBv4 : Hid (Below w.heap.size w v4) := by subst hv4; exact Lib.hid (bw_alloc HBv1.out _)
          have RAv4 : Hid (LRow v4 w.heap.size A1 c1 T) := by subst hv4; exact Lib.hid (RAv1.out.alloc _)
          have IBv4 : Hid (Blk v4 v1.heap.size 3 (ints (List.replicate m 0))) := by subst hv4; exact Lib.hid ((Blk.new _ _ _))
          have hsgi : w.heap.size ≤ v1.heap.size := HBv1.out.size
          have hHeld : v4.cell? ⟨ga, 0, none⟩ = some (.int .i64 (m : Int)) ∧ v4.cell? ⟨ga, 1, none⟩ = some (.slice A T.length c) := ⟨(soup_facts GAv4.out).1, (soup_facts GAv4.out).2.1⟩
          rw [← hv4]
          generalize v1.heap.size = gi at *
          clear hv4 GAv1 GRv1 HBv1 RAv1
          refine Till.ready (rs := [6]) (by kernel_rfl) (by simp) ?_
          refine TillEach.cons rfl (fun K hK => ?_) ?_
          · go_simp
            refine hK.out _ _ ?_ (fun hHeld => ?_)
            · exact ⟨(soup_facts (GAv4.out.alloc _)).1, (soup_facts (GAv4.out.alloc _)).2.1⟩
            clear hK K
            (try simp only [Act.put, List.setIfInBounds_toArray, List.set_cons_zero, List.set_cons_succ])
            obtain ⟨v5, hv5⟩ : ∃ v5, v5 = v4.alloc (.map #[] 0) := ⟨_, rfl⟩
            have GAv5 : Hid (Blk v5 ga 24 #[.int .i64 (m : Int), .slice A T.length c]) := by subst hv5; exact Lib.hid (GAv4.out.alloc _)
            have GRv5 : Hid (Blk v5 gr 41 #[.int .i64 0, .int .i64 0, .int .i64 0]) := by subst hv5; exact Lib.hid (GRv4.out.alloc _)
            have HBv5 : Hid (Below w.heap.size w v5) := by subst hv5; exact Lib.hid (bw_alloc HBv4.out _)
            have RAv5 : Hid (LRow v5 w.heap.size A1 c1 T) := by subst hv5; exact Lib.hid (RAv4.out.alloc _)
            have IBv5 : Hid (Blk v5 gi 3 (ints (List.replicate m 0))) := by subst hv5; exact Lib.hid (IBv4.out.alloc _)
            have MBv5 : Hid (MapV Try.prog 31 v5 v4.heap.size 0 (fun _ => none)) := by subst hv5; exact Lib.hid ((MapV.made _ _ _))
            have hsgm : w.heap.size ≤ v4.heap.size := HBv4.out.size
            have hHeld : v5.cell? ⟨ga, 0, none⟩ = some (.int .i64 (m : Int)) ∧ v5.cell? ⟨ga, 1, none⟩ = some (.slice A T.length c) := ⟨(soup_facts GAv5.out).1, (soup_facts GAv5.out).2.1⟩
            rw [← hv5]
            generalize v4.heap.size = gm at *
            clear hv5 GAv4 GRv4 HBv4 RAv4 IBv4
            refine Till.take (i := 10) (v := ?vt26) rfl (by kernel_rfl) (by kernel_rfl) (by kernel_rfl) (by kernel_rfl) (fun _ _ _ h => h) (Or.inl ⟨by rfl, ?ht26⟩) (by assumption) ?restt26
            case ht26 => (intro w hSw; (try dsimp only at hSw); go_simp; try with_reducible rfl)
            (try simp only [Act.put, List.setIfInBounds_toArray, List.set_cons_zero, List.set_cons_succ])
            refine Till.ready (rs := [11]) (by kernel_rfl) (by simp) ?_
            refine TillEach.cons rfl (fun K hK => ?_) ?_
            · go_simp
              refine hK.out _ _ ?_ (fun hHeld => ?_)
              · exact ⟨(soup_facts (GAv5.out.alloc _)).1, (soup_facts (GAv5.out.alloc _)).2.1⟩
              clear hK K
              (try simp only [Act.put, List.setIfInBounds_toArray, List.set_cons_zero, List.set_cons_succ])
              refine Till.ready (rs := [12]) (by kernel_rfl) (by simp) ?_
              refine TillEach.last rfl (fun K hK => ?_)
              · go_simp
                refine hK.out _ _ ?_
                clear hK K
                (try simp only [Act.put, List.setIfInBounds_toArray, List.set_cons_zero, List.set_cons_succ])
                refine Till.done (by kernel_rfl) ?_ _
                go_wp2_with fail
                go_meet
                exact ⟨v5.heap.size, gm, gi, A1, c1, rfl, Lib.hid (Blk.new _ _ _), Lib.hid (MBv5.out.alloc _), Lib.hid (IBv5.out.alloc _), Lib.hid (RAv5.out.alloc _), Lib.hid (GAv5.out.alloc _), Lib.hid (GRv5.out.alloc _), Lib.hid (bw_alloc HBv5.out _), Lib.hid ⟨HBv5.out.size, hsgm, hsgi⟩⟩
            exact TillEach.nil
          exact TillEach.nil
        exact TillEach.nil
      refine TillEach.cons rfl (fun K hK => ?_) ?_
      · go_simp
        refine hK.out _ _ ?_ (fun hHeld => ?_)
        · exact ⟨(soup_facts ((GAw5.out.alloc _).drew)).1, (soup_facts ((GAw5.out.alloc _).drew)).2.1⟩
        clear hK K
        (try simp only [Act.put, List.setIfInBounds_toArray, List.set_cons_zero, List.set_cons_succ])
        obtain ⟨v6, hv6⟩ : ∃ v6, v6 = (w5.alloc (.map #[] 0)).drew := ⟨_, rfl⟩
        have GAv6 : Hid (Blk v6 ga 24 #[.int .i64 (m : Int), .slice A T.length c]) := by subst hv6; exact Lib.hid ((GAw5.out.alloc _).drew)
        have GRv6 : Hid (Blk v6 gr 41 #[.int .i64 0, .int .i64 0, .int .i64 0]) := by subst hv6; exact Lib.hid ((GRw5.out.alloc _).drew)
        have HBv6 : Hid (Below w.heap.size w v6) := by subst hv6; exact Lib.hid (bw_drew (bw_alloc HBw5.out _))
        have MBv6 : Hid (MapV Try.prog 31 v6 w5.heap.size 0 (fun _ => none)) := by subst hv6; exact Lib.hid ((MapV.made _ _ _).drew)
        have hsgm : w.heap.size ≤ w5.heap.size := HBw5.out.size
        have hHeld : v6.cell? ⟨ga, 0, none⟩ = some (.int .i64 (m : Int)) ∧ v6.cell? ⟨ga, 1, none⟩ = some (.slice A T.length c) := ⟨(soup_facts GAv6.out).1, (soup_facts GAv6.out).2.1⟩
        rw [← hv6]
        generalize w5.heap.size = gm at *
        clear hv6 GAw5 GRw5 HBw5
        refine Till.ready (rs := [4, 9]) (by kernel_rfl) (by simp) ?_
        refine TillEach.cons rfl (fun K hK => ?_) ?_
        · go_simp
          go_wp2_with (go_at_call 40; refine (clone_any A c T v6 hT8 ((HT.out.below HBv6.out).more (bw_size HBv6.out))).mono ?_; rintro e v7 ⟨A1, c1, rfl, hr, hb⟩)
          have GAv7 : Hid (Blk v7 ga 24 #[.int .i64 (m : Int), .slice A T.length c]) := Lib.hid (blk_call GAv6.out hb)
          have GRv7 : Hid (Blk v7 gr 41 #[.int .i64 0, .int .i64 0, .int .i64 0]) := Lib.hid (blk_call GRv6.out hb)
          have HBv7 : Hid (Below w.heap.size w v7) := Lib.hid (bw_call HBv6.out hb)
          have MBv7 : Hid (MapV Try.prog 31 v7 gm 0 (fun _ => none)) := Lib.hid (MapV.below MBv6.out hb (MapV.lt MBv6.out))
          have RAv7 : Hid (LRow v7 w.heap.size A1 c1 T) := Lib.hid (LRow.base hr (bw_size HBv6.out))
          clear hr hb
          refine hK.out _ _ ?_ (fun hHeld => ?_)
          · exact ⟨(soup_facts GAv7.out).1, (soup_facts GAv7.out).2.1⟩
          clear hK K
          (try simp only [Act.put, List.setIfInBounds_toArray, List.set_cons_zero, List.set_cons_succ])
          clear GAv6 GRv6 HBv6 MBv6
          refine Till.take (i := 5) (v := ?vt27) rfl (by kernel_rfl) (by kernel_rfl) (by kernel_rfl) (by kernel_rfl) (fun _ _ _ h => h) (Or.inl ⟨by rfl, ?ht27⟩) (by assumption) ?restt27
          case ht27 => (intro w hSw; (try dsimp only at hSw); go_simp; try with_reducible rfl)
          (try simp only [Act.put, List.setIfInBounds_toArray, List.set_cons_zero, List.set_cons_succ])
          refine Till.ready (rs := [9]) (by kernel_rfl) (by simp) ?_
          refine TillEach.cons rfl (fun K hK => ?_) ?_
          · go_simp
            refine hK.out _ _ ?_ (fun hHeld => ?_)
            · exact ⟨(soup_facts (GAv7.out.alloc _)).1, (soup_facts (GAv7.out.alloc _)).2.1⟩
            clear hK K
            (try simp only [Act.put, List.setIfInBounds_toArray, List.set_cons_zero, List.set_cons_succ])
            obtain ⟨v8, hv8⟩ : ∃ v8, v8 = v7.alloc (.cells (ints (List.replicate m 0)) 3) := ⟨_, rfl⟩
            have GAv8 : Hid (Blk v8 ga 24 #[.int .i64 (m : Int), .slice A T.length c]) := by subst hv8; exact Lib.hid (GAv7.out.alloc _)
            have GRv8 : Hid (Blk v8 gr 41 #[.int .i64 0, .int .i64 0, .int .i64 0]) := by subst hv8; exact Lib.hid (GRv7.out.alloc _)
            have HBv8 : Hid (Below w.heap.size w v8) := by subst hv8; exact Lib.hid (bw_alloc HBv7.out _)
            have MBv8 : Hid (MapV Try.prog 31 v8 gm 0 (fun _ => none)) := by subst hv8; exact Lib.hid (MBv7.out.alloc _)
            have RAv8 : Hid (LRow v8 w.heap.size A1 c1 T) := by subst hv8; exact Lib.hid (RAv7.out.alloc _)
            have IBv8 : Hid (Blk v8 v7.heap.size 3 (ints (List.replicate m 0))) := by subst hv8; exact Lib.hid ((Blk.new _ _ _))
            have hsgi : w.heap.size ≤ v7.heap.size := HBv7.out.size
            have hHeld : v8.cell? ⟨ga, 0, none⟩ = some (.int .i64 (m : Int)) ∧ v8.cell? ⟨ga, 1, none⟩ = some (.slice A T.length c) := ⟨(soup_facts GAv8.out).1, (soup_facts GAv8.out).2.1⟩
            rw [← hv8]
            generalize v7.heap.size = gi at *
            clear hv8 GAv7 GRv7 HBv7 MBv7 RAv7
            refine Till.take (i := 10) (v := ?vt28) rfl (by kernel_rfl) (by kernel_rfl) (by kernel_rfl) (by kernel_rfl) (fun _ _ _ h => h) (Or.inl ⟨by rfl, ?ht28⟩) (by assumption) ?restt28
            case ht28 => (intro w hSw; (try dsimp only at hSw); go_simp; try with_reducible rfl)
            (try simp only [Act.put, List.setIfInBounds_toArray, List.set_cons_zero, List.set_cons_succ])
            refine Till.ready (rs := [11]) (by kernel_rfl) (by simp) ?_
            refine TillEach.cons rfl (fun K hK => ?_) ?_
            · go_simp
              refine hK.out _ _ ?_ (fun hHeld => ?_)
              · exact ⟨(soup_facts (GAv8.out.alloc _)).1, (soup_facts (GAv8.out.alloc _)).2.1⟩
              clear hK K
              (try simp only [Act.put, List.setIfInBounds_toArray, List.set_cons_zero, List.set_cons_succ])
              refine Till.ready (rs := [12]) (by kernel_rfl) (by simp) ?_
              refine TillEach.last rfl (fun K hK => ?_)
              · go_simp
                refine hK.out _ _ ?_
                clear hK K
                (try simp only [Act.put, List.setIfInBounds_toArray, List.set_cons_zero, List.set_cons_succ])
                refine Till.done (by kernel_rfl) ?_ _
                go_wp2_with fail
                go_meet
                exact ⟨v8.heap.size, gm, gi, A1, c1, rfl, Lib.hid (Blk.new _ _ _), Lib.hid (MBv8.out.alloc _), Lib.hid (IBv8.out.alloc _), Lib.hid (RAv8.out.alloc _), Lib.hid (GAv8.out.alloc _), Lib.hid (GRv8.out.alloc _), Lib.hid (bw_alloc HBv8.out _), Lib.hid ⟨HBv8.out.size, hsgm, hsgi⟩⟩
            exact TillEach.nil
          exact TillEach.nil
        refine TillEach.cons rfl (fun K hK => ?_) ?_
        · go_simp
          refine hK.out _ _ ?_ (fun hHeld => ?_)
          · exact ⟨(soup_facts (GAv6.out.alloc _)).1, (soup_facts (GAv6.out.alloc _)).2.1⟩
          clear hK K
          (try simp only [Act.put, List.setIfInBounds_toArray, List.set_cons_zero, List.set_cons_succ])
          obtain ⟨v9, hv9⟩ : ∃ v9, v9 = v6.alloc (.cells (ints (List.replicate m 0)) 3) := ⟨_, rfl⟩
          have GAv9 : Hid (Blk v9 ga 24 #[.int .i64 (m : Int), .slice A T.length c]) := by subst hv9; exact Lib.hid (GAv6.out.alloc _)
          have GRv9 : Hid (Blk v9 gr 41 #[.int .i64 0, .int .i64 0, .int .i64 0]) := by subst hv9; exact Lib.hid (GRv6.out.alloc _)
          have HBv9 : Hid (Below w.heap.size w v9) := by subst hv9; exact Lib.hid (bw_alloc HBv6.out _)
          have MBv9 : Hid (MapV Try.prog 31 v9 gm 0 (fun _ => none)) := by subst hv9; exact Lib.hid (MBv6.out.alloc _)
          have IBv9 : Hid (Blk v9 v6.heap.size 3 (ints (List.replicate m 0))) := by subst hv9; exact Lib.hid ((Blk.new _ _ _))
          have hsgi : w.heap.size ≤ v6.heap.size := HBv6.out.size
          have hHeld : v9.cell? ⟨ga, 0, none⟩ = some (.int .i64 (m : Int)) ∧ v9.cell? ⟨ga, 1, none⟩ = some (.slice A T.length c) := ⟨(soup_facts GAv9.out).1, (soup_facts GAv9.out).2.1⟩
          rw [← hv9]
          generalize v6.heap.size = gi at *
          clear hv9 GAv6 GRv6 HBv6 MBv6
          refine Till.ready (rs := [4]) (by kernel_rfl) (by simp) ?_
          refine TillEach.cons rfl (fun K hK => ?_) ?_
          · go_simp
            go_wp2_with (go_at_call 40; refine (clone_any A c T v9 hT8 ((HT.out.below HBv9.out).more (bw_size HBv9.out))).mono ?_; rintro e v10 ⟨A1, c1, rfl, hr, hb⟩)
            have GAv10 : Hid (Blk v10 ga 24 #[.int .i64 (m : Int), .slice A T.length c]) := Lib.hid (blk_call GAv9.out hb)
            have GRv10 : Hid (Blk v10 gr 41 #[.int .i64 0, .int .i64 0, .int .i64 0]) := Lib.hid (blk_call GRv9.out hb)
            have HBv10 : Hid (Below w.heap.size w v10) := Lib.hid (bw_call HBv9.out hb)
            have MBv10 : Hid (MapV Try.prog 31 v10 gm 0 (fun _ => none)) := Lib.hid (MapV.below MBv9.out hb (MapV.lt MBv9.out))
            have IBv10 : Hid (Blk v10 gi 3 (ints (List.replicate m 0))) := Lib.hid (blk_call IBv9.out hb)
            have RAv10 : Hid (LRow v10 w.heap.size A1 c1 T) := Lib.hid (LRow.base hr (bw_size HBv9.out))
            clear hr hb
            refine hK.out _ _ ?_ (fun hHeld => ?_)
            · exact ⟨(soup_facts GAv10.out).1, (soup_facts GAv10.out).2.1⟩
            clear hK K
            (try simp only [Act.put, List.setIfInBounds_toArray, List.set_cons_zero, List.set_cons_succ])
            clear GAv9 GRv9 HBv9 MBv9 IBv9
            refine Till.take (i := 5) (v := ?vt29) rfl (by kernel_rfl) (by kernel_rfl) (by kernel_rfl) (by kernel_rfl) (fun _ _ _ h => h) (Or.inl ⟨by rfl, ?ht29⟩) (by assumption) ?restt29
            case ht29 => (intro w hSw; (try dsimp only at hSw); go_simp; try with_reducible rfl)
            (try simp only [Act.put, List.setIfInBounds_toArray, List.set_cons_zero, List.set_cons_succ])
            refine Till.take (i := 10) (v := ?vt30) rfl (by kernel_rfl) (by kernel_rfl) (by kernel_rfl) (by kernel_rfl) (fun _ _ _ h => h) (Or.inl ⟨by rfl, ?ht30⟩) (by assumption) ?restt30
            case ht30 => (intro w hSw; (try dsimp only at hSw); go_simp; try with_reducible rfl)
            (try simp only [Act.put, List.setIfInBounds_toArray, List.set_cons_zero, List.set_cons_succ])
            refine Till.ready (rs := [11]) (by kernel_rfl) (by simp) ?_
            refine TillEach.cons rfl (fun K hK => ?_) ?_
            · go_simp
              refine hK.out _ _ ?_ (fun hHeld => ?_)
              · exact ⟨(soup_facts (GAv10.out.alloc _)).1, (soup_facts (GAv10.out.alloc _)).2.1⟩
              clear hK K
              (try simp only [Act.put, List.setIfInBounds_toArray, List.set_cons_zero, List.set_cons_succ])
              refine Till.ready (rs := [12]) (by kernel_rfl) (by simp) ?_
              refine TillEach.last rfl (fun K hK => ?_)
              · go_simp
                refine hK.out _ _ ?_
                clear hK K
                (try simp only [Act.put, List.setIfInBounds_toArray, List.set_cons_zero, List.set_cons_succ])
                refine Till.done (by kernel_rfl) ?_ _
                go_wp2_with fail
                go_meet
                exact ⟨v10.heap.size, gm, gi, A1, c1, rfl, Lib.hid (Blk.new _ _ _), Lib.hid (MBv10.out.alloc _), Lib.hid (IBv10.out.alloc _), Lib.hid (RAv10.out.alloc _), Lib.hid (GAv10.out.alloc _), Lib.hid (GRv10.out.alloc _), Lib.hid (bw_alloc HBv10.out _), Lib.hid ⟨HBv10.out.size, hsgm, hsgi⟩⟩
            exact TillEach.nil
          exact TillEach.nil
        exact TillEach.nil
      refine TillEach.cons rfl (fun K hK => ?_) ?_
      · go_simp
        refine hK.out _ _ ?_ (fun hHeld => ?_)
        · exact ⟨(soup_facts ((GAw5.out.alloc _).drew)).1, (soup_facts ((GAw5.out.alloc _).drew)).2.1⟩
        clear hK K
        (try simp only [Act.put, List.setIfInBounds_toArray, List.set_cons_zero, List.set_cons_succ])
        obtain ⟨v11, hv11⟩ : ∃ v11, v11 = (w5.alloc (.cells (ints (List.replicate m 0)) 3)).drew := ⟨_, rfl⟩
        have GAv11 : Hid (Blk v11 ga 24 #[.int .i64 (m : Int), .slice A T.length c]) := by subst hv11; exact Lib.hid ((GAw5.out.alloc _).drew)
        have GRv11 : Hid (Blk v11 gr 41 #[.int .i64 0, .int .i64 0, .int .i64 0]) := by subst hv11; exact Lib.hid ((GRw5.out.alloc _).drew)
        have HBv11 : Hid (Below w.heap.size w v11) := by subst hv11; exact Lib.hid (bw_drew (bw_alloc HBw5.out _))
        have IBv11 : Hid (Blk v11 w5.heap.size 3 (ints (List.replicate m 0))) := by subst hv11; exact Lib.hid ((Blk.new _ _ _).drew)
        have hsgi : w.heap.size ≤ w5.heap.size := HBw5.out.size
        have hHeld : v11.cell? ⟨ga, 0, none⟩ = some (.int .i64 (m : Int)) ∧ v11.cell? ⟨ga, 1, none⟩ = some (.slice A T.length c) := ⟨(soup_facts GAv11.out).1, (soup_facts GAv11.out).2.1⟩
        rw [← hv11]
        generalize w5.heap.size = gi at *
        clear hv11 GAw5 GRw5 HBw5
        refine Till.ready (rs := [4, 6]) (by kernel_rfl) (by simp) ?_
        refine TillEach.cons rfl (fun K hK => ?_) ?_
        · go_simp
          go_wp2_with (go_at_call 40; refine (clone_any A c T v11 hT8 ((HT.out.below HBv11.out).more (bw_size HBv11.out))).mono ?_; rintro e v12 ⟨A1, c1, rfl, hr, hb⟩)
          have GAv12 : Hid (Blk v12 ga 24 #[.int .i64 (m : Int), .slice A T.length c]) := Lib.hid (blk_call GAv11.out hb)
          have GRv12 : Hid (Blk v12 gr 41 #[.int .i64 0, .int .i64 0, .int .i64 0]) := Lib.hid (blk_call GRv11.out hb)
          have HBv12 : Hid (Below w.heap.size w v12) := Lib.hid (bw_call HBv11.out hb)
          have IBv12 : Hid (Blk v12 gi 3 (ints (List.replicate m 0))) := Lib.hid (blk_call IBv11.out hb)
          have RAv12 : Hid (LRow v12 w.heap.size A1 c1 T) := Lib.hid (LRow.base hr (bw_size HBv11.out))
          clear hr hb
          refine hK.out _ _ ?_ (fun hHeld => ?_)
          · exact ⟨(soup_facts GAv12.out).1, (soup_facts GAv12.out).2.1⟩
          clear hK K
          (try simp only [Act.put, List.setIfInBounds_toArray, List.set_cons_zero, List.set_cons_succ])
          clear GAv11 GRv11 HBv11 IBv11
          refine Till.take (i := 5) (v := ?vt31) rfl (by kernel_rfl) (by kernel_rfl) (by kernel_rfl) (by kernel_rfl) (fun _ _ _ h => h) (Or.inl ⟨by rfl, ?ht31⟩) (by assumption) ?restt31
          case ht31 => (intro w hSw; (try dsimp only at hSw); go_simp; try with_reducible rfl)
          (try simp only [Act.put, List.setIfInBounds_toArray, List.set_cons_zero, List.set_cons_succ])
          refine Till.ready (rs := [6]) (by kernel_rfl) (by simp) ?_
          refine TillEach.cons rfl (fun K hK => ?_) ?_
          · go_simp
            refine hK.out _ _ ?_ (fun hHeld => ?_)
            · exact ⟨(soup_facts (GAv12.out.alloc _)).1, (soup_facts (GAv12.out.alloc _)).2.1⟩
            clear hK K
            (try simp only [Act.put, List.setIfInBounds_toArray, List.set_cons_zero, List.set_cons_succ])
            obtain ⟨v13, hv13⟩ : ∃ v13, v13 = v12.alloc (.map #[] 0) := ⟨_, rfl⟩
            have GAv13 : Hid (Blk v13 ga 24 #[.int .i64 (m : Int), .slice A T.length c]) := by subst hv13; exact Lib.hid (GAv12.out.alloc _)
            have GRv13 : Hid (Blk v13 gr 41 #[.int .i64 0, .int .i64 0, .int .i64 0]) := by subst hv13; exact Lib.hid (GRv12.out.alloc _)
            have HBv13 : Hid (Below w.heap.size w v13) := by subst hv13; exact Lib.hid (bw_alloc HBv12.out _)
            have IBv13 : Hid (Blk v13 gi 3 (ints (List.replicate m 0))) := by subst hv13; exact Lib.hid (IBv12.out.alloc _)
            have RAv13 : Hid (LRow v13 w.heap.size A1 c1 T) := by subst hv13; exact Lib.hid (RAv12.out.alloc _)
            have MBv13 : Hid (MapV Try.prog 31 v13 v12.heap.size 0 (fun _ => none)) := by subst hv13; exact Lib.hid ((MapV.made _ _ _))
            have hsgm : w.heap.size ≤ v12.heap.size := HBv12.out.size
            have hHeld : v13.cell? ⟨ga, 0, none⟩ = some (.int .i64 (m : Int)) ∧ v13.cell? ⟨ga, 1, none⟩ = some (.slice A T.length c) := ⟨(soup_facts GAv13.out).1, (soup_facts GAv13.out).2.1⟩
            rw [← hv13]
            generalize v12.heap.size = gm at *
            clear hv13 GAv12 GRv12 HBv12 IBv12 RAv12
            refine Till.take (i := 10) (v := ?vt32) rfl (by kernel_rfl) (by kernel_rfl) (by kernel_rfl) (by kernel_rfl) (fun _ _ _ h => h) (Or.inl ⟨by rfl, ?ht32⟩) (by assumption) ?restt32
            case ht32 => (intro w hSw; (try dsimp only at hSw); go_simp; try with_reducible rfl)
            (try simp only [Act.put, List.setIfInBounds_toArray, List.set_cons_zero, List.set_cons_succ])
            refine Till.ready (rs := [11]) (by kernel_rfl) (by simp) ?_
            refine TillEach.cons rfl (fun K hK => ?_) ?_
            · go_simp
              refine hK.out _ _ ?_ (fun hHeld => ?_)
              · exact ⟨(soup_facts (GAv13.out.alloc _)).1, (soup_facts (GAv13.out.alloc _)).2.1⟩
              clear hK K
              (try simp only [Act.put, List.setIfInBounds_toArray, List.set_cons_zero, List.set_cons_succ])
              refine Till.ready (rs := [12]) (by kernel_rfl) (by simp) ?_
              refine TillEach.last rfl (fun K hK => ?_)
              · go_simp
                refine hK.out _ _ ?_
                clear hK K
                (try simp only [Act.put, List.setIfInBounds_toArray, List.set_cons_zero, List.set_cons_succ])
                refine Till.done (by kernel_rfl) ?_ _
                go_wp2_with fail
                go_meet
                exact ⟨v13.heap.size, gm, gi, A1, c1, rfl, Lib.hid (Blk.new _ _ _), Lib.hid (MBv13.out.alloc _), Lib.hid (IBv13.out.alloc _), Lib.hid (RAv13.out.alloc _), Lib.hid (GAv13.out.alloc _), Lib.hid (GRv13.out.alloc _), Lib.hid (bw_alloc HBv13.out _), Lib.hid ⟨HBv13.out.size, hsgm, hsgi⟩⟩
            exact TillEach.nil
          exact TillEach.nil
        refine TillEach.cons rfl (fun K hK => ?_) ?_
        · go_simp
          refine hK.out _ _ ?_ (fun hHeld => ?_)
          · exact ⟨(soup_facts (GAv11.out.alloc _)).1, (soup_facts (GAv11.out.alloc _)).2.1⟩
          clear hK K
          (try simp only [Act.put, List.setIfInBounds_toArray, List.set_cons_zero, List.set_cons_succ])
          obtain ⟨v14, hv14⟩ : ∃ v14, v14 = v11.alloc (.map #[] 0) := ⟨_, rfl⟩
          have GAv14 : Hid (Blk v14 ga 24 #[.int .i64 (m : Int), .slice A T.length c]) := by subst hv14; exact Lib.hid (GAv11.out.alloc _)
          have GRv14 : Hid (Blk v14 gr 41 #[.int .i64 0, .int .i64 0, .int .i64 0]) := by subst hv14; exact Lib.hid (GRv11.out.alloc _)
          have HBv14 : Hid (Below w.heap.size w v14) := by subst hv14; exact Lib.hid (bw_alloc HBv11.out _)
          have IBv14 : Hid (Blk v14 gi 3 (ints (List.replicate m 0))) := by subst hv14; exact Lib.hid (IBv11.out.alloc _)
          have MBv14 : Hid (MapV Try.prog 31 v14 v11.heap.size 0 (fun _ => none)) := by subst hv14; exact Lib.hid ((MapV.made _ _ _))
          have hsgm : w.heap.size ≤ v11.heap.size := HBv11.out.size
          have hHeld : v14.cell? ⟨ga, 0, none⟩ = some (.int .i64 (m : Int)) ∧ v14.cell? ⟨ga, 1, none⟩ = some (.slice A T.length c) := ⟨(soup_facts GAv14.out).1, (soup_facts GAv14.out).2.1⟩
          rw [← hv14]
          generalize v11.heap.size = gm at *
          clear hv14 GAv11 GRv11 HBv11 IBv11
          refine Till.ready (rs := [4]) (by kernel_rfl) (by simp) ?_
          refine TillEach.cons rfl (fun K hK => ?_) ?_
          · go_simp
            go_wp2_with (go_at_call 40; refine (clone_any A c T v14 hT8 ((HT.out.below HBv14.out).more (bw_size HBv14.out))).mono ?_; rintro e v15 ⟨A1, c1, rfl, hr, hb⟩)
            have GAv15 : Hid (Blk v15 ga 24 #[.int .i64 (m : Int), .slice A T.length c]) := Lib.hid (blk_call GAv14.out hb)
            have GRv15 : Hid (Blk v15 gr 41 #[.int .i64 0, .int .i64 0, .int .i64 0]) := Lib.hid (blk_call GRv14.out hb)
            have HBv15 : Hid (Below w.heap.size w v15) := Lib.hid (bw_call HBv14.out hb)
            have IBv15 : Hid (Blk v15 gi 3 (ints (List.replicate m 0))) := Lib.hid (blk_call IBv14.out hb)
            have MBv15 : Hid (MapV Try.prog 31 v15 gm 0 (fun _ => none)) := Lib.hid (MapV.below MBv14.out hb (MapV.lt MBv14.out))
            have RAv15 : Hid (LRow v15 w.heap.size A1 c1 T) := Lib.hid (LRow.base hr (bw_size HBv14.out))
            clear hr hb
            refine hK.out _ _ ?_ (fun hHeld => ?_)
            · exact ⟨(soup_facts GAv15.out).1, (soup_facts GAv15.out).2.1⟩
            clear hK K
            (try simp only [Act.put, List.setIfInBounds_toArray, List.set_cons_zero, List.set_cons_succ])
            clear GAv14 GRv14 HBv14 IBv14 MBv14
            refine Till.take (i := 5) (v := ?vt33) rfl (by kernel_rfl) (by kernel_rfl) (by kernel_rfl) (by kernel_rfl) (fun _ _ _ h => h) (Or.inl ⟨by rfl, ?ht33⟩) (by assumption) ?restt33
            case ht33 => (intro w hSw; (try dsimp only at hSw); go_simp; try with_reducible rfl)
            (try simp only [Act.put, List.setIfInBounds_toArray, List.set_cons_zero, List.set_cons_succ])
            refine Till.take (i := 10) (v := ?vt34) rfl (by kernel_rfl) (by kernel_rfl) (by kernel_rfl) (by kernel_rfl) (fun _ _ _ h => h) (Or.inl ⟨by rfl, ?ht34⟩) (by assumption) ?restt34
            case ht34 => (intro w hSw; (try dsimp only at hSw); go_simp; try with_reducible rfl)
            (try simp only [Act.put, List.setIfInBounds_toArray, List.set_cons_zero, List.set_cons_succ])
            refine Till.ready (rs := [11]) (by kernel_rfl) (by simp) ?_
            refine TillEach.cons rfl (fun K hK => ?_) ?_
            · go_simp
              refine hK.out _ _ ?_ (fun hHeld => ?_)
              · exact ⟨(soup_facts (GAv15.out.alloc _)).1, (soup_facts (GAv15.out.alloc _)).2.1⟩
              clear hK K
              (try simp only [Act.put, List.setIfInBounds_toArray, List.set_cons_zero, List.set_cons_succ])
              refine Till.ready (rs := [12]) (by kernel_rfl) (by simp) ?_
              refine TillEach.last rfl (fun K hK => ?_)
              · go_simp
                refine hK.out _ _ ?_
                clear hK K
                (try simp only [Act.put, List.setIfInBounds_toArray, List.set_cons_zero, List.set_cons_succ])
                refine Till.done (by kernel_rfl) ?_ _
                go_wp2_with fail
                go_meet
                exact ⟨v15.heap.size, gm, gi, A1, c1, rfl, Lib.hid (Blk.new _ _ _), Lib.hid (MBv15.out.alloc _), Lib.hid (IBv15.out.alloc _), Lib.hid (RAv15.out.alloc _), Lib.hid (GAv15.out.alloc _), Lib.hid (GRv15.out.alloc _), Lib.hid (bw_alloc HBv15.out _), Lib.hid ⟨HBv15.out.size, hsgm, hsgi⟩⟩
            exact TillEach.nil
          exact TillEach.nil
        exact TillEach.nil
      exact TillEach.nil
    case rest =>
      obtain ⟨gt, gm, gi, A1, c1, rfl, GT6, MB6, IB6, RA6, GA6, GR6, HB6, HGE⟩ := hcut
      obtain ⟨w6, hw6⟩ : ∃ w6 : World, w6 = wc := ⟨_, rfl⟩
      rw [← hw6] at GT6 MB6 IB6 RA6 GA6 GR6 HB6 ⊢
      clear hw6 GAw5 GRw5 HBw5
      obtain ⟨s0, s1, _, _, _⟩ := soup_facts GA6.out
      have MW6 : Hid (MapW w6 gm 0 T (3 * T.length)) := Lib.hid (MapW.start MB6.out)
      go_wp2_with fail
      clear GA6 s0 s1 MB6
      go_loopw [6] (fun iv wr => ∃ (k q : Nat) (i : Int) (L : List Int), k ≤ 3 * T.length ∧ iv = .int .i64 i ∧ i = (k : Int) - 1 ∧ q ≤ 3 * T.length - k ∧ Hid (Blk wr gt 61 #[.int .i64 (m : Int), .slice A1 T.length c1, .map (some gm), .slice (some ⟨gi, 0, none⟩) m m]) ∧ Hid (MapW wr gm q T k) ∧ Hid (L.length = m ∧ ∀ v, v < m → L[v]? = some (firstV T k v)) ∧ Hid (Blk wr gi 3 (ints L)) ∧ Hid (LRow wr w.heap.size A1 c1 T) ∧ Hid (Blk wr gr 41 #[.int .i64 0, .int .i64 0, .int .i64 0]) ∧ Hid (Below w.heap.size w wr)) (fun iv _ => (intOf iv + 1).toNat)
      case atStart =>
        exact ⟨3 * T.length, 0, _, List.replicate m 0, by omega, rfl, by go_num, by omega, GT6, MW6, Lib.hid ⟨by simp, fun v hv => by rw [firstV_end]; simp [hv]⟩, IB6, RA6, GR6, HB6⟩
      case round =>
        obtain ⟨k, q, i, L, hk, rfl, hi, hq, GTk, MBk, HLk, IBk, RAk, GRk, HBk⟩ := hrel
        obtain ⟨wB, hwB⟩ : ∃ wB : World, wB = wr := ⟨_, rfl⟩
        rw [← hwB] at GTk MBk IBk RAk GRk HBk ⊢
        clear hwB GT6 MW6 IB6 RA6 GR6 HB6
        cases k with
        | zero =>
          obtain rfl : i = -1 := by omega
          clear hi
          obtain ⟨r0, r1, r2, r3, r4, r5⟩ := wit_facts GRk.out
          go_wp2_with fail
          obtain ⟨f0, f1, f2, _, _, _⟩ := wit_facts (wit_set GRk.out (.int .i64 0) (.int .i64 0) (.int .i64 0))
          have hg := HGE.out
          have hr := HGR.out.1
          refine bodyPost_ret (v := .tuple #[.pointer (some ⟨gt, 0, none⟩), .agg #[.int .i64 0, .int .i64 0, .int .i64 0]]) ?_ rfl (new_yes HX.out (tab_wit GTk.out MBk.out IBk.out RAk.out GRk.out hg.1 hg.2.1 hg.2.2 HLk.out.1 (fun v hv => by rw [HLk.out.2 v hv, firstV_zero (HUS.out v hv)]) _ _ _) (bw_set (bw_set (bw_set HBk.out hr _) hr _) hr _))
          simp [results, Try.results29, go_sem, f0, f1, f2]
        | succ k =>
          obtain rfl : i = (k : Int) := by omega
          have hk' : k < 3 * T.length := by omega
          have o1 := cv_ok HOK.out (nxc_lt hk')
          have o2 := cv_ok HOK.out (pvc_lt hk')
          have o3 := cv_ok HOK.out hk'
          have hwf : wfE (ce T k) := ⟨wf_small (show -1 ≤ cv T (nxc k) by omega) (show cv T (nxc k) < 100000 by omega), wf_small (show -1 ≤ cv T (pvc k) by omega) (show cv T (pvc k) < 100000 by omega)⟩
          have HWF := Lib.hid hwf
          obtain ⟨xn, hxn⟩ := Int.eq_ofNat_of_zero_le o3.1
          have hxm : xn < m := by omega
          have HXN := Lib.hid hxn
          have HCE : Hid (∀ (W : World), Blk W gt 61 #[.int .i64 (m : Int), .slice A1 T.length c1, .map (some gm), .slice (some ⟨gi, 0, none⟩) m m] → LRow W w.heap.size A1 c1 T → Calls Try.prog 18 #[.pointer (some ⟨gt, 0, none⟩), .int .i64 (k : Int)] W (EdPost W (ce T k))) := Lib.hid fun W h1 h2 => by
            have h := edge_any gt w.heap.size m T k W hT8 (⟨A1, c1, _, _, h1, h2⟩ : TabS W w.heap.size gt (m : Int) T)
            rwa [edgeI_nat hk'] at h
          have HCV : Hid (∀ (W : World), Blk W gt 61 #[.int .i64 (m : Int), .slice A1 T.length c1, .map (some gm), .slice (some ⟨gi, 0, none⟩) m m] → LRow W w.heap.size A1 c1 T → Calls Try.prog 14 #[.pointer (some ⟨gt, 0, none⟩), .int .i64 (k : Int)] W (IntPost W (xn : Int))) := Lib.hid fun W h1 h2 => by
            have h := vertex_any gt w.heap.size m T k W hT8 (⟨A1, c1, _, _, h1, h2⟩ : TabS W w.heap.size gt (m : Int) T)
            rw [vertexI_nat hk', HXN.out] at h
            refine h.mono ?_
            rintro e w' ⟨rfl, rfl⟩
            exact ⟨rfl, Below.refl _ _⟩
          have hki : (0 : Int) ≤ (k : Int) := by omega
          have hx0 : (0 : Int) ≤ (xn : Int) := by omega
          have hx1 : (xn : Int) < (m : Int) := by omega
          clear hxn o1 o2 o3 hi hwf
          go_wp2_with fail
          refine wp_region_till (S := fun w' => w'.cell? ⟨gt, 2, none⟩ = some (.map (some gm))) 8 (by kernel_rfl) (tab_facts GTk.out.drew).2.2.1 (fun hHeld => ?_)
          refine Till.take (i := 0) (v := ?vt9) rfl (by kernel_rfl) (by kernel_rfl) (by kernel_rfl) (by kernel_rfl) (fun _ _ _ h => h) (Or.inl ⟨by rfl, ?ht9⟩) (by assumption) ?restt9
          case ht9 => (intro w hSw; (try dsimp only at hSw); go_simp; try with_reducible rfl)
          (try simp only [Act.put, List.setIfInBounds_toArray, List.set_cons_zero, List.set_cons_succ])
          refine Till.take (i := 1) (v := ?vt10) rfl (by kernel_rfl) (by kernel_rfl) (by kernel_rfl) (by kernel_rfl) (fun _ _ _ h => h) (Or.inl ⟨by rfl, ?ht10⟩) (by assumption) ?restt10
          case ht10 => (intro w hSw; (try dsimp only at hSw); go_simp; try with_reducible rfl)
          (try simp only [Act.put, List.setIfInBounds_toArray, List.set_cons_zero, List.set_cons_succ])
          refine Till.take (i := 2) (v := ?vt11) rfl (by kernel_rfl) (by kernel_rfl) (by kernel_rfl) (by kernel_rfl) (fun _ _ _ h => h) (Or.inl ⟨by rfl, ?ht11⟩) (by assumption) ?restt11
          case ht11 => (intro w hSw; (try dsimp only at hSw); go_simp; try with_reducible rfl)
          (try simp only [Act.put, List.setIfInBounds_toArray, List.set_cons_zero, List.set_cons_succ])
          refine Till.take (i := 3) (v := ?vt12) rfl (by kernel_rfl) (by kernel_rfl) (by kernel_rfl) (by kernel_rfl) (fun _ _ _ h => h) (Or.inl ⟨by rfl, ?ht12⟩) (by assumption) ?restt12
          case ht12 => (intro w hSw; (try dsimp only at hSw); go_simp; try with_reducible rfl)
          (try simp only [Act.put, List.setIfInBounds_toArray, List.set_cons_zero, List.set_cons_succ])
          refine Till.take (i := 4) (v := ?vt13) rfl (by kernel_rfl) (by kernel_rfl) (by kernel_rfl) (by kernel_rfl) (fun _ _ _ h => h) (Or.inl ⟨by rfl, ?ht13⟩) (by assumption) ?restt13
          case ht13 => (intro w hSw; (try dsimp only at hSw); go_simp; try with_reducible rfl)
          (try simp only [Act.put, List.setIfInBounds_toArray, List.set_cons_zero, List.set_cons_succ])
          refine Till.take (i := 5) (v := ?vt14) rfl (by kernel_rfl) (by kernel_rfl) (by kernel_rfl) (by kernel_rfl) (fun _ _ _ h => h) (Or.inl ⟨by rfl, ?ht14⟩) (by assumption) ?restt14
          case ht14 => (intro w hSw; (try dsimp only at hSw); go_simp; try with_reducible rfl)
          (try simp only [Act.put, List.setIfInBounds_toArray, List.set_cons_zero, List.set_cons_succ])
          refine Till.take (i := 7) (v := ?vt15) rfl (by kernel_rfl) (by kernel_rfl) (by kernel_rfl) (by kernel_rfl) (fun _ _ _ h => h) (Or.inl ⟨by rfl, ?ht15⟩) (by assumption) ?restt15
          case ht15 => (intro w hSw; (try dsimp only at hSw); go_simp; try with_reducible rfl)
          (try simp only [Act.put, List.setIfInBounds_toArray, List.set_cons_zero, List.set_cons_succ])
          refine Till.ready (rs := [6]) (by kernel_rfl) (by simp) ?_
          refine TillEach.cons rfl (fun K hK => ?_) ?_
          · go_simp
            go_wp2_with (go_at_call 18; refine (HCE.out _ GTk.out.drew RAk.out.drew).mono ?_; rintro e v20 ⟨rfl, hb⟩)
            have GTv20 := Lib.hid (blk_call GTk.out.drew hb)
            have IBv20 := Lib.hid (blk_call IBk.out.drew hb)
            have GRv20 := Lib.hid (blk_call GRk.out.drew hb)
            have RAv20 := Lib.hid (RAk.out.drew.below hb)
            have MBv20 := Lib.hid (MBk.out.drew.below hb)
            obtain ⟨es, cl, hst, q', hq', MB9⟩ := MapW.store MBv20.out hk' (by simp only [maxLen]; omega) HWF.out
            have HBv20 := Lib.hid (bw_call (bw_drew HBk.out) hb)
            clear hb
            refine hK.out _ _ ?_ (fun hHeld => ?_)
            · exact (tab_facts GTv20.out).2.2.1
            clear hK K
            (try simp only [Act.put, List.setIfInBounds_toArray, List.set_cons_zero, List.set_cons_succ])
            refine Till.ready (rs := [8]) (by kernel_rfl) (by simp) ?_
            refine TillEach.last rfl (fun K hK => ?_)
            · go_simp
              refine hK.out _ _ ?_
              clear hK K
              (try simp only [Act.put, List.setIfInBounds_toArray, List.set_cons_zero, List.set_cons_succ])
              refine Till.done (by kernel_rfl) ?_ _
              go_wp2_with fail
              obtain ⟨w9, hw9⟩ : ∃ w9, w9 = ChangeMaps.setBlock v20 gm (.map es cl) := ⟨_, rfl⟩
              rw [← hw9] at MB9
              have GTw9 : Hid (Blk w9 gt 61 #[.int .i64 (m : Int), .slice A1 T.length c1, .map (some gm), .slice (some ⟨gi, 0, none⟩) m m]) := by rw [hw9]; exact Lib.hid (GTv20.out.setBlock (MBv20.out.ne_blk GTv20.out) _)
              have IBw9 : Hid (Blk w9 gi 3 (ints L)) := by rw [hw9]; exact Lib.hid (IBv20.out.setBlock (MBv20.out.ne_blk IBv20.out) _)
              have GRw9 : Hid (Blk w9 gr 41 #[.int .i64 0, .int .i64 0, .int .i64 0]) := by rw [hw9]; exact Lib.hid (GRv20.out.setBlock (MBv20.out.ne_blk GRv20.out) _)
              have RAw9 : Hid (LRow w9 w.heap.size A1 c1 T) := by rw [hw9]; exact Lib.hid (RAv20.out.setBlock MBv20.out _)
              have HBw9 : Hid (Below w.heap.size w w9) := by rw [hw9]; exact Lib.hid (bw_setBlock HBv20.out HGE.out.2.1 _)
              have MBw9 := Lib.hid MB9
              rw [← hw9]
              clear hw9 MB9 hst GTv20 IBv20 GRv20 RAv20 HBv20 MBv20
              refine wp_region_till (S := fun w' => w'.cell? ⟨gt, 3, none⟩ = some (.slice (some ⟨gi, 0, none⟩) m m)) 9 (by kernel_rfl) (tab_facts GTw9.out.drew).2.2.2 (fun hHeld => ?_)
              refine Till.take (i := 0) (v := ?vt1) rfl (by kernel_rfl) (by kernel_rfl) (by kernel_rfl) (by kernel_rfl) (fun _ _ _ h => h) (Or.inl ⟨by rfl, ?ht1⟩) (by assumption) ?restt1
              case ht1 => (intro w hSw; (try dsimp only at hSw); go_simp; try with_reducible rfl)
              (try simp only [Act.put, List.setIfInBounds_toArray, List.set_cons_zero, List.set_cons_succ])
              refine Till.take (i := 1) (v := ?vt2) rfl (by kernel_rfl) (by kernel_rfl) (by kernel_rfl) (by kernel_rfl) (fun _ _ _ h => h) (Or.inl ⟨by rfl, ?ht2⟩) (by assumption) ?restt2
              case ht2 => (intro w hSw; (try dsimp only at hSw); go_simp; try with_reducible rfl)
              (try simp only [Act.put, List.setIfInBounds_toArray, List.set_cons_zero, List.set_cons_succ])
              refine Till.take (i := 2) (v := ?vt3) rfl (by kernel_rfl) (by kernel_rfl) (by kernel_rfl) (by kernel_rfl) (fun _ _ _ h => h) (Or.inl ⟨by rfl, ?ht3⟩) (by assumption) ?restt3
              case ht3 => (intro w hSw; (try dsimp only at hSw); go_simp; try with_reducible rfl)
              (try simp only [Act.put, List.setIfInBounds_toArray, List.set_cons_zero, List.set_cons_succ])
              refine Till.take (i := 3) (v := ?vt4) rfl (by kernel_rfl) (by kernel_rfl) (by kernel_rfl) (by kernel_rfl) (fun _ _ _ h => h) (Or.inl ⟨by rfl, ?ht4⟩) (by assumption) ?restt4
              case ht4 => (intro w hSw; (try dsimp only at hSw); go_simp; try with_reducible rfl)
              (try simp only [Act.put, List.setIfInBounds_toArray, List.set_cons_zero, List.set_cons_succ])
              refine Till.take (i := 4) (v := ?vt5) rfl (by kernel_rfl) (by kernel_rfl) (by kernel_rfl) (by kernel_rfl) (fun _ _ _ h => h) (Or.inl ⟨by rfl, ?ht5⟩) (by assumption) ?restt5
              case ht5 => (intro w hSw; (try dsimp only at hSw); go_simp; try with_reducible rfl)
              (try simp only [Act.put, List.setIfInBounds_toArray, List.set_cons_zero, List.set_cons_succ])
              refine Till.take (i := 5) (v := ?vt6) rfl (by kernel_rfl) (by kernel_rfl) (by kernel_rfl) (by kernel_rfl) (fun _ _ _ h => h) (Or.inl ⟨by rfl, ?ht6⟩) (by assumption) ?restt6
              case ht6 => (intro w hSw; (try dsimp only at hSw); go_simp; try with_reducible rfl)
              (try simp only [Act.put, List.setIfInBounds_toArray, List.set_cons_zero, List.set_cons_succ])
              refine Till.take (i := 7) (v := ?vt7) rfl (by kernel_rfl) (by kernel_rfl) (by kernel_rfl) (by kernel_rfl) (fun _ _ _ h => h) (Or.inl ⟨by rfl, ?ht7⟩) (by assumption) ?restt7
              case ht7 => (intro w hSw; (try dsimp only at hSw); go_simp; try with_reducible rfl)
              (try simp only [Act.put, List.setIfInBounds_toArray, List.set_cons_zero, List.set_cons_succ])
              refine Till.ready (rs := [6]) (by kernel_rfl) (by simp) ?_
              refine TillEach.cons rfl (fun K hK => ?_) ?_
              · go_simp
                go_wp2_with (go_at_call 14; refine (HCV.out _ GTw9.out.drew RAw9.out.drew).mono ?_; rintro e v30 ⟨rfl, hb⟩)
                have GTv30 := Lib.hid (blk_call GTw9.out.drew hb)
                have IBv30 := Lib.hid (blk_call IBw9.out.drew hb)
                have GRv30 := Lib.hid (blk_call GRw9.out.drew hb)
                have RAv30 := Lib.hid (RAw9.out.drew.below hb)
                have MBv30 := Lib.hid (MBw9.out.drew.below hb)
                have b0 := ints_cell IBv30.out (k := xn) (by rw [HLk.out.1]; exact hxm)
                have b1 := IBv30.out.frozen xn
                have HBv30 := Lib.hid (bw_call (bw_drew HBw9.out) hb)
                clear hb
                refine hK.out _ _ ?_ (fun hHeld => ?_)
                · exact (tab_facts GTv30.out).2.2.2
                clear hK K
                (try simp only [Act.put, List.setIfInBounds_toArray, List.set_cons_zero, List.set_cons_succ])
                refine Till.take (i := 8) (v := ?vt8) rfl (by kernel_rfl) (by kernel_rfl) (by kernel_rfl) (by kernel_rfl) (fun _ _ _ h => h) (Or.inl ⟨by rfl, ?ht8⟩) (by assumption) ?restt8
                case ht8 => (intro w hSw; (try dsimp only at hSw); go_simp; try with_reducible rfl)
                (try simp only [Act.put, List.setIfInBounds_toArray, List.set_cons_zero, List.set_cons_succ])
                refine Till.ready (rs := [9]) (by kernel_rfl) (by simp) ?_
                refine TillEach.last rfl (fun K hK => ?_)
                · go_simp
                  refine hK.out _ _ ?_
                  clear hK K
                  (try simp only [Act.put, List.setIfInBounds_toArray, List.set_cons_zero, List.set_cons_succ])
                  refine Till.done (by kernel_rfl) ?_ _
                  go_wp2_with fail
                  have hg := HGE.out
                  have n1 : gt ≠ gi := GTv30.out.ne_ IBv30.out (by decide)
                  have n2 : gr ≠ gi := GRv30.out.ne_ IBv30.out (by decide)
                  have hs := IBv30.out.set_ xn (.int .i64 (k : Int))
                  rw [ints_set] at hs
                  refine ⟨⟨k, q', _, L.set xn (k : Int), by omega, rfl, rfl, by omega, Lib.hid (GTv30.out.far n1 _), Lib.hid (MBv30.out.set b0 _), Lib.hid ⟨by rw [List.length_set, HLk.out.1], fun v hv => ?_⟩, Lib.hid hs, Lib.hid (RAv30.out.setInt IBv30.out _), Lib.hid (GRv30.out.far n2 _), Lib.hid (bw_set HBv30.out hg.2.2 _)⟩, by simp [intOf]⟩
                  rw [firstV_step hk', HXN.out]
                  by_cases hxv : (xn : Int) = (v : Int)
                  · obtain rfl : xn = v := by omega
                    rw [if_pos rfl, List.getElem?_set_self (by rw [HLk.out.1]; exact hv)]
                  · rw [if_neg hxv, List.getElem?_set_ne (by omega), HLk.out.2 v hv]
              exact TillEach.nil
          exact TillEach.nil
  · have hkb : (k != 0) = true := by simp [hk]
    have HNZ : Hid (checkR N T ≠ (0, 0, 0)) := Lib.hid (fun h => hk (by rw [HX.out] at h; cases h; rfl))
    obtain ⟨r0, r1, r2, r3, r4, r5⟩ := wit_facts GRw5.out
    clear HKS
    go_upto_region 3 with (fail)
    clear x0 x1 x2
    refine wp_region_till (S := fun w' => w'.cell? ⟨gw, 0, none⟩ = some (.int .i64 k) ∧ w'.cell? ⟨gw, 1, none⟩ = some (.int .i64 a) ∧ w'.cell? ⟨gw, 2, none⟩ = some (.int .i64 b)) 2 (by kernel_rfl) ⟨(wit_facts GWw5.out.drew).1, (wit_facts GWw5.out.drew).2.1, (wit_facts GWw5.out.drew).2.2.1⟩ (fun hHeld => ?_)
    refine Till.take (i := 0) (v := ?vt16) rfl (by kernel_rfl) (by kernel_rfl) (by kernel_rfl) (by kernel_rfl) (fun _ _ _ h => h) (Or.inl ⟨by rfl, ?ht16⟩) (by assumption) ?restt16
    case ht16 => (intro w hSw; (try dsimp only at hSw); go_simp; try with_reducible rfl)
    (try simp only [Act.put, List.setIfInBounds_toArray, List.set_cons_zero, List.set_cons_succ])
    refine Till.take (i := 1) (v := ?vt17) rfl (by kernel_rfl) (by kernel_rfl) (by kernel_rfl) (by kernel_rfl) (fun _ _ _ h => h) (Or.inl ⟨by rfl, ?ht17⟩) (by assumption) ?restt17
    case ht17 => (intro w hSw; (try dsimp only at hSw); go_simp; try with_reducible rfl)
    (try simp only [Act.put, List.setIfInBounds_toArray, List.set_cons_zero, List.set_cons_succ])
    refine Till.ready (rs := [2]) (by kernel_rfl) (by simp) ?_
    refine TillEach.last rfl (fun K hK => ?_)
    · go_simp
      refine hK.out _ _ ?_
      clear hK K
      (try simp only [Act.put, List.setIfInBounds_toArray, List.set_cons_zero, List.set_cons_succ])
      refine Till.done (by kernel_rfl) ?_ _
      go_wp2_with fail
      obtain ⟨f0, f1, f2, _, _, _⟩ := wit_facts (wit_set GRw5.out (.int .i64 k) (.int .i64 a) (.int .i64 b)).drew
      refine bodyPost_ret (v := .tuple #[.pointer none, .agg #[.int .i64 k, .int .i64 a, .int .i64 b]]) ?_ rfl (new_no HNZ.out HX.out (bw_drew (bw_set (bw_set (bw_set HBw5.out HGR.out.1 _) HGR.out.1 _) HGR.out.1 _)))
      simp [results, Try.results29, go_sem, f0, f1, f2]
end Go.Proofs.Ytdmibpcpocacpaa
