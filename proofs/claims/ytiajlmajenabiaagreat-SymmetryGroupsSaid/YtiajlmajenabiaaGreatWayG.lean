/- symmetry.All's rows, a path of choices each: plain. No condition. -/
import Derived.Test.YtiajlmajenabiaaGreatAllP
namespace Go.Proofs.YtiajlmajenabiaaGreat
open Go.RowKit

set_option linter.unusedSimpArgs false
set_option linter.unusedVariables false
abbrev Choice := Nat × List Int
/-- The places that a shell's first way speaks of. -/
def plW (ks : List KindV) (i : Nat) : List Int := (kAt ks i).ws.getD 0 []
def pathsL (ks : List KindV) : Nat → Nat → (Nat → Bool) → List (List Choice)
  | 0, _, _ => [[]]
  | d + 1, i, used => (List.range ks.length).flatMap fun j => if used j || !alikeK (kAt ks j) (kAt ks i) then [] else (kAt ks j).ws.flatMap fun way => (pathsL ks d (i + 1) (updF used j true)).map fun p => (j, way) :: p
def applyP (ks : List KindV) : Nat → List Choice → List Int → List Int
  | _, [], ts => ts
  | i, (_, way) :: p, ts => applyP ks (i + 1) p (setW (plW ks i) way (plW ks i).length ts)
/-- The same at all places but those of the shells from i on. -/
structure AgreeP (ks : List KindV) (i : Nat) (a b : List Int) : Prop where
  len : a.length = b.length
  at_ : ∀ q, (∀ i', i ≤ i' → i' < ks.length → ∀ v ∈ plW ks i', v.toNat ≠ q) → a.getD q 0 = b.getD q 0
section
variable {ks : List KindV}
theorem AgreeP.refl (i : Nat) (a : List Int) : AgreeP ks i a a := ⟨rfl, fun _ _ => rfl⟩
theorem AgreeP.trans {i : Nat} {a b c : List Int} (h : AgreeP ks i a b) (h' : AgreeP ks i b c) : AgreeP ks i a c := ⟨h.len.trans h'.len, fun q hq => (h.at_ q hq).trans (h'.at_ q hq)⟩
theorem AgreeP.symm {i : Nat} {a b : List Int} (h : AgreeP ks i a b) : AgreeP ks i b a := ⟨h.len.symm, fun q hq => (h.at_ q hq).symm⟩
theorem AgreeP.up {i : Nat} {a b : List Int} (h : AgreeP ks (i + 1) a b) : AgreeP ks i a b := ⟨h.len, fun q hq => h.at_ q fun i' hi => hq i' (by omega)⟩
theorem getD_setN {l : List Int} {p q : Nat} {x : Int} : (l.set p x).getD q 0 = if p = q ∧ p < l.length then x else l.getD q 0 := by
  rw [List.getD_eq_getElem?_getD, List.getD_eq_getElem?_getD, List.getElem?_set]
  by_cases h : p = q
  · subst h
    by_cases hl : p < l.length
    · simp [hl]
    · simp [hl]
  · simp [h]
theorem setW_off {V way ts : List Int} {q : Nat} : ∀ n, n ≤ V.length → (∀ v ∈ V, v.toNat ≠ q) → (setW V way n ts).getD q 0 = ts.getD q 0
  | 0, _, _ => rfl
  | n + 1, hn, h => by
    rw [setW, getD_setN]
    have hm : V.getD n 0 ∈ V := by rw [List.getD_eq_getElem?_getD, List.getElem?_eq_getElem (show n < V.length by omega)]; exact List.getElem_mem _
    rw [if_neg fun e => h _ hm e.1]
    exact setW_off n (by omega) h
theorem setW_agree {V way a b : List Int} (hl : a.length = b.length) {q : Nat} : ∀ n, n ≤ V.length → (a.getD q 0 = b.getD q 0 ∨ ∃ k, k < n ∧ (V.getD k 0).toNat = q) → (setW V way n a).getD q 0 = (setW V way n b).getD q 0
  | 0, _, h => by
    rcases h with h | ⟨k, hk, _⟩
    · exact h
    · omega
  | n + 1, hn, h => by
    rw [setW, setW, getD_setN, getD_setN, setW_len, setW_len, hl]
    by_cases e : (V.getD n 0).toNat = q ∧ (V.getD n 0).toNat < b.length
    · rw [if_pos e, if_pos e]
    · rw [if_neg e, if_neg e]
      by_cases hq : (V.getD n 0).toNat = q
      · have hb : b.length ≤ q := by
          apply Nat.le_of_not_lt
          intro hlt
          exact e ⟨hq, by omega⟩
        rw [List.getD_eq_getElem?_getD, List.getD_eq_getElem?_getD, List.getElem?_eq_none (by rw [setW_len, hl]; exact hb), List.getElem?_eq_none (by rw [setW_len]; exact hb)]
      · refine setW_agree hl n (by omega) ?_
        rcases h with h | ⟨k, hk, e2⟩
        · exact .inl h
        · rcases Nat.lt_succ_iff_lt_or_eq.1 hk with hk | rfl
          · exact .inr ⟨k, hk, e2⟩
          · exact absurd e2 hq
/-- One way written. -/
theorem AgreeP.set {i : Nat} {a b way : List Int} (h : AgreeP ks i a b) : AgreeP ks (i + 1) (setW (plW ks i) way (plW ks i).length a) (setW (plW ks i) way (plW ks i).length b) := by
  refine ⟨by rw [setW_len, setW_len, h.len], fun q hq => setW_agree h.len _ (Nat.le_refl _) ?_⟩
  by_cases hv : ∀ v ∈ plW ks i, v.toNat ≠ q
  · refine .inl (h.at_ q fun i' h1 h2 => ?_)
    rcases Nat.eq_or_lt_of_le h1 with e | h1
    · rw [← e]; exact hv
    · exact hq i' h1 h2
  · right
    apply Classical.byContradiction
    intro hno
    refine hv fun v hm e => hno ?_
    obtain ⟨k, hk, ek⟩ := List.getElem_of_mem hm
    exact ⟨k, hk, by rw [List.getD_eq_getElem?_getD, List.getElem?_eq_getElem hk, Option.getD_some, ek]; exact e⟩
theorem AgreeP.off (i : Nat) (hi : i < ks.length) (way ts : List Int) : AgreeP ks i (setW (plW ks i) way (plW ks i).length ts) ts :=
  ⟨setW_len _ _ _ _, fun q hq => setW_off _ (Nat.le_refl _) fun v hv => hq i (Nat.le_refl _) hi v hv⟩
theorem apply_agree : ∀ (p : List Choice) {i : Nat} {a b : List Int}, AgreeP ks i a b → AgreeP ks (i + p.length) (applyP ks i p a) (applyP ks i p b)
  | [], i, a, b, h => h
  | (j, way) :: p, i, a, b, h => by
    have := apply_agree p (h.set (way := way))
    rw [show i + 1 + p.length = i + ((j, way) :: p).length by simp; omega] at this
    exact this
/-- What is written afterwards is all the same. -/
theorem apply_same {p : List Choice} {i : Nat} {a b : List Int} (h : AgreeP ks i a b) (hp : ks.length ≤ i + p.length) : applyP ks i p a = applyP ks i p b := by
  have h1 := apply_agree p h
  apply List.ext_getElem h1.len
  intro q h2 h3
  have := h1.at_ q fun i' h4 h5 => by omega
  rw [List.getD_eq_getElem?_getD, List.getD_eq_getElem?_getD, List.getElem?_eq_getElem h2, List.getElem?_eq_getElem h3] at this
  exact this
theorem paths_len : ∀ {d i : Nat} {used : Nat → Bool} {p : List Choice}, p ∈ pathsL ks d i used → p.length = d
  | 0, i, used, p, h => by
    rw [pathsL, List.mem_singleton] at h
    rw [h]; rfl
  | d + 1, i, used, p, h => by
    rw [pathsL, List.mem_flatMap] at h
    obtain ⟨j, _, h⟩ := h
    split at h
    · cases h
    · obtain ⟨way, _, h⟩ := List.mem_flatMap.1 h
      obtain ⟨p', h', rfl⟩ := List.mem_map.1 h
      rw [List.length_cons, paths_len h']
/-- The ways of one kind, gone through. -/
theorem ways_fold {d i j : Nat} {used : Nat → Bool} (hi : i < ks.length) (hd : ks.length ≤ i + 1 + d)
    (ih : ∀ (o : List (List Int)) (ts : List Int), ∃ ts', goR ks d (i + 1) used (o, ts) = (o ++ (pathsL ks d (i + 1) used).map (fun p => applyP ks (i + 1) p ts), ts') ∧ AgreeP ks (i + 1) ts' ts) (ts : List Int) :
    ∀ (W : List (List Int)) (o : List (List Int)) (ts0 : List Int), AgreeP ks i ts0 ts → ∃ ts', W.foldl (fun s way => goR ks d (i + 1) used (s.1, setW ((kAt ks i).ws.getD 0 []) way ((kAt ks i).ws.getD 0 []).length s.2)) (o, ts0) = (o ++ (W.flatMap fun way => (pathsL ks d (i + 1) used).map fun p => (j, way) :: p).map (fun p => applyP ks i p ts), ts') ∧ AgreeP ks i ts' ts
  | [], o, ts0, h => ⟨ts0, by simp, h⟩
  | way :: W, o, ts0, h => by
    obtain ⟨ts1, e1, h1⟩ := ih o (setW (plW ks i) way (plW ks i).length ts0)
    have hrow : (pathsL ks d (i + 1) used).map (fun p => applyP ks (i + 1) p (setW (plW ks i) way (plW ks i).length ts0)) = ((pathsL ks d (i + 1) used).map fun p => (j, way) :: p).map (fun p => applyP ks i p ts) := by
      rw [List.map_map]
      refine List.map_congr_left fun p hp => ?_
      show _ = applyP ks (i + 1) p (setW (plW ks i) way (plW ks i).length ts)
      exact apply_same h.set (by rw [paths_len hp]; exact hd)
    obtain ⟨ts2, e2, h2⟩ := ways_fold hi hd ih ts W (o ++ (pathsL ks d (i + 1) used).map (fun p => applyP ks (i + 1) p (setW (plW ks i) way (plW ks i).length ts0))) ts1 ((h1.up.trans (AgreeP.off i hi way ts0)).trans h)
    refine ⟨ts2, ?_, h2⟩
    rw [List.foldl_cons]
    show List.foldl _ (goR ks d (i + 1) used (o, setW (plW ks i) way (plW ks i).length ts0)) W = _
    rw [e1, e2, hrow, List.flatMap_cons, List.map_append, List.append_assoc]
/-- The rows are those of the paths. -/
theorem goR_paths : ∀ (d i : Nat) (used : Nat → Bool), i + d = ks.length → ∀ (o : List (List Int)) (ts : List Int), ∃ ts', goR ks d i used (o, ts) = (o ++ (pathsL ks d i used).map (fun p => applyP ks i p ts), ts') ∧ AgreeP ks i ts' ts
  | 0, i, used, h, o, ts => ⟨ts, rfl, AgreeP.refl _ _⟩
  | d + 1, i, used, h, o, ts => by
    have key : ∀ (J : List Nat) (o : List (List Int)) (ts0 : List Int), AgreeP ks i ts0 ts → ∃ ts', J.foldl (fun s j => if used j || !alikeK (kAt ks j) (kAt ks i) then s else (kAt ks j).ws.foldl (fun s way => goR ks d (i + 1) (updF used j true) (s.1, setW ((kAt ks i).ws.getD 0 []) way ((kAt ks i).ws.getD 0 []).length s.2)) s) (o, ts0) = (o ++ (J.flatMap fun j => if used j || !alikeK (kAt ks j) (kAt ks i) then [] else (kAt ks j).ws.flatMap fun way => (pathsL ks d (i + 1) (updF used j true)).map fun p => (j, way) :: p).map (fun p => applyP ks i p ts), ts') ∧ AgreeP ks i ts' ts := by
      intro J
      induction J with
      | nil => exact fun o ts0 h => ⟨ts0, by simp, h⟩
      | cons j J ihJ =>
        intro o ts0 hts
        rw [List.foldl_cons, List.flatMap_cons]
        by_cases hu : (used j || !alikeK (kAt ks j) (kAt ks i)) = true
        · rw [if_pos hu, if_pos hu, List.nil_append]
          exact ihJ o ts0 hts
        · rw [if_neg hu, if_neg hu]
          obtain ⟨ts1, e1, h1⟩ := ways_fold (j := j) (by omega) (by omega) (fun o ts => goR_paths d (i + 1) (updF used j true) (by omega) o ts) ts (kAt ks j).ws o ts0 hts
          rw [e1]
          obtain ⟨ts2, e2, h2⟩ := ihJ (o ++ ((kAt ks j).ws.flatMap fun way => (pathsL ks d (i + 1) (updF used j true)).map fun p => (j, way) :: p).map (fun p => applyP ks i p ts)) ts1 h1
          refine ⟨ts2, ?_, h2⟩
          rw [e2, List.map_append, List.append_assoc]
    rw [goR]
    obtain ⟨ts', e, h'⟩ := key (List.range ks.length) o ts (AgreeP.refl _ _)
    exact ⟨ts', e, h'⟩
end
end Go.Proofs.YtiajlmajenabiaaGreat
