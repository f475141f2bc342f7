/- Surfaces alike: corners that go to corners; a shell from a corner goes along. Plain. No condition. -/
import Derived.Test.YtiajlmajenabiaaGreatRt47
namespace Go.Proofs.YtiajlmajenabiaaGreat
open Go.RowKit

set_option linter.unusedSimpArgs false
set_option linter.unusedVariables false
structure Emb (T U : List Tri) (f : Nat → Nat) (g : Int → Int) : Prop where
  le : T.length ≤ U.length
  lt : ∀ c, c < 3 * T.length → f c < 3 * U.length
  nx : ∀ c, c < 3 * T.length → f (nxc c) = nxc (f c)
  op : ∀ c, c < 3 * T.length → oppF U (f c) = (oppF T c).map f
  inj : ∀ c d, c < 3 * T.length → d < 3 * T.length → f c = f d → c = d
  cv : ∀ c, c < 3 * T.length → cv U (f c) = g (cv T c)
  gi : ∀ c d, c < 3 * T.length → d < 3 * T.length → g (Go.Proofs.YtiajlmajenabiaaGreat.cv T c) = g (Go.Proofs.YtiajlmajenabiaaGreat.cv T d) → Go.Proofs.YtiajlmajenabiaaGreat.cv T c = Go.Proofs.YtiajlmajenabiaaGreat.cv T d
theorem same_tri {c d : Nat} : c / 3 = d / 3 ↔ d = c ∨ d = nxc c ∨ d = pvc c := by unfold nxc pvc; omega
section
variable {T U : List Tri} {f : Nat → Nat} {g : Int → Int}
theorem Emb.pv (h : Emb T U f g) (c : Nat) (hc : c < 3 * T.length) : f (pvc c) = pvc (f c) := by
  rw [← nxc_nxc, h.nx _ (nxc_lt hc), h.nx _ hc, nxc_nxc]
theorem Emb.tri (h : Emb T U f g) {c d : Nat} (hc : c < 3 * T.length) (hd : d < 3 * T.length) : f c / 3 = f d / 3 ↔ c / 3 = d / 3 := by
  rw [same_tri, same_tri, ← h.nx c hc, ← h.pv c hc]
  constructor
  · rintro (e | e | e)
    · exact Or.inl (h.inj _ _ hd hc e)
    · exact Or.inr (Or.inl (h.inj _ _ hd (nxc_lt hc) e))
    · exact Or.inr (Or.inr (h.inj _ _ hd (pvc_lt hc) e))
  · rintro (rfl | rfl | rfl)
    · exact Or.inl rfl
    · exact Or.inr (Or.inl rfl)
    · exact Or.inr (Or.inr rfl)
theorem Emb.over (h : Emb T U f g) {s : List Nat} (hs : RFi T s) {d : Nat} (hd : d < 3 * T.length) : overR U (f d) (s.map f) = (overR T d s).map f := by
  unfold overR
  rw [h.op d hd]
  cases ho : oppF T d with
  | none => rfl
  | some o =>
    have hol := (facing_some ho).1
    simp only [Option.map_some]
    have hm : (f o / 3 ∈ (s.map f).map (· / 3)) ↔ o / 3 ∈ s.map (· / 3) := by
      rw [List.map_map, List.mem_map, List.mem_map]
      constructor
      · rintro ⟨x, hx, e⟩
        exact ⟨x, hx, (h.tri (hs.lt x hx) hol).1 e⟩
      · rintro ⟨x, hx, e⟩
        exact ⟨x, hx, (h.tri (hs.lt x hx) hol).2 e⟩
    by_cases hin : o / 3 ∈ s.map (· / 3)
    · rw [if_pos hin, if_pos (hm.2 hin)]
    · rw [if_neg hin, if_neg (mt hm.1 hin), List.map_append]
      rfl
theorem Emb.step (h : Emb T U f g) {s : List Nat} (hs : RFi T s) {c : Nat} (hc : c < 3 * T.length) : stepR U (f c) (s.map f) = (stepR T c s).map f := by
  unfold stepR
  rw [← h.nx c hc, ← h.pv c hc, h.over hs (nxc_lt hc), h.over (overR_fi hs _) (pvc_lt hc)]
theorem Emb.bfs (h : Emb T U f g) : ∀ (n i : Nat) {s : List Nat}, RFi T s → bfsR U n i (s.map f) = (bfsR T n i s).map f
  | 0, _, _, _ => rfl
  | n + 1, i, s, hs => by
    by_cases hi : i < s.length
    · have hx : s[i]? = some s[i] := List.getElem?_eq_getElem hi
      have h1 : s.getD i 0 = s[i] := by simp [List.getD, hx]
      have h2 : (s.map f).getD i 0 = f s[i] := by simp [List.getD, hx]
      have hlt := hs.lt _ (List.getElem_mem hi)
      rw [bfsR_step hi, bfsR_step (by rw [List.length_map]; exact hi), h1, h2, h.step hs hlt, h.bfs n (i + 1) (stepR_fi hs _)]
    · have h1 : (s.map f).length ≤ i := by rw [List.length_map]; omega
      rw [bfsR_stop h1, bfsR_stop (show s.length ≤ i by omega)]
theorem bfsR_fuel : ∀ (n i k : Nat) {s : List Nat}, RFi T s → T.length + 1 ≤ n + i → bfsR T (n + k) i s = bfsR T n i s
  | 0, i, k, s, hs, hn => by
    have := hs.short
    have h1 : s.length ≤ i := by omega
    rw [bfsR_stop h1, bfsR_stop h1]
  | n + 1, i, k, s, hs, hn => by
    by_cases hi : i < s.length
    · rw [show n + 1 + k = (n + k) + 1 by omega, bfsR_step hi, bfsR_step hi]
      exact bfsR_fuel n (i + 1) k (stepR_fi hs _) (by omega)
    · have h1 : s.length ≤ i := by omega
      rw [bfsR_stop h1, bfsR_stop h1]
theorem Emb.rootC (h : Emb T U f g) {c : Nat} (hc : c < 3 * T.length) : rootC U (f c) = (rootC T c).map f := by
  unfold Go.Proofs.YtiajlmajenabiaaGreat.rootC
  have h1 : overR U (f c) [f c] = (overR T c [c]).map f := by
    have := h.over (s := [c]) ⟨fun x hx => by rw [List.mem_singleton.1 hx]; exact hc, by simp⟩ hc
    simpa using this
  rw [h1, h.bfs _ _ (start_fi hc)]
  congr 1
  obtain ⟨k, hk⟩ := Nat.le.dest h.le
  rw [show U.length + 1 = (T.length + 1) + k by omega]
  exact bfsR_fuel _ _ _ (start_fi hc) (by omega)
/-- The vertices are those of corners. -/
def CvL (T : List Tri) (o : List Int) : Prop := ∀ v ∈ o, ∃ c, c < 3 * T.length ∧ v = cv T c
theorem CvL.put {o : List Int} (h : CvL T o) {c : Nat} (hc : c < 3 * T.length) : CvL T (putW o (cv T c)) := by
  unfold putW
  split
  · exact h
  · intro v hv
    rcases List.mem_append.1 hv with hv | hv
    · exact h v hv
    · exact ⟨c, hc, List.mem_singleton.1 hv⟩
theorem CvL.putX {o : List Int} (h : CvL T o) {c : Nat} (hc : c < 3 * T.length) : CvL T (putX T o c) := ((h.put hc).put (nxc_lt hc)).put (pvc_lt hc)
theorem CvL.old {cs : List Nat} (h : ∀ c ∈ cs, c < 3 * T.length) : CvL T (oldC T cs) := by
  unfold oldC
  have : ∀ (cs : List Nat) (o : List Int), CvL T o → (∀ c ∈ cs, c < 3 * T.length) → CvL T (cs.foldl (Go.Proofs.YtiajlmajenabiaaGreat.putX T) o) := by
    intro cs
    induction cs with
    | nil => exact fun o ho _ => ho
    | cons c cs ih => exact fun o ho hc => ih _ (ho.putX (hc c List.mem_cons_self)) fun x hx => hc x (List.mem_cons_of_mem _ hx)
  exact this cs [] (fun v hv => by cases hv) h
theorem Emb.mem (h : Emb T U f g) {o : List Int} (ho : CvL T o) {c : Nat} (hc : c < 3 * T.length) : g (Go.Proofs.YtiajlmajenabiaaGreat.cv T c) ∈ o.map g ↔ Go.Proofs.YtiajlmajenabiaaGreat.cv T c ∈ o := by
  constructor
  · intro hm
    obtain ⟨v, hv, e⟩ := List.mem_map.1 hm
    obtain ⟨d, hd, rfl⟩ := ho v hv
    rw [← h.gi d c hd hc e]
    exact hv
  · exact fun hm => List.mem_map_of_mem hm
theorem Emb.put (h : Emb T U f g) {o : List Int} (ho : CvL T o) {c : Nat} (hc : c < 3 * T.length) : putW (o.map g) (Go.Proofs.YtiajlmajenabiaaGreat.cv U (f c)) = (putW o (Go.Proofs.YtiajlmajenabiaaGreat.cv T c)).map g := by
  unfold putW
  rw [h.cv c hc]
  by_cases hm : Go.Proofs.YtiajlmajenabiaaGreat.cv T c ∈ o
  · rw [if_pos hm, if_pos ((h.mem ho hc).2 hm)]
  · rw [if_neg hm, if_neg (mt (h.mem ho hc).1 hm), List.map_append]
    rfl
theorem Emb.putX (h : Emb T U f g) {o : List Int} (ho : CvL T o) {c : Nat} (hc : c < 3 * T.length) : putX U (o.map g) (f c) = (putX T o c).map g := by
  unfold Go.Proofs.YtiajlmajenabiaaGreat.putX
  rw [← h.nx c hc, ← h.pv c hc, h.put ho hc, h.put (ho.put hc) (nxc_lt hc), h.put ((ho.put hc).put (nxc_lt hc)) (pvc_lt hc)]
theorem Emb.old (h : Emb T U f g) {cs : List Nat} (hcs : ∀ c ∈ cs, c < 3 * T.length) : oldC U (cs.map f) = (oldC T cs).map g := by
  unfold oldC
  have : ∀ (cs : List Nat) (o : List Int), CvL T o → (∀ c ∈ cs, c < 3 * T.length) → (cs.map f).foldl (Go.Proofs.YtiajlmajenabiaaGreat.putX U) (o.map g) = (cs.foldl (Go.Proofs.YtiajlmajenabiaaGreat.putX T) o).map g := by
    intro cs
    induction cs with
    | nil => exact fun o _ _ => rfl
    | cons c cs ih =>
      intro o ho hc
      rw [List.map_cons, List.foldl_cons, List.foldl_cons, h.putX ho (hc c List.mem_cons_self)]
      exact ih _ (ho.putX (hc c List.mem_cons_self)) fun x hx => hc x (List.mem_cons_of_mem _ hx)
  exact this cs [] (fun v hv => by cases hv) hcs
theorem Emb.rootO (h : Emb T U f g) {c : Nat} (hc : c < 3 * T.length) : rootO U (f c) = (rootO T c).map g := by
  unfold Go.Proofs.YtiajlmajenabiaaGreat.rootO
  rw [h.rootC hc, h.old (rootC_fi hc).lt]
theorem idxOf_map {o : List Int} {v : Int} (hi : ∀ x ∈ o, g x = g v → x = v) : (o.map g).idxOf (g v) = o.idxOf v := by
  induction o with
  | nil => rfl
  | cons x o ih =>
    rw [List.map_cons, List.idxOf_cons, List.idxOf_cons]
    by_cases hx : x = v
    · subst hx; simp
    · have : ¬ g x = g v := fun e => hx (hi x List.mem_cons_self e)
      rw [ih fun y hy => hi y (List.mem_cons_of_mem _ hy), show (g x == g v) = false by simpa using this, show (x == v) = false by simpa using hx]
theorem Emb.idx (h : Emb T U f g) {o : List Int} (ho : CvL T o) {c : Nat} (hc : c < 3 * T.length) : (o.map g).idxOf (Go.Proofs.YtiajlmajenabiaaGreat.cv U (f c)) = o.idxOf (Go.Proofs.YtiajlmajenabiaaGreat.cv T c) := by
  rw [h.cv c hc]
  refine idxOf_map fun x hx e => ?_
  obtain ⟨d, hd, rfl⟩ := ho x hx
  exact h.gi d c hd hc e
theorem Emb.rootT (h : Emb T U f g) {c : Nat} (hc : c < 3 * T.length) : rootT U (f c) = rootT T c := by
  unfold Go.Proofs.YtiajlmajenabiaaGreat.rootT
  rw [h.rootC hc, h.old (rootC_fi hc).lt, List.map_map]
  refine List.map_congr_left fun d hd => ?_
  have hdl := (rootC_fi hc).lt d hd
  have ho := CvL.old (rootC_fi hc).lt
  show triR U _ (f d) = triR T _ d
  unfold triR
  rw [← h.nx d hdl, ← h.pv d hdl, h.idx ho hdl, h.idx ho (nxc_lt hdl), h.idx ho (pvc_lt hdl)]
theorem Emb.rowC (h : Emb T U f g) {c : Nat} (hc : c < 3 * T.length) : rowC U (f c) = rowC T c := by
  unfold Go.Proofs.YtiajlmajenabiaaGreat.rowC
  rw [h.rootT hc, h.rootO hc, List.length_map]
end
end Go.Proofs.YtiajlmajenabiaaGreat
