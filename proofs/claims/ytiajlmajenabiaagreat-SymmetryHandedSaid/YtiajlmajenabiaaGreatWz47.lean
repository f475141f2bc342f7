/- symmetry.All's rows, a path of choices each: plain. No condition. -/
import Derived.Test.YtiajlmajenabiaaGreatAllP
import Derived.Test.YtiajlmajenabiaaGreatWy47
set_option maxRecDepth 100000
set_option maxHeartbeats 16000000
set_option linter.all false
namespace Go.Proofs.YtiajlmajenabiaaGreat
open Go.RowKit
def plW (ks : List KindV) (i : Nat) : List Int := (kAt ks i).ws.getD 0 []
structure AgreeP (ks : List KindV) (i : Nat) (a b : List Int) : Prop where
 len : a.length = b.length
 at_ : ∀ q, (∀ i', i ≤ i' → i' < ks.length → ∀ v ∈ plW ks i', v.toNat ≠ q) → a.getD q 0 = b.getD q 0
section
variable {ks : List KindV}
theorem AgreeP.refl (i : Nat) (a : List Int) : AgreeP ks i a a := ⟨rfl, fun _ _ => rfl⟩
theorem AgreeP.trans {i : Nat} {a b c : List Int} (h : AgreeP ks i a b) (h' : AgreeP ks i b c) : AgreeP ks i a c := ⟨h.len.trans h'.len, fun q hq => (h.at_ q hq).trans (h'.at_ q hq)⟩
theorem AgreeP.symm {i : Nat} {a b : List Int} (h : AgreeP ks i a b) : AgreeP ks i b a := ⟨h.len.symm, fun q hq => (h.at_ q hq).symm⟩
theorem AgreeP.up {i : Nat} {a b : List Int} (h : AgreeP ks (i + 1) a b) : AgreeP ks i a b := ⟨h.len, fun q hq => h.at_ q fun i' hi => hq i' (by omega)⟩
theorem getD_setN {l : List Int} {p q : Nat} {x : Int} : (l.set p x).getD q 0 = if p = q ∧ p < l.length then x else l.getD q 0 := by
 rw [List.getD_eq_getElem?_getD, List.getD_eq_getElem?_getD, List.getElem?_set]
 by_cases h : p = q
 · subst h
   by_cases hl : p < l.length
   · simp [hl]
   · simp [hl]
 · simp [h]
theorem setW_off {V way ts : List Int} {q : Nat} : ∀ n, n ≤ V.length → (∀ v ∈ V, v.toNat ≠ q) → (setW V way n ts).getD q 0 = ts.getD q 0
 | 0, _, _ => rfl
 | n + 1, hn, h => by
  rw [setW, getD_setN]
  have hm : V.getD n 0 ∈ V := by rw [List.getD_eq_getElem?_getD, List.getElem?_eq_getElem (show n < V.length by omega)]; exact List.getElem_mem _
  rw [if_neg fun e => h _ hm e.1]
  exact setW_off n (by omega) h
theorem setW_agree {V way a b : List Int} (hl : a.length = b.length) {q : Nat} : ∀ n, n ≤ V.length → (a.getD q 0 = b.getD q 0 ∨ ∃ k, k < n ∧ (V.getD k 0).toNat = q) → (setW V way n a).getD q 0 = (setW V way n b).getD q 0
 | 0, _, h => by
  rcases h with h | ⟨k, hk, _⟩
  · exact h
  · omega
 | n + 1, hn, h => by
  rw [setW, setW, getD_setN, getD_setN, setW_len, setW_len, hl]
  by_cases e : (V.getD n 0).toNat = q ∧ (V.getD n 0).toNat < b.length
  · rw [if_pos e, if_pos e]
  · rw [if_neg e, if_neg e]
    by_cases hq : (V.getD n 0).toNat = q
    · have hb : b.length ≤ q := by
       apply Nat.le_of_not_lt
       intro hlt
       exact e ⟨hq, by omega⟩
      rw [List.getD_eq_getElem?_getD, List.getD_eq_getElem?_getD, List.getElem?_eq_none (by rw [setW_len, hl]; exact hb), List.getElem?_eq_none (by rw [setW_len]; exact hb)]
    · refine setW_agree hl n (by omega) ?_
      rcases h with h | ⟨k, hk, e2⟩
      · exact .inl h
      · rcases Nat.lt_succ_iff_lt_or_eq.1 hk with hk | rfl
        · exact .inr ⟨k, hk, e2⟩
        · exact absurd e2 hq
theorem AgreeP.set {i : Nat} {a b way : List Int} (h : AgreeP ks i a b) : AgreeP ks (i + 1) (setW (plW ks i) way (plW ks i).length a) (setW (plW ks i) way (plW ks i).length b) := by
 refine ⟨by rw [setW_len, setW_len, h.len], fun q hq => setW_agree h.len _ (Nat.le_refl _) ?_⟩
 by_cases hv : ∀ v ∈ plW ks i, v.toNat ≠ q
 · refine .inl (h.at_ q fun i' h1 h2 => ?_)
   rcases Nat.eq_or_lt_of_le h1 with e | h1
   · rw [← e]; exact hv
   · exact hq i' h1 h2
 · right
   apply Classical.byContradiction
   intro hno
   refine hv fun v hm e => hno ?_
   obtain ⟨k, hk, ek⟩ := List.getElem_of_mem hm
   exact ⟨k, hk, by rw [List.getD_eq_getElem?_getD, List.getElem?_eq_getElem hk, Option.getD_some, ek]; exact e⟩
theorem AgreeP.off (i : Nat) (hi : i < ks.length) (way ts : List Int) : AgreeP ks i (setW (plW ks i) way (plW ks i).length ts) ts :=
 ⟨setW_len _ _ _ _, fun q hq => setW_off _ (Nat.le_refl _) fun v hv => hq i (Nat.le_refl _) hi v hv⟩
end
end Go.Proofs.YtiajlmajenabiaaGreat
namespace Go.Proofs.YtiajlmajenabiaaGreat
open Go.RowKit
section
variable {ks : List KindV}
theorem nodup_mapI {α β : Type} {f : α → β} {l : List α} (hf : ∀ a ∈ l, ∀ b ∈ l, f a = f b → a = b) (h : l.Nodup) : (l.map f).Nodup := by
 unfold List.Nodup
 rw [List.pairwise_map]
 refine (List.Pairwise.and_mem.1 h).imp ?_
 rintro a b ⟨ha, hb, hab⟩ e
 exact hab (hf a ha b hb e)
end
end Go.Proofs.YtiajlmajenabiaaGreat
namespace Go.Proofs.YtiajlmajenabiaaGreat
open Go.RowKit
theorem len_sub {α : Type} [DecidableEq α] : ∀ {A B : List α}, A.Nodup → (∀ x ∈ A, x ∈ B) → A.length ≤ B.length
 | [], _, _, _ => Nat.zero_le _
 | a :: A, B, hn, h => by
  rw [List.nodup_cons] at hn
  have hb := h a List.mem_cons_self
  have := len_sub (B := B.erase a) hn.2 fun x hx => (List.mem_erase_of_ne (fun e => hn.1 (by rw [← e]; exact hx) : x ≠ a)).2 (h x (List.mem_cons_of_mem _ hx))
  rw [List.length_erase_of_mem hb] at this
  have := List.length_pos_of_mem hb
  rw [List.length_cons]
  omega
section
variable {m n : Nat} {T U : List Tri}
theorem nodup_full {L : List Int} (hn : L.Nodup) (h : ∀ v, v ∈ L ↔ 0 ≤ v ∧ v < (m : Int)) : L.length = m := by
 have h1 : (L.map Int.toNat).Nodup := nodup_mapI (fun a ha b hb e => by
  have := (h a).1 ha
  have := (h b).1 hb
  omega) hn
 have h2 := nodup_leN m h1 fun x hx => by
  obtain ⟨v, hv, rfl⟩ := List.mem_map.1 hx
  have := (h v).1 hv
  omega
 rw [List.length_map] at h2
 have h3 : (List.range m).length ≤ L.length := by
  have hs : ∀ x ∈ (List.range m).map (fun (x : Nat) => (x : Int)), x ∈ L := fun x hx => by
   obtain ⟨k, hk, rfl⟩ := List.mem_map.1 hx
   exact (h _).2 ⟨by omega, by have := List.mem_range.1 hk; omega⟩
  have hnd : ((List.range m).map (fun (x : Nat) => (x : Int))).Nodup := nodup_mapI (fun a _ b _ e => by omega) List.nodup_range
  have := len_sub hnd hs
  rwa [List.length_map] at this
 rw [List.length_range] at h3
 omega
end
end Go.Proofs.YtiajlmajenabiaaGreat
namespace Go.Proofs.YtiajlmajenabiaaGreat
open Go.RowKit
section
variable {m : Nat} {T : List Tri}
theorem vertex_shell (hs : SurfE m T) {x y : Nat} (hx : x < 3 * T.length) (hy : y < 3 * T.length) (h : cv T x = cv T y) : Re T (x / 3) (y / 3) := by
 have hb := cv_bd hs hx
 have hvx : cv T x ∈ verts (tri T (x / 3)) := verts_corner.2 ⟨x % 3, Nat.mod_lt _ (by decide), rfl⟩
 have hvy : cv T x ∈ verts (tri T (y / 3)) := by rw [h]; exact verts_corner.2 ⟨y % 3, Nat.mod_lt _ (by decide), rfl⟩
 have hc := hs.con (cv T x).toNat (by omega) (tri T (x / 3)) (tri T (y / 3)) (tri_mem (by omega)) (by rw [Int.toNat_of_nonneg hb.1]; exact hvx) (tri_mem (by omega)) (by rw [Int.toNat_of_nonneg hb.1]; exact hvy)
 rw [Int.toNat_of_nonneg hb.1] at hc
 have hne : ∀ i j, i < T.length → j < T.length → tri T i = tri T j → i = j := fun i j hi hj e => by
  have e1 := ct_edge (tri T i) (r := 0) (by decide)
  have e2 := ct_edge (tri T j) (r := 0) (by decide)
  have := ce_inj hs (c := 3 * i) (d := 3 * j) (by omega) (by omega) (by rw [ce_ct, ce_ct, show 3 * i / 3 = i by omega, show 3 * j / 3 = j by omega, e, show 3 * i % 3 = 0 by omega, show 3 * j % 3 = 0 by omega])
  omega
 obtain ⟨k, hk, e, hr⟩ := hc (fun t => ∃ k, k < T.length ∧ tri T k = t ∧ Re T (x / 3) k) ⟨x / 3, by omega, rfl, .refl _⟩ (by
  rintro t u ⟨k, hk, rfl, hr⟩ ⟨⟨_, h1⟩, ⟨hu, h2⟩, w, hw, h3, h4⟩
  obtain ⟨j, hj, rfl⟩ := tri_idx hu
  by_cases e : k = j
  · exact ⟨j, hj, rfl, e ▸ hr⟩
  · exact ⟨j, hj, rfl, hr.step (nbr_adj hs hk hj e hw h1 h3 h2 h4)⟩)
 rw [← hne k (y / 3) hk (by omega) e]
 exact hr
theorem rootO_apart (hs : SurfE m T) {c d : Nat} (hc : c < 3 * T.length) (hd : d < 3 * T.length) (hne : ofN T (c / 3) ≠ ofN T (d / 3)) : ∀ v ∈ rootO T c, v ∉ rootO T d := fun v h1 h2 => by
 obtain ⟨x, hx, rx, rfl⟩ := (rootO_iff hs hc v).1 h1
 obtain ⟨y, hy, ry, e⟩ := (rootO_iff hs hd _).1 h2
 have := vertex_shell hs hx hy e.symm
 exact hne ((ofN_re hs (by omega) (by omega)).2 ((rx.trans this).trans (ry.symm hs)))
theorem vertex_at (hs : SurfE m T) {v : Int} (hv : 0 ≤ v ∧ v < (m : Int)) : ∃ x, x < 3 * T.length ∧ cv T x = v := by
 obtain ⟨t, ht, h⟩ := hs.used v.toNat (by omega)
 obtain ⟨i, hi, rfl⟩ := tri_idx ht
 rw [Int.toNat_of_nonneg hv.1] at h
 obtain ⟨r, hr, e⟩ := verts_corner.1 h
 exact ⟨3 * i + r, by omega, by rw [cv_ct, show (3 * i + r) / 3 = i by omega, show (3 * i + r) % 3 = r by omega, e]⟩
end
end Go.Proofs.YtiajlmajenabiaaGreat
namespace Go.Proofs.YtiajlmajenabiaaGreat
open Go.RowKit
section
variable {m : Nat} {T : List Tri}
end
end Go.Proofs.YtiajlmajenabiaaGreat
namespace Go.Proofs.YtiajlmajenabiaaGreat
open Go.RowKit
def withF (T : List Tri) (a b : Int) : Option Nat := leastF (fun i => edgeB (tri T i) a b) 0 T.length
def hasW (T : List Tri) (a b : Int) : Bool := (withF T a b).isSome
section
variable {m n : Nat} {T U : List Tri}
theorem nxc_pvcW (c : Nat) : nxc (pvc c) = c := by unfold pvc nxc; omega
theorem ce_makeW {i r : Nat} (hr : r < 3) : ce T (3 * i + r) = ct (tri T i) r := by
 rw [ce_ct, show (3 * i + r) / 3 = i by omega, show (3 * i + r) % 3 = r by omega]
theorem withF_some (hs : SurfE m T) {a b : Int} {c : Nat} (hc : c < 3 * T.length) (he : ce T c = (a, b)) : withF T a b = some (c / 3) := by
 refine leastF_is (Nat.zero_le _) (by omega) ?_ fun i _ hi => ?_
 · have h1 := ct_edge (tri T (c / 3)) (Nat.mod_lt c (by omega : 0 < 3))
   rw [← ce_ct, he] at h1
   exact h1
 · cases hx : edgeB (tri T i) a b with
   | false => rfl
   | true =>
    obtain ⟨r, hr, e⟩ := edge_ct hx
    have h1 : ce T (3 * i + r) = ce T c := by rw [ce_makeW hr, e, he]
    have := ce_inj hs (by omega) hc h1
    omega
theorem withF_is {a b : Int} {i : Nat} (h : withF T a b = some i) : ∃ c, c < 3 * T.length ∧ c / 3 = i ∧ ce T c = (a, b) := by
 obtain ⟨_, h1, h2, _⟩ := leastF_some h
 obtain ⟨r, hr, e⟩ := edge_ct h2
 exact ⟨3 * i + r, by omega, by omega, by rw [ce_makeW hr, e]⟩
theorem hasW_iff (hs : SurfE m T) {a b : Int} : hasW T a b = true ↔ ∃ c, c < 3 * T.length ∧ ce T c = (a, b) := by
 unfold hasW
 rw [Option.isSome_iff_exists]
 constructor
 · rintro ⟨i, h⟩
   obtain ⟨c, h1, _, h2⟩ := withF_is h
   exact ⟨c, h1, h2⟩
 · rintro ⟨c, h1, h2⟩
   exact ⟨_, withF_some hs h1 h2⟩
def isT (U : List Tri) (a b c : Int) : Bool := match withF U a b with
 | none => false
 | some i => decide (withF U b c = some i)
theorem cv_same (hs : SurfE m T) {x y : Nat} (hx : x < 3 * T.length) (h : x / 3 = y / 3) (e : cv T x = cv T y) : x = y := by
 have h0 := tri_ok hs (show x / 3 < T.length by omega)
 have h1 := h0.ab
 have h2 := h0.bc
 have h3 := h0.ca
 unfold cv at e
 rw [← h] at e
 have hr := Nat.mod_lt x (show 0 < 3 by omega)
 have hq := Nat.mod_lt y (show 0 < 3 by omega)
 have hm : 3 * (x / 3) + x % 3 = x := by omega
 have hm' : 3 * (x / 3) + y % 3 = y := by omega
 generalize x % 3 = r at *
 generalize y % 3 = s at *
 generalize x / 3 = q at *
 generalize tri T q = t at *
 have key : r = s := by
  rcases (by omega : r = 0 ∨ r = 1 ∨ r = 2) with rfl | rfl | rfl <;> rcases (by omega : s = 0 ∨ s = 1 ∨ s = 2) with rfl | rfl | rfl <;> first | rfl | (exfalso; simp [cornerT] at e; first | exact h1 e | exact h1 e.symm | exact h2 e | exact h2 e.symm | exact h3 e | exact h3 e.symm)
 omega
theorem isT_iff (hs : SurfE m U) {a b c : Int} : isT U a b c = true ↔ ∃ y, y < 3 * U.length ∧ cv U y = a ∧ cv U (nxc y) = b ∧ cv U (pvc y) = c := by
 constructor
 · intro h
   unfold isT at h
   split at h
   · cases h
   · rename_i i hi
     rw [decide_eq_true_iff] at h
     obtain ⟨p, hp, hpi, hpe⟩ := withF_is hi
     obtain ⟨q, hq, hqi, hqe⟩ := withF_is h
     unfold ce at hpe hqe
     injection hpe with p1 p2
     injection hqe with q1 q2
     have h1 : nxc q = pvc p := cv_same hs (nxc_lt hq) (by unfold nxc pvc; omega) (by rw [q1, p2])
     refine ⟨nxc p, nxc_lt hp, p1, ?_, ?_⟩
     · rw [nxc_nxc]; exact p2
     · rw [← q2]
       congr 1
       unfold nxc pvc at *
       omega
 · rintro ⟨y, hy, rfl, rfl, rfl⟩
   unfold isT
   have h1 : ce U (pvc y) = (cv U y, cv U (nxc y)) := by unfold ce; rw [nxc_pvcW, pvc_pvc]
   have h2 : ce U y = (cv U (nxc y), cv U (pvc y)) := rfl
   rw [withF_some hs (pvc_lt hy) h1, withF_some hs hy h2]
   dsimp only
   rw [decide_eq_true_iff]
   congr 1
   unfold pvc
   omega
end
end Go.Proofs.YtiajlmajenabiaaGreat
namespace Go.Proofs.YtiajlmajenabiaaGreat
open Go.RowKit
def pairFit (T U : List Tri) (to' : List Int) (v : Nat) (w : Int) (u : Nat) : Bool :=
 !(decide (to'.getD u 0 = w)) && (hasW T u v == hasW U (to'.getD u 0) w) && (hasW T v u == hasW U w (to'.getD u 0))
def goX (to' : List Int) (v : Nat) (w z : Int) : Int := if z < (v : Int) then to'.getD z.toNat 0 else w
def triOff (v : Nat) (t : Tri) : Bool := decide ((v : Int) < t.a ∨ (v : Int) < t.b ∨ (v : Int) < t.c ∨ (t.a ≠ (v : Int) ∧ t.b ≠ (v : Int) ∧ t.c ≠ (v : Int)))
def triFit (U : List Tri) (to' : List Int) (v : Nat) (w : Int) (t : Tri) : Bool :=
 triOff v t || isT U (goX to' v w t.a) (goX to' v w t.b) (goX to' v w t.c)
def fitsR (T U : List Tri) (to' : List Int) (w : Int) : Bool :=
 (List.range to'.length).all (pairFit T U to' to'.length w) && T.all (triFit U to' to'.length w)
def extR (T U : List Tri) (m : Nat) : Nat → List Int → List (List Int)
 | 0, to' => [to']
 | d + 1, to' => (List.range m).flatMap fun (w : Nat) => if fitsR T U to' (w : Int) then extR T U m d (to' ++ [(w : Int)]) else []
section
variable {m n : Nat} {T U : List Tri}
theorem ext_mem : ∀ {d : Nat} {to' rn : List Int}, rn ∈ extR T U m d to' ↔ (rn.length = to'.length + d ∧ rn.take to'.length = to' ∧ ∀ k, to'.length ≤ k → k < to'.length + d → ∃ w : Nat, w < m ∧ rn.getD k 0 = (w : Int) ∧ fitsR T U (rn.take k) (w : Int) = true)
 | 0, to', rn => by
  rw [extR, List.mem_singleton]
  constructor
  · rintro rfl
    exact ⟨rfl, List.take_length, fun k h1 h2 => by omega⟩
  · rintro ⟨h1, h2, _⟩
    rw [← h2]
    exact (List.take_of_length_le (by omega)).symm
 | d + 1, to', rn => by
  rw [extR, List.mem_flatMap]
  constructor
  · rintro ⟨w, hw, h⟩
    rw [List.mem_range] at hw
    split at h
    · rename_i hf
      obtain ⟨h1, h2, h3⟩ := ext_mem.1 h
      rw [List.length_append, List.length_singleton] at h1 h2 h3
      have h4 : rn.take to'.length = to' := by
       have := congrArg (List.take to'.length) h2
       rw [List.take_take, Nat.min_eq_left (by omega), List.take_append_of_le_length (Nat.le_refl _), List.take_length] at this
       exact this
      refine ⟨by omega, h4, fun k hk1 hk2 => ?_⟩
      by_cases e : k = to'.length
      · subst e
        refine ⟨w, hw, ?_, by rw [h4]; exact hf⟩
        have h5 : (rn.take (to'.length + 1)).getD to'.length 0 = (w : Int) := by rw [h2]; simp
        rw [List.getD_eq_getElem?_getD, List.getElem?_take_of_lt (by omega)] at h5
        exact h5
      · exact h3 k (by omega) (by omega)
    · cases h
  · rintro ⟨h1, h2, h3⟩
    obtain ⟨w, hw, hr, hf⟩ := h3 to'.length (Nat.le_refl _) (by omega)
    refine ⟨w, List.mem_range.2 hw, ?_⟩
    rw [h2] at hf
    rw [if_pos hf, ext_mem]
    refine ⟨by simp; omega, ?_, fun k hk1 hk2 => ?_⟩
    · rw [List.length_append, List.length_singleton, List.take_add_one, h2]
      have hl : to'.length < rn.length := by omega
      rw [List.getElem?_eq_getElem hl]
      rw [List.getD_eq_getElem?_getD, List.getElem?_eq_getElem hl, Option.getD_some] at hr
      rw [hr]
      rfl
    · rw [List.length_append, List.length_singleton] at hk1 hk2
      exact h3 k (by omega) (by omega)
theorem take_getD {l : List Int} {u v : Nat} (h : u < v) : (l.take v).getD u 0 = l.getD u 0 := by
 rw [List.getD_eq_getElem?_getD, List.getElem?_take_of_lt h, List.getD_eq_getElem?_getD]
theorem goX_take {rn : List Int} {v : Nat} {z : Int} (h0 : 0 ≤ z) (h1 : z ≤ (v : Int)) : goX (rn.take v) v (rn.getD v 0) z = gS rn z := by
 unfold goX gS
 split
 · exact take_getD (by omega)
 · rw [show z.toNat = v by omega]
theorem has_go {rn : List Int} (h : IsoL m T U rn) (hs : SurfE m T) (hu : SurfE m U) (hl : T.length = U.length) {u v : Nat} (hu' : u < m) (hv : v < m) : hasW T u v = hasW U (rn.getD u 0) (rn.getD v 0) := by
 obtain ⟨f, hf, hg, ho⟩ := h.emb hs hu hl
 have e1 : ∀ {k : Nat}, rn.getD k 0 = gS rn (k : Int) := fun {k} => by unfold gS; rw [Int.toNat_natCast]
 rw [e1, e1, Bool.eq_iff_iff, hasW_iff hs, hasW_iff hu]
 constructor
 · rintro ⟨c, hc, e⟩
   refine ⟨f c, (hf.2 c hc), ?_⟩
   rw [goes_ce (hg c hc), e]
 · rintro ⟨y, hy, e⟩
   obtain ⟨c, hc, rfl⟩ := ho y hy
   refine ⟨c, hc, ?_⟩
   rw [goes_ce (hg c hc)] at e
   injection e with e2 e3
   exact Prod.ext (h.inj (cv_bd hs (nxc_lt hc)) ⟨by omega, by omega⟩ e2) (h.inj (cv_bd hs (pvc_lt hc)) ⟨by omega, by omega⟩ e3)
theorem tri_goes (hu : SurfE n U) {g : Int → Int} {i : Nat} : isT U (g (tri T i).a) (g (tri T i).b) (g (tri T i).c) = true ↔ ∃ y, y < 3 * U.length ∧ GoesC T U g (3 * i) y := by
 rw [isT_iff hu]
 have a0 : cv T (3 * i) = (tri T i).a := by rw [cv_ct, show 3 * i / 3 = i by omega, show 3 * i % 3 = 0 by omega]; rfl
 have a1 : cv T (nxc (3 * i)) = (tri T i).b := by rw [cv_ct, show nxc (3 * i) / 3 = i by unfold nxc; omega, show nxc (3 * i) % 3 = 1 by unfold nxc; omega]; rfl
 have a2 : cv T (pvc (3 * i)) = (tri T i).c := by rw [cv_ct, show pvc (3 * i) / 3 = i by unfold pvc; omega, show pvc (3 * i) % 3 = 2 by unfold pvc; omega]; rfl
 unfold GoesC
 rw [a0, a1, a2]
theorem ext_iff (hs : SurfE m T) (hu : SurfE m U) (hl : T.length = U.length) (rn : List Int) : rn ∈ extR T U m m [] ↔ IsoL m T U rn := by
 rw [ext_mem]
 simp only [List.length_nil, Nat.zero_add, List.take_zero, Nat.zero_le, true_and, forall_const]
 constructor
 · rintro ⟨hlen, hk⟩
   refine ⟨hlen, ?_, ?_, ?_⟩
   · refine List.pairwise_iff_getElem.2 fun i j hi hj hij e => ?_
     obtain ⟨w, hw, hr, hf⟩ := hk j (by omega)
     unfold fitsR at hf
     rw [Bool.and_eq_true, List.all_eq_true] at hf
     have h1 := hf.1 i (List.mem_range.2 (by rw [List.length_take]; omega))
     unfold pairFit at h1
     rw [take_getD (by rw [List.length_take] at *; omega)] at h1
     simp only [Bool.and_eq_true, Bool.not_eq_true', decide_eq_false_iff_not] at h1
     refine h1.1.1 ?_
     rw [← hr, List.getD_eq_getElem?_getD, List.getD_eq_getElem?_getD, List.getElem?_eq_getElem hi, List.getElem?_eq_getElem hj, e]
   · intro v hv
     obtain ⟨i, hi, rfl⟩ := List.getElem_of_mem hv
     obtain ⟨w, hw, hr, _⟩ := hk i (by omega)
     rw [List.getD_eq_getElem?_getD, List.getElem?_eq_getElem hi, Option.getD_some] at hr
     rw [hr]
     omega
   · intro x hx
     have ht := tri_ok hs (show x / 3 < T.length by omega)
     obtain ⟨v, hv⟩ : ∃ v : Nat, (v : Int) = max (max (tri T (x / 3)).a (tri T (x / 3)).b) (tri T (x / 3)).c := ⟨(max (max (tri T (x / 3)).a (tri T (x / 3)).b) (tri T (x / 3)).c).toNat, by have := ht.a0; omega⟩
     have hvm : v < m := by have := ht.a1; have := ht.b1; have := ht.c1; omega
     obtain ⟨w, hw, hr, hf⟩ := hk v hvm
     unfold fitsR at hf
     rw [Bool.and_eq_true, List.all_eq_true, List.all_eq_true, List.length_take, Nat.min_eq_left (by omega)] at hf
     have h1 := hf.2 (tri T (x / 3)) (tri_mem (by omega))
     unfold triFit triOff at h1
     rw [← hr, goX_take ht.a0 (by omega), goX_take ht.b0 (by omega), goX_take ht.c0 (by omega), decide_eq_false (by omega), Bool.false_or, tri_goes hu] at h1
     obtain ⟨y, hy, hg⟩ := h1
     have hg1 := goes_nx hg
     have hg2 := goes_nx hg1
     rcases (by omega : x % 3 = 0 ∨ x % 3 = 1 ∨ x % 3 = 2) with h | h | h
     · refine ⟨y, hy, ?_⟩
       rw [show 3 * (x / 3) = x by omega] at hg
       exact hg
     · refine ⟨nxc y, nxc_lt hy, ?_⟩
       rw [show nxc (3 * (x / 3)) = x by unfold nxc; omega] at hg1
       exact hg1
     · refine ⟨nxc (nxc y), nxc_lt (nxc_lt hy), ?_⟩
       rw [show nxc (nxc (3 * (x / 3))) = x by unfold nxc; omega] at hg2
       exact hg2
 · intro h
   refine ⟨h.len, fun k hk => ?_⟩
   have hkl : k < rn.length := by rw [h.len]; exact hk
   have hb := h.bd rn[k] (List.getElem_mem hkl)
   have hr : rn.getD k 0 = rn[k] := by rw [List.getD_eq_getElem?_getD, List.getElem?_eq_getElem hkl, Option.getD_some]
   have hw : ((rn[k].toNat : Nat) : Int) = rn.getD k 0 := by rw [hr]; omega
   refine ⟨rn[k].toNat, by omega, hw.symm, ?_⟩
   rw [hw]
   unfold fitsR
   rw [Bool.and_eq_true, List.all_eq_true, List.all_eq_true, List.length_take, Nat.min_eq_left (by omega)]
   refine ⟨fun u hu' => ?_, fun t ht => ?_⟩
   · rw [List.mem_range] at hu'
     unfold pairFit
     rw [take_getD hu', ← has_go h hs hu hl (by omega) hk, ← has_go h hs hu hl hk (by omega)]
     simp only [beq_self_eq_true, Bool.and_true, Bool.not_eq_true', decide_eq_false_iff_not]
     intro e
     have hul : u < rn.length := by omega
     rw [hr, List.getD_eq_getElem?_getD, List.getElem?_eq_getElem hul, Option.getD_some] at e
     exact absurd (nodup_at h.nd hul hkl e) (by omega)
   · obtain ⟨i, hi, rfl⟩ := tri_idx ht
     have hok := tri_ok hs hi
     unfold triFit
     by_cases ho : triOff k (tri T i) = true
     · rw [ho]; rfl
     · have ho' := ho
       unfold triOff at ho'
       rw [decide_eq_true_iff] at ho'
       rw [goX_take hok.a0 (by omega), goX_take hok.b0 (by omega), goX_take hok.c0 (by omega), Bool.or_eq_true]
       right
       rw [tri_goes hu]
       exact h.tri (3 * i) (by omega)
end
end Go.Proofs.YtiajlmajenabiaaGreat
namespace Go.Proofs.YtiajlmajenabiaaGreat
open Go.RowKit
section
variable {m : Nat} {T : List Tri}
end
end Go.Proofs.YtiajlmajenabiaaGreat
namespace Go.Proofs.YtiajlmajenabiaaGreat
open Go.RowKit
section
variable {m : Nat} {T U V : List Tri} {a b : List Int}
theorem gS_comp {v : Int} (h0 : 0 ≤ v) (h1 : v < (a.length : Int)) : gS (compL a b) v = gS b (gS a v) := by
 unfold compL gS
 have hl : v.toNat < a.length := by omega
 rw [List.getD_eq_getElem?_getD, List.getElem?_map, List.getD_eq_getElem?_getD (l := a), List.getElem?_eq_getElem hl]
 rfl
theorem comp_iso (ha : IsoL m T U a) (hb : IsoL m U V b) (hs : SurfE m T) : IsoL m T V (compL a b) := by
 have hl : (compL a b).length = m := by unfold compL; rw [List.length_map, ha.len]
 refine ⟨hl, ?_, fun v hv => ?_, fun x hx => ?_⟩
 · unfold compL
   exact nodup_mapI (fun x hx y hy e => hb.inj (ha.bd x hx) (ha.bd y hy) e) ha.nd
 · unfold compL at hv
   obtain ⟨x, hx, rfl⟩ := List.mem_map.1 hv
   obtain ⟨h1, h2⟩ := ha.bd x hx
   refine hb.bd _ ?_
   obtain ⟨h3, h4⟩ := gS_at (rn := b) h1 (by rw [hb.len]; exact h2)
   unfold gS at h4
   rw [h4]
   exact List.getElem_mem _
 · obtain ⟨y, hy, h1, h2, h3⟩ := ha.tri x hx
   obtain ⟨z, hz, h4, h5, h6⟩ := hb.tri y hy
   have key : ∀ {c : Nat}, c < 3 * T.length → gS (compL a b) (cv T c) = gS b (gS a (cv T c)) := fun {c} hc => by
    have := cv_bd hs hc
    exact gS_comp this.1 (by rw [ha.len]; exact this.2)
   refine ⟨z, hz, ?_, ?_, ?_⟩
   · rw [key hx, ← h1, h4]
   · rw [key (nxc_lt hx), ← h2, h5]
   · rw [key (pvc_lt hx), ← h3, h6]
end
end Go.Proofs.YtiajlmajenabiaaGreat
namespace Go.Proofs.YtiajlmajenabiaaGreat
open Go.RowKit
section
variable {m n : Nat} {T U : List Tri} {rn : List Int}
theorem iso_full (h : IsoL m T U rn) {v : Int} (hv : 0 ≤ v ∧ v < (m : Int)) : v ∈ rn := by
 have hat : ∀ x, x < m → ∃ hx : x < rn.length, rn.getD x 0 = rn[x] := fun x hx => ⟨by rw [h.len]; exact hx, by rw [List.getD_eq_getElem?_getD, List.getElem?_eq_getElem (by rw [h.len]; exact hx), Option.getD_some]⟩
 obtain ⟨x, hx, e⟩ := onto_of (N := m) (f := fun x => (rn.getD x 0).toNat) (fun x hx => by
  obtain ⟨h1, h2⟩ := hat x hx
  have := h.bd _ (List.getElem_mem h1)
  try dsimp only
  omega) (fun x y hx hy e => by
  obtain ⟨h1, h2⟩ := hat x hx
  obtain ⟨h3, h4⟩ := hat y hy
  have b1 := h.bd _ (List.getElem_mem h1)
  have b2 := h.bd _ (List.getElem_mem h3)
  try dsimp only at e
  exact nodup_at h.nd h1 h3 (by omega)) (y := v.toNat) (by omega)
 obtain ⟨h1, h2⟩ := hat x hx
 have b1 := h.bd _ (List.getElem_mem h1)
 try dsimp only at e
 have : rn[x] = v := by omega
 rw [← this]
 exact List.getElem_mem _
def invL (m : Nat) (rn : List Int) : List Int := (List.range m).map fun (v : Nat) => (rn.idxOf (v : Int) : Int)
theorem gS_inv (h : IsoL m T U rn) {z : Int} (hz : 0 ≤ z ∧ z < (m : Int)) : gS (invL m rn) (gS rn z) = z := by
 obtain ⟨h1, e1⟩ := gS_at (rn := rn) hz.1 (by rw [h.len]; exact hz.2)
 have hm := List.getElem_mem h1
 have hb := h.bd _ hm
 rw [e1]
 obtain ⟨v, hv⟩ : ∃ v, v = rn[z.toNat] := ⟨_, rfl⟩
 rw [← hv] at hm hb ⊢
 unfold gS invL
 rw [List.getD_eq_getElem?_getD, List.getElem?_map, List.getElem?_range (by omega), Option.map_some, Option.getD_some, show ((v.toNat : Nat) : Int) = v by omega]
 have hl := List.idxOf_lt_length_iff.2 hm
 have := nodup_at h.nd hl h1 (by rw [List.getElem_idxOf]; exact hv)
 omega
theorem IsoL.inv (h : IsoL m T U rn) (hs : SurfE m T) (hu : SurfE m U) (hl : T.length = U.length) : IsoL m U T (invL m rn) := by
 refine ⟨by simp [invL], ?_, fun v hv => ?_, fun y hy => ?_⟩
 · unfold invL
   refine nodup_mapI (fun a ha b hb e => ?_) List.nodup_range
   have h1 := iso_full h (v := (a : Int)) ⟨by omega, by have := List.mem_range.1 ha; omega⟩
   have h2 := iso_full h (v := (b : Int)) ⟨by omega, by have := List.mem_range.1 hb; omega⟩
   have e1 := getD_idxOf h1
   have e2 := getD_idxOf h2
   have e' : rn.idxOf (a : Int) = rn.idxOf (b : Int) := by (try dsimp only at e); omega
   rw [e', e2] at e1
   omega
 · unfold invL at hv
   obtain ⟨a, ha, rfl⟩ := List.mem_map.1 hv
   have h1 := iso_full h (v := (a : Int)) ⟨by omega, by have := List.mem_range.1 ha; omega⟩
   have := List.idxOf_lt_length_iff.2 h1
   rw [h.len] at this
   omega
 · obtain ⟨f, hf, hg, ho⟩ := h.emb hs hu hl
   obtain ⟨x, hx, rfl⟩ := ho y hy
   obtain ⟨h1, h2, h3⟩ := hg x hx
   refine ⟨x, hx, ?_, ?_, ?_⟩
   · rw [h1, gS_inv h (cv_bd hs hx)]
   · rw [h2, gS_inv h (cv_bd hs (nxc_lt hx))]
   · rw [h3, gS_inv h (cv_bd hs (pvc_lt hx))]
theorem put_apart {p : List Nat} (hp : Put T p) : (putL T p).Pairwise fun c d => ofN T (c / 3) ≠ ofN T (d / 3) := by
 unfold putL
 rw [List.pairwise_map]
 have hnd : p.Nodup := hp.perm.nodup_iff.2 List.nodup_range
 refine (List.Pairwise.and_mem.1 hnd).imp ?_
 rintro a b ⟨ha, hb, hab⟩ e
 have h1 := List.mem_range.1 (hp.perm.mem_iff.1 ha)
 have h2 := List.mem_range.1 (hp.perm.mem_iff.1 hb)
 rw [(bestN_is h1).2.of, (bestN_is h2).2.of] at e
 exact hab e
theorem put_cover (hs : SurfE m T) {p : List Nat} (hp : Put T p) {x : Nat} (hx : x < T.length) : ∃ c ∈ putL T p, Re T (c / 3) x := by
 have hk := ofN_lt hx
 have hb := (bestN_is hk).2
 refine ⟨bestN T (ofN T x), List.mem_map_of_mem (hp.perm.mem_iff.2 (List.mem_range.2 hk)), ?_⟩
 exact (ofN_re hs (by have := hb.lt; omega) hx).1 hb.of
theorem olds_nd (hs : SurfE m T) {p : List Nat} (hp : Put T p) : (oldsC T (putL T p)).Nodup := by
 have hm := (put_mem hp).2
 unfold oldsC List.Nodup
 rw [List.pairwise_flatMap]
 refine ⟨fun c hc => oldC_nd _, (List.Pairwise.and_mem.1 (put_apart hp)).imp ?_⟩
 rintro c d ⟨hc, hd, hcd⟩ x hx y hy e
 exact rootO_apart hs (hm c hc) (hm d hd) hcd x hx (by rw [e]; exact hy)
theorem olds_full (hs : SurfE m T) {p : List Nat} (hp : Put T p) (v : Int) : v ∈ oldsC T (putL T p) ↔ 0 ≤ v ∧ v < (m : Int) := by
 have hm := (put_mem hp).2
 unfold oldsC
 rw [List.mem_flatMap]
 constructor
 · rintro ⟨c, hc, hv⟩
   exact rootO_bd hs (hm c hc) v hv
 · intro hv
   obtain ⟨x, hx, rfl⟩ := vertex_at hs hv
   obtain ⟨c, hc, hr⟩ := put_cover hs hp (show x / 3 < T.length by omega)
   exact ⟨c, hc, (rootO_iff hs (hm c hc) _).2 ⟨x, hx, hr, rfl⟩⟩
theorem olds_len (hs : SurfE m T) {p : List Nat} (hp : Put T p) : (oldsC T (putL T p)).length = m := nodup_full (olds_nd hs hp) (olds_full hs hp)
theorem put_tri (hs : SurfE m T) {p : List Nat} (hp : Put T p) {x : Nat} (hx : x < T.length) : ∃ y ∈ (putL T p).flatMap (rootC T), y / 3 = x := by
 obtain ⟨c, hc, hr⟩ := put_cover hs hp hx
 obtain ⟨y, hy, e⟩ := List.mem_map.1 ((rootC_re hs ((put_mem hp).2 c hc) x).2 hr)
 exact ⟨y, List.mem_flatMap.2 ⟨c, hc, hy⟩, e⟩
theorem putT_lt (hs : SurfE m T) {p : List Nat} (hp : Put T p) {y : Nat} (hy : y ∈ (putL T p).flatMap (rootC T)) : y < 3 * T.length := by
 obtain ⟨c, hc, h⟩ := List.mem_flatMap.1 hy
 exact (rootC_fi ((put_mem hp).2 c hc)).lt y h
theorem put_tris (hs : SurfE m T) {p : List Nat} (hp : Put T p) : ((putL T p).flatMap (rootC T)).length = T.length := by
 have hm := (put_mem hp).2
 have hnd : (((putL T p).flatMap (rootC T)).map (· / 3)).Nodup := by
  rw [List.map_flatMap]
  unfold List.Nodup
  rw [List.pairwise_flatMap]
  refine ⟨fun c hc => (rootC_fi (hm c hc)).nd, (List.Pairwise.and_mem.1 (put_apart hp)).imp ?_⟩
  rintro c d ⟨hc, hd, hcd⟩ x hx y hy rfl
  have h1 := (rootC_re hs (hm c hc) x).1 hx
  have h2 := (rootC_re hs (hm d hd) x).1 hy
  have hcl := hm c hc
  have hdl := hm d hd
  exact hcd ((ofN_re hs (by omega) (by omega)).2 (h1.trans (h2.symm hs)))
 have h1 := nodup_leN T.length hnd fun x hx => by
  obtain ⟨y, hy, rfl⟩ := List.mem_map.1 hx
  have := putT_lt hs hp hy
  omega
 have h2 : (List.range T.length).length ≤ (((putL T p).flatMap (rootC T)).map (· / 3)).length := by
  refine len_sub List.nodup_range fun x hx => ?_
  obtain ⟨y, hy, e⟩ := put_tri hs hp (List.mem_range.1 hx)
  exact List.mem_map.2 ⟨y, hy, e⟩
 rw [List.length_map] at h1 h2
 rw [List.length_range] at h2
 omega
theorem join_map (hs : SurfE m T) : ∀ (l : List Nat) (k : Int), (∀ c ∈ l, c < 3 * T.length) → (l.Pairwise fun c d => ofN T (c / 3) ≠ ofN T (d / 3)) → joinC T l k = (l.flatMap (rootC T)).map fun x => shiftT k (triR T (oldsC T l) x)
 | [], _, _, _ => rfl
 | c :: l, k, hm, ha => by
  have ih := join_map hs l (k + (rootO T c).length) (fun x hx => hm x (List.mem_cons_of_mem _ hx)) (List.pairwise_cons.1 ha).2
  have hc := hm c List.mem_cons_self
  have ho : oldsC T (c :: l) = rootO T c ++ oldsC T l := rfl
  rw [joinC, ih, List.flatMap_cons, List.map_append, ho]
  congr 1
  · unfold rootT
    rw [List.map_map]
    refine List.map_congr_left fun x hx => ?_
    have m1 : cv T x ∈ rootO T c := (oldC_iff _ _).2 ⟨_, hx, .inl rfl⟩
    have m2 : cv T (nxc x) ∈ rootO T c := (oldC_iff _ _).2 ⟨_, hx, .inr (.inl rfl)⟩
    have m3 : cv T (pvc x) ∈ rootO T c := (oldC_iff _ _).2 ⟨_, hx, .inr (.inr rfl)⟩
    unfold triR
    rw [List.idxOf_append, List.idxOf_append, List.idxOf_append, if_pos m1, if_pos m2, if_pos m3]
    rfl
  · refine List.map_congr_left fun x hx => ?_
    obtain ⟨d, hd, hx⟩ := List.mem_flatMap.1 hx
    have hdl := hm d (List.mem_cons_of_mem _ hd)
    have hne := (List.pairwise_cons.1 ha).1 d hd
    have hno : ∀ {v : Int}, v ∈ rootO T d → ¬ v ∈ rootO T c := fun {v} h h' => rootO_apart hs hc hdl hne v h' h
    have m1 : cv T x ∈ rootO T d := (oldC_iff _ _).2 ⟨_, hx, .inl rfl⟩
    have m2 : cv T (nxc x) ∈ rootO T d := (oldC_iff _ _).2 ⟨_, hx, .inr (.inl rfl)⟩
    have m3 : cv T (pvc x) ∈ rootO T d := (oldC_iff _ _).2 ⟨_, hx, .inr (.inr rfl)⟩
    unfold triR
    rw [List.idxOf_append, List.idxOf_append, List.idxOf_append, if_neg (hno m1), if_neg (hno m2), if_neg (hno m3)]
    unfold shiftT
    try dsimp only
    simp only [Tri.mk.injEq]
    omega
theorem form_iso (hs : SurfE m T) (hu : SurfE n U) {p q : List Nat} (hp : Put T p) (hq : Put U q) (h1 : (oldsC T (putL T p)).length = (oldsC U (putL U q)).length) (h2 : joinC T (putL T p) 0 = joinC U (putL U q) 0) :
  m = n ∧ T.length = U.length ∧ ∃ rn, IsoL m T U rn := by
 have hl1 := olds_len hs hp
 have hl2 := olds_len hu hq
 have hmn : m = n := by omega
 subst hmn
 rw [join_map hs _ _ (put_mem hp).2 (put_apart hp), join_map hu _ _ (put_mem hq).2 (put_apart hq)] at h2
 have ht1 := put_tris hs hp
 have ht2 := put_tris hu hq
 have hlt := congrArg List.length h2
 rw [List.length_map, List.length_map, ht1, ht2] at hlt
 refine ⟨rfl, hlt, (List.range m).map fun (v : Nat) => (oldsC U (putL U q)).getD ((oldsC T (putL T p)).idxOf (v : Int)) 0, ?_⟩
 obtain ⟨rn, hrn⟩ : ∃ rn, rn = (List.range m).map fun (v : Nat) => (oldsC U (putL U q)).getD ((oldsC T (putL T p)).idxOf (v : Int)) 0 := ⟨_, rfl⟩
 rw [← hrn]
 have hfull := olds_full hs hp
 have hfull2 := olds_full hu hq
 have hnd2 := olds_nd hu hq
 have hg : ∀ v : Int, 0 ≤ v ∧ v < (m : Int) → gS rn v = (oldsC U (putL U q)).getD ((oldsC T (putL T p)).idxOf v) 0 := fun v hv => by
  rw [hrn]
  unfold gS
  rw [List.getD_eq_getElem?_getD, List.getElem?_map, List.getElem?_range (by omega), Option.map_some, Option.getD_some, show ((v.toNat : Nat) : Int) = v by omega]
 have hX : ∀ x ∈ (putL T p).flatMap (rootC T), ∃ y, y < 3 * U.length ∧ GoesC T U (gS rn) x y := fun x hx => by
  obtain ⟨i, hi, rfl⟩ := List.getElem_of_mem hx
  have hi' : i < ((putL U q).flatMap (rootC U)).length := by omega
  have hxl := putT_lt hs hp hx
  have e : (((putL T p).flatMap (rootC T)).map fun x => shiftT 0 (triR T (oldsC T (putL T p)) x))[i]? = (((putL U q).flatMap (rootC U)).map fun x => shiftT 0 (triR U (oldsC U (putL U q)) x))[i]? := by rw [h2]
  rw [List.getElem?_map, List.getElem?_map, List.getElem?_eq_getElem hi, List.getElem?_eq_getElem hi'] at e
  simp only [Option.map_some, Option.some.injEq] at e
  have hy := putT_lt hu hq (List.getElem_mem hi')
  refine ⟨((putL U q).flatMap (rootC U))[i], hy, ?_⟩
  unfold shiftT triR at e
  simp only [Tri.mk.injEq, Int.add_zero, Int.natCast_inj] at e
  obtain ⟨e1, e2, e3⟩ := e
  have key : ∀ {a b : Nat}, a < 3 * T.length → b < 3 * U.length → (oldsC T (putL T p)).idxOf (cv T a) = (oldsC U (putL U q)).idxOf (cv U b) → cv U b = gS rn (cv T a) := fun {a b} ha hb e => by
   rw [hg _ (cv_bd hs ha), e]
   exact (getD_idxOf ((hfull2 _).2 (cv_bd hu hb))).symm
  exact ⟨key hxl hy e1, key (nxc_lt hxl) (nxc_lt hy) e2, key (pvc_lt hxl) (pvc_lt hy) e3⟩
 have hidx : ∀ v : Int, 0 ≤ v ∧ v < (m : Int) → (oldsC T (putL T p)).idxOf v < (oldsC U (putL U q)).length := fun v hv => by
  have := List.idxOf_lt_length_iff.2 ((hfull v).2 hv)
  omega
 refine ⟨by rw [hrn]; simp, ?_, fun v hv => ?_, fun x hx => ?_⟩
 · rw [hrn]
   refine nodup_mapI (fun a ha b hb e => ?_) List.nodup_range
   have ha := List.mem_range.1 ha
   have hb := List.mem_range.1 hb
   have i1 := hidx a ⟨by omega, by omega⟩
   have i2 := hidx b ⟨by omega, by omega⟩
   try dsimp only at e
   rw [List.getD_eq_getElem?_getD, List.getElem?_eq_getElem i1, List.getD_eq_getElem?_getD, List.getElem?_eq_getElem i2, Option.getD_some, Option.getD_some] at e
   have e' := nodup_at hnd2 i1 i2 e
   have e1 := getD_idxOf ((hfull (a : Int)).2 ⟨by omega, by omega⟩)
   have e2 := getD_idxOf ((hfull (b : Int)).2 ⟨by omega, by omega⟩)
   rw [e', e2] at e1
   omega
 · rw [hrn] at hv
   obtain ⟨a, ha, rfl⟩ := List.mem_map.1 hv
   have ha := List.mem_range.1 ha
   have i1 := hidx a ⟨by omega, by omega⟩
   refine (hfull2 _).1 ?_
   rw [List.getD_eq_getElem?_getD, List.getElem?_eq_getElem i1, Option.getD_some]
   exact List.getElem_mem _
 · obtain ⟨z, hz, e⟩ := put_tri hs hp (show x / 3 < T.length by omega)
   obtain ⟨y, hy, hg⟩ := hX z hz
   have hg1 := goes_nx hg
   have hg2 := goes_nx hg1
   rcases same_tri.1 e with q' | q' | q'
   · exact ⟨y, hy, by rw [q']; exact hg⟩
   · exact ⟨nxc y, nxc_lt hy, by rw [q']; exact hg1⟩
   · exact ⟨nxc (nxc y), nxc_lt (nxc_lt hy), by rw [q', ← nxc_nxc z]; exact hg2⟩
theorem join_rows : ∀ (l l' : List Nat) (k : Int), l.map (rowC T) = l'.map (rowC U) → joinC T l k = joinC U l' k ∧ (oldsC T l).length = (oldsC U l').length
 | [], [], _, _ => ⟨rfl, rfl⟩
 | [], _ :: _, _, h => by cases h
 | _ :: _, [], _, h => by cases h
 | c :: l, d :: l', k, h => by
  rw [List.map_cons, List.map_cons] at h
  injection h with h1 h2
  obtain ⟨e1, e2⟩ := rowC_eq.1 h1
  obtain ⟨i1, i2⟩ := join_rows l l' (k + (rootO T c).length) h2
  refine ⟨by rw [joinC, joinC, e2, i1, e1], ?_⟩
  have o1 : oldsC T (c :: l) = rootO T c ++ oldsC T l := rfl
  have o2 : oldsC U (d :: l') = rootO U d ++ oldsC U l' := rfl
  rw [o1, o2, List.length_append, List.length_append, e1, i2]
theorem put_rows {p : List Nat} (hp : Put T p) : ((putL T p).map (rowC T)).Perm ((List.range (kN T)).map fun k => rowC T (bestN T k)) ∧ ((putL T p).map (rowC T)).Pairwise fun x y => ¬ ltL y x := by
 unfold putL
 rw [List.map_map]
 refine ⟨hp.perm.map _, ?_⟩
 rw [List.pairwise_map]
 refine List.pairwise_iff_getElem.2 fun i j hi hj hij => ?_
 have := hp.up i j hij hj
 rw [List.getD_eq_getElem?_getD, List.getD_eq_getElem?_getD, List.getElem?_eq_getElem hi, List.getElem?_eq_getElem hj] at this
 exact this
theorem kn_inj (h : IsoL m T U rn) (hs : SurfE m T) (hu : SurfE m U) (hl : T.length = U.length) : ∃ s : Nat → Nat, (∀ k, k < kN T → s k < kN U ∧ rowC T (bestN T k) = rowC U (bestN U (s k))) ∧ ∀ a b, a < kN T → b < kN T → s a = s b → a = b := by
 obtain ⟨f, hf, hg, ho⟩ := h.emb hs hu hl
 refine ⟨fun k => ofN U (f (bestN T k) / 3), fun k hk => ?_, fun a b ha hb e => ?_⟩
 · have hb := (bestN_is hk).2
   have h1 := emb_form hf hs hu ho hb.lt
   rw [hb.of] at h1
   exact ⟨ofN_lt (by have := hf.lt _ hb.lt; omega), h1⟩
 · have h1 := (bestN_is ha).2
   have h2 := (bestN_is hb).2
   have l1 := hf.lt _ h1.lt
   have l2 := hf.lt _ h2.lt
   have b1 := h1.lt
   have b2 := h2.lt
   have hr := (ofN_re hu (by omega) (by omega)).1 e
   have := (ofN_re hs (by omega) (by omega)).2 ((hf.re h1.lt h2.lt).1 hr)
   rw [h1.of, h2.of] at this
   exact this
theorem kn_le (h : IsoL m T U rn) (hs : SurfE m T) (hu : SurfE m U) (hl : T.length = U.length) : kN T ≤ kN U := by
 obtain ⟨s, h1, h2⟩ := kn_inj h hs hu hl
 have hnd : ((List.range (kN T)).map s).Nodup := nodup_mapI (fun a ha b hb e => h2 a b (List.mem_range.1 ha) (List.mem_range.1 hb) e) List.nodup_range
 have := nodup_leN (kN U) hnd fun x hx => by
  obtain ⟨k, hk, rfl⟩ := List.mem_map.1 hx
  exact (h1 k (List.mem_range.1 hk)).1
 rwa [List.length_map, List.length_range] at this
theorem iso_form (h : IsoL m T U rn) (hs : SurfE m T) (hu : SurfE m U) (hl : T.length = U.length) {p q : List Nat} (hp : Put T p) (hq : Put U q) :
  joinC T (putL T p) 0 = joinC U (putL U q) 0 ∧ (oldsC T (putL T p)).length = (oldsC U (putL U q)).length := by
 have hk : kN T = kN U := Nat.le_antisymm (kn_le h hs hu hl) (kn_le (h.inv hs hu hl) hu hs hl.symm)
 obtain ⟨s, h1, h2⟩ := kn_inj h hs hu hl
 obtain ⟨p1, p2⟩ := put_rows hp
 obtain ⟨q1, q2⟩ := put_rows hq
 refine join_rows _ _ _ ?_
 have hnd : ((List.range (kN T)).map s).Nodup := nodup_mapI (fun a ha b hb e => h2 a b (List.mem_range.1 ha) (List.mem_range.1 hb) e) List.nodup_range
 have hperm : ((List.range (kN T)).map s).Perm (List.range (kN U)) := (List.perm_ext_iff_of_nodup hnd List.nodup_range).2 fun x => by
  rw [List.mem_map, List.mem_range]
  constructor
  · rintro ⟨k, hk', rfl⟩
    exact (h1 k (List.mem_range.1 hk')).1
  · intro hx
    obtain ⟨y, hy, e⟩ := onto_of (N := kN T) (f := s) (fun x hx => by rw [hk]; exact (h1 x hx).1) h2 (y := x) (by omega)
    exact ⟨y, List.mem_range.2 hy, e⟩
 have hrow : ((List.range (kN T)).map fun k => rowC T (bestN T k)) = ((List.range (kN T)).map s).map fun k => rowC U (bestN U k) := by
  rw [List.map_map]
  exact List.map_congr_left fun k hk' => (h1 k (List.mem_range.1 hk')).2
 rw [hrow] at p1
 refine List.Perm.eq_of_pairwise (le := fun x y => ¬ ltL y x) (fun a b _ _ h1 h2 => ?_) p2 q2 (p1.trans ((hperm.map _).trans q1.symm))
 rcases ltL_tri a b with h | h | h
 · exact absurd h h2
 · exact h
 · exact absurd h h1
theorem equal_iff (hs : SurfE m T) (hu : SurfE n U) {N1 N2 e1 e2 : Int} {L1 L2 : List Tri} (h1 : FormI (m : Int) T N1 L1 e1) (h2 : FormI (n : Int) U N2 L2 e2) :
  (e1 = 0 ∧ e2 = 0 ∧ N1 = N2 ∧ L1 = L2) ↔ m = n ∧ T.length = U.length ∧ ∃ rn, IsoL m T U rn := by
 obtain ⟨rfl, p, hp, rfl, rfl⟩ := h1.yes (surf_chk hs)
 obtain ⟨rfl, q, hq, rfl, rfl⟩ := h2.yes (surf_chk hu)
 constructor
 · rintro ⟨_, _, h3, h4⟩
   exact form_iso hs hu hp hq (by omega) h4
 · rintro ⟨rfl, hl, rn, h⟩
   obtain ⟨h3, h4⟩ := iso_form h hs hu hl hp hq
   exact ⟨rfl, rfl, by omega, h3⟩
end
end Go.Proofs.YtiajlmajenabiaaGreat
namespace Go.Proofs.YtiajlmajenabiaaGreat
open Go.RowKit
section
variable {m : Nat} {T : List Tri}
end
end Go.Proofs.YtiajlmajenabiaaGreat
