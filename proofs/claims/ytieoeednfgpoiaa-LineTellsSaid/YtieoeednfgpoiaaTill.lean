/- A region of which the last operation alone (a store) breaks what all others keep. No condition. -/
import Derived.Test.YtieoeednfgpoiaaApp
import Derived.Deep.QuietTactic
import Derived.Deep.RegionHeld3
import Derived.WalkSpells
import Derived.WalkLawsBesides
import Derived.BigQuiet
import Derived.Deep.DeepCutAuto
namespace Go.Proofs.Ytieoeednfgpoiaa
open Go.RowKit

section
variable {P : Program} {ops : Array Oper} {Q : Exit → Act → World → Prop} {md : Region.Mode} {S : World → Prop} {r : Nat}
/-- What is left comes up in whatever order; S holds behind each, but behind number r. -/
def Till (P : Program) (md : Region.Mode) (ops : Array Oper) (Q : Exit → Act → World → Prop) (S : World → Prop) (r : Nat) : Nat → Array Bool → Act → World → Prop
  | 0 => fun l a w => Region.ready md ops l = [] ∧ Q .normal a w
  | n + 1 => fun l a w => (Region.ready md ops l = [] → Q .normal a w) ∧
      ∀ j, j ∈ Region.ready md ops l → wpOp P ops Q j (fun b v => (j ≠ r → S v) ∧ Till P md ops Q S r n (l.setIfInBounds j true) b v) a w
theorem Till.any : ∀ (n : Nat) {l : Array Bool} {a : Act} {w : World}, Till P md ops Q S r n l a w → wpAny P md ops Q n l a w
  | 0, _, _, _, h => h
  | n + 1, _, _, _, h => ⟨h.1, fun j hj => wpOp_mono (fun _ _ x => Till.any n x.2) (h.2 j hj)⟩
/-- Does number r wait for number i? -/
def waitsFor (md : Region.Mode) (ops : Array Oper) (r i : Nat) : Bool := match ops[r]? with
  | some o => o.after.any fun e => Region.binds md e && e.on == i
  | none => false
theorem not_last {l : Array Bool} {i j : Nat} (hw : waitsFor md ops r i = true) (hi : l.getD i true = false) (hj : j ∈ Region.ready md ops l) : j ≠ r := by
  rintro rfl
  obtain ⟨_, o, ho, hall⟩ := mem_ready.1 hj
  unfold waitsFor at hw
  rw [ho] at hw
  obtain ⟨e, he, hb⟩ := Array.any_eq_true'.1 hw
  simp only [Bool.and_eq_true, beq_iff_eq] at hb
  have h1 := hall e he hb.1
  rw [hb.2] at h1
  by_cases hs : i < l.size
  · simp [hs] at hi h1
    rw [hi] at h1
    cases h1
  · simp [Array.getElem?_eq_none (Nat.le_of_not_lt hs)] at h1
theorem Till.first {i : Nat} {oi : Oper} {v : Value} (hi : ops[i]? = some oi) (hsel : ∀ (j : Nat) (o : Oper) cs b, ops[j]? = some o → o.op ≠ .select cs b)
    (hQ : ∀ c a w, Q (.panic c) (a.put oi.dst v) w → Q (.panic c) a w) (hw : waitsFor md ops r i = true) (n : Nat) :
    ∀ {l : Array Bool} {a : Act} {w : World}, (∀ j oj, ops[j]? = some oj → j ≠ i → l.getD j true = false → (∀ e ∈ oj.after, Region.binds md e = true → e.on ≠ i) → oi.apart ops oj = true) →
      i ∈ Region.ready md ops l → YieldsIf P ops S oi v a → S w → Till P md ops Q S r n (l.setIfInBounds i true) (a.put oi.dst v) w → Till P md ops Q S r (n + 1) l a w := by
  induction n with
  | zero =>
    intro l a w _ hr hy hS H
    refine ⟨fun h => (by rw [h] at hr; cases hr), fun j hj => ?_⟩
    by_cases e : j = i
    · rw [e]
      exact hy.wpOp hi hS ⟨fun _ => hS, H⟩
    · have := ready_mono hj e
      rw [H.1] at this
      cases this
  | succ n ih =>
    intro l a w hfree hr hy hS H
    refine ⟨fun h => (by rw [h] at hr; cases hr), fun j hj => ?_⟩
    by_cases e : j = i
    · rw [e]
      exact hy.wpOp hi hS ⟨fun _ => hS, H⟩
    have hun := (mem_ready.1 hr).1
    have hjr := not_last hw hun hj
    obtain ⟨hju, oj, hoj, hall⟩ := mem_ready.1 hj
    have hno : ∀ x ∈ oj.after, Region.binds md x = true → x.on ≠ i := fun x hx hb he => by
      have h1 := hall x hx hb
      rw [he] at h1
      by_cases hs : i < l.size
      · simp [hs] at hun h1
        rw [hun] at h1
        cases h1
      · simp [Array.getElem?_eq_none (Nat.le_of_not_lt hs)] at h1
    refine wpOp_mono (fun b v' x => ⟨fun _ => x.2.1 hjr, ih (fun k ok hk hki hku hkn => hfree k ok hk hki ?_ hkn) (ready_mono hr (Ne.symm e)) x.1 (x.2.1 hjr) ?_⟩)
      (wpOp_putIf hoj (hfree j oj hoj e hju hno) (fun cs b => hsel i oi cs b hi) (fun cs b => hsel j oj cs b hoj) hQ hy (H.2 j (ready_mono hj e)))
    · by_cases hjk : j = k
      · rw [← hjk]
        exact hju
      · rw [getD_set_ne true hjk] at hku
        exact hku
    · rw [Array.setIfInBounds_comm _ _ e]
      exact x.2.2
/-- Number i, which yields its value wherever S holds, is taken first. -/
theorem Till.take {i : Nat} {oi : Oper} {v : Value} {n : Nat} {l : Array Bool} {a : Act} {w : World} (hl : ops.toList[i]? = some oi) (hs : Region.noSelect ops = true) (hf : Region.free md ops l i = true)
    (hr : (Region.ready md ops l).contains i = true) (hw : waitsFor md ops r i = true) (hQ : ∀ c a w, Q (.panic c) (a.put oi.dst v) w → Q (.panic c) a w) (hy : YieldsIf P ops S oi v a) (hS : S w)
    (h : Till P md ops Q S r n (l.setIfInBounds i true) (a.put oi.dst v) w) : Till P md ops Q S r (n + 1) l a w :=
  have hi : ops[i]? = some oi := by rw [← Array.getElem?_toList]; exact hl
  Till.first hi (Region.noSelect_spec hs) hQ hw n (Region.free_spec hi hf) (by simpa using hr) hy hS h
/-- Each of some operations comes up next. -/
def TillEach (P : Program) (md : Region.Mode) (ops : Array Oper) (Q : Exit → Act → World → Prop) (S : World → Prop) (r n : Nat) (l : Array Bool) (a : Act) (w : World) (rs : List Nat) : Prop :=
  ∀ j, j ∈ rs → wpOp P ops Q j (fun b v => (j ≠ r → S v) ∧ Till P md ops Q S r n (l.setIfInBounds j true) b v) a w
theorem Till.ready {rs : List Nat} {n : Nat} {l : Array Bool} {a : Act} {w : World} (hr : Region.ready md ops l = rs) (hne : rs ≠ []) (h : TillEach P md ops Q S r n l a w rs) : Till P md ops Q S r (n + 1) l a w :=
  ⟨fun e => absurd (hr ▸ e) hne, hr ▸ h⟩
theorem TillEach.nil {n : Nat} {l : Array Bool} {a : Act} {w : World} : TillEach P md ops Q S r n l a w [] := fun _ h => by cases h
theorem TillEach.cons {n : Nat} {l : Array Bool} {a : Act} {w : World} {i : Nat} {o : Oper} {rs : List Nat} (ho : ops.toList[i]? = some o)
    (h : ∀ K' : Act → World → Prop, Shut (∀ b v, S v → (S v → Till P md ops Q S r n (l.setIfInBounds i true) b v) → K' b v) → if Region.wanted o (yielded ops a.tmps) = true then Oper.wp P o a w K' Q else K' (a.put o.dst undef) w)
    (hs : TillEach P md ops Q S r n l a w rs) : TillEach P md ops Q S r n l a w (i :: rs) := fun j hj => by
  rcases List.mem_cons.1 hj with rfl | hj
  · exact wpOp_step (by rw [← Array.getElem?_toList]; exact ho) fun K' hK => h K' fun b v hS hW => hK b v ⟨fun _ => hS, hW hS⟩
  · exact hs j hj
/-- The last one comes up. -/
theorem TillEach.last {n : Nat} {l : Array Bool} {a : Act} {w : World} {o : Oper} (ho : ops.toList[r]? = some o)
    (h : ∀ K' : Act → World → Prop, Shut (∀ b v, Till P md ops Q S r n (l.setIfInBounds r true) b v → K' b v) → if Region.wanted o (yielded ops a.tmps) = true then Oper.wp P o a w K' Q else K' (a.put o.dst undef) w) :
    TillEach P md ops Q S r n l a w [r] := fun j hj => by
  obtain rfl := List.mem_singleton.1 hj
  exact wpOp_step (by rw [← Array.getElem?_toList]; exact ho) fun K' hK => h K' fun b v hW => hK b v ⟨fun e => absurd rfl e, hW⟩
theorem Till.done {l : Array Bool} {a : Act} {w : World} (hr : Region.ready md ops l = []) (h : Q .normal a w) : ∀ n, Till P md ops Q S r n l a w
  | 0 => ⟨hr, h⟩
  | _ + 1 => ⟨fun _ => h, by rw [hr]; intro j hj; cases hj⟩
theorem wp_region_till {id : Nat} {a : Act} {w : World} (r : Nat) (hm : P.follows .mixedOrders = true) (hS : S w.drew)
    (h : S w.drew → Till P .any ops Q S r ops.size (Array.replicate ops.size false) a w.drew) : (Code.region id ops true).wp P Q a w :=
  wp_region_any hm (Till.any _ (h hS))
end
end Go.Proofs.Ytieoeednfgpoiaa
