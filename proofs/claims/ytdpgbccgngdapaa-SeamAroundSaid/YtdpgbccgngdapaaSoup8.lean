/- Soups in plain words: what fits, what is turned, what a part and the edges are. No condition. -/
import Derived.Test.YtdpgbccgngdapaaRow8
namespace Go.Proofs.Ytdpgbccgngdapaa
open Go.RowKit

def fitT (N : Int) (t : Tri) : Bool := (decide (0 ≤ t.a) && decide (t.a < N) && decide (0 ≤ t.b) && decide (t.b < N) && decide (0 ≤ t.c) && decide (t.c < N)) && (!(t.a == t.b) && !(t.b == t.c) && !(t.c == t.a))
theorem fitT_iff {N : Int} {t : Tri} : fitT N t = true ↔ (0 ≤ t.a ∧ t.a < N ∧ 0 ≤ t.b ∧ t.b < N ∧ 0 ≤ t.c ∧ t.c < N) ∧ t.a ≠ t.b ∧ t.b ≠ t.c ∧ t.c ≠ t.a := by
  unfold fitT
  simp [and_assoc]
def fitL (N : Int) (T : List Tri) : Bool := decide (0 ≤ N) && decide (N ≤ 4096) && T.all (fitT N)
def turnT (k : Nat) (t : Tri) : Tri := if k = 0 then t else if k = 1 then ⟨t.b, t.c, t.a⟩ else ⟨t.c, t.a, t.b⟩
def mirT (t : Tri) : Tri := ⟨t.a, t.c, t.b⟩
def cornerT (t : Tri) (k : Nat) : Int := if k = 0 then t.a else if k = 1 then t.b else t.c
def hasV8 (t : Tri) (v : Int) : Bool := t.a == v || t.b == v || t.c == v
/-- Is a number none of a list's places? -/
def outOf (m : Nat) (x : Int) : Bool := decide (x < 0) || decide ((m : Int) ≤ x)
/-- What the corners pick, or an error's number. -/
def pickT (T : List Tri) (x : Int) : Tri := turnT (x.toNat % 3) (tri T (x.toNat / 3))
def pickL (N : Int) (T : List Tri) (l : List Int) : Int × List Tri × Int :=
  if fitL N T = false then (0, [], 1) else if l.any (outOf (3 * T.length)) then (0, [], 2) else (N, l.map (pickT T), 0)
def placeL (l : List Int) (x : Int) : Int := if x ∈ l then (l.idxOf x : Nat) else -1
def oldL (N : Int) (T : List Tri) (l : List Int) : List Int := ((List.range N.toNat).map fun i : Nat => (i : Int)).filter fun v => l.any fun i => hasV8 (tri T i.toNat) v
def twiceL (l : List Int) : Bool := !decide l.Nodup
def partT (old : List Int) (t : Tri) : Tri := ⟨placeL old t.a, placeL old t.b, placeL old t.c⟩
def partL (N : Int) (T : List Tri) (l : List Int) : (Int × List Tri) × List Int × Int :=
  if fitL N T = false then ((0, []), [], 1) else if l.any (outOf T.length) then ((0, []), [], 2) else if twiceL l then ((0, []), [], 9)
  else (((oldL N T l).length, l.map fun i => partT (oldL N T l) (tri T i.toNat)), oldL N T l, 0)
def edgeE (a b : Int) : Int × Int := if b < a then (b, a) else (a, b)
def edgesT (t : Tri) : List (Int × Int) := [edgeE t.a t.b, edgeE t.b t.c, edgeE t.c t.a]
def ltE (x y : Int × Int) : Prop := x.1 < y.1 ∨ (x.1 = y.1 ∧ x.2 < y.2)
instance (x y : Int × Int) : Decidable (ltE x y) := inferInstanceAs (Decidable (_ ∨ _))
/-- An edge put into a sorted list, if it isn't there. -/
def insE : List (Int × Int) → Int × Int → List (Int × Int)
  | [], e => [e]
  | x :: l, e => if ltE x e then x :: insE l e else if x = e then x :: l else e :: x :: l
def edgesL (N : Int) (T : List Tri) : List (Int × Int) := if fitL N T = false then [] else (T.flatMap edgesT).foldl insE []
theorem ltE_trans {x y z : Int × Int} (h : ltE x y) (h' : ltE y z) : ltE x z := by
  unfold ltE at *
  omega
theorem ltE_irr (x : Int × Int) : ¬ ltE x x := by unfold ltE; omega
theorem ltE_tri {x y : Int × Int} (h : ¬ ltE x y) (h' : ¬ ltE y x) : x = y := by
  unfold ltE at *
  obtain ⟨a, b⟩ := x
  obtain ⟨c, d⟩ := y
  simp only at *
  rw [show a = c by omega, show b = d by omega]
theorem ins_mem (e : Int × Int) : ∀ (l : List (Int × Int)) (y : Int × Int), y ∈ insE l e ↔ y ∈ l ∨ y = e
  | [], y => by simp [insE]
  | x :: l, y => by
    unfold insE
    by_cases h : ltE x e
    · rw [if_pos h, List.mem_cons, ins_mem e l y, List.mem_cons]
      exact ⟨fun h => by rcases h with h | h | h <;> simp [h], fun h => by rcases h with (h | h) | h <;> simp [h]⟩
    · rw [if_neg h]
      by_cases he : x = e
      · rw [if_pos he]
        subst he
        refine ⟨fun h => .inl h, fun h => ?_⟩
        rcases h with h | h
        · exact h
        · rw [h]
          exact List.mem_cons_self ..
      · rw [if_neg he, List.mem_cons, List.mem_cons]
        exact ⟨fun h => by rcases h with h | h | h <;> simp [h], fun h => by rcases h with (h | h) | h <;> simp [h]⟩
theorem ins_sorted (e : Int × Int) : ∀ l : List (Int × Int), l.Pairwise ltE → (insE l e).Pairwise ltE
  | [], _ => by simp [insE]
  | x :: l, h => by
    obtain ⟨h1, h2⟩ := List.pairwise_cons.1 h
    unfold insE
    by_cases hx : ltE x e
    · rw [if_pos hx]
      refine List.pairwise_cons.2 ⟨fun y hy => ?_, ins_sorted e l h2⟩
      rcases (ins_mem e l y).1 hy with hy | rfl
      · exact h1 y hy
      · exact hx
    · rw [if_neg hx]
      by_cases he : x = e
      · rw [if_pos he]
        exact h
      · rw [if_neg he]
        have hex : ltE e x := by
          by_cases h' : ltE e x
          · exact h'
          · exact absurd (ltE_tri hx h') he
        refine List.pairwise_cons.2 ⟨fun y hy => ?_, h⟩
        rcases List.mem_cons.1 hy with rfl | hy
        · exact hex
        · exact ltE_trans hex (h1 y hy)
theorem foldl_ins_mem : ∀ (es l : List (Int × Int)) (y : Int × Int), y ∈ es.foldl insE l ↔ y ∈ l ∨ y ∈ es
  | [], l, y => by simp
  | e :: es, l, y => by
    rw [List.foldl_cons, foldl_ins_mem es, ins_mem, List.mem_cons]
    exact ⟨fun h => by rcases h with (h | h) | h <;> simp [h], fun h => by rcases h with h | h | h <;> simp [h]⟩
theorem foldl_ins_sorted : ∀ (es l : List (Int × Int)), l.Pairwise ltE → (es.foldl insE l).Pairwise ltE
  | [], _, h => h
  | e :: es, l, h => foldl_ins_sorted es _ (ins_sorted e l h)
/-- Two lists sorted by an order of which no two are equal hold the same just if they are the same. -/
theorem sorted_ext {α : Type} {r : α → α → Prop} (ht : ∀ x y z, r x y → r y z → r x z) (hi : ∀ x, ¬ r x x) : ∀ {l l' : List α}, l.Pairwise r → l'.Pairwise r → (∀ x, x ∈ l ↔ x ∈ l') → l = l'
  | [], [], _, _, _ => rfl
  | [], y :: l', _, _, h => absurd ((h y).2 (List.mem_cons_self ..)) (by simp)
  | x :: l, [], _, _, h => absurd ((h x).1 (List.mem_cons_self ..)) (by simp)
  | x :: l, y :: l', h1, h2, h => by
    obtain ⟨a1, a2⟩ := List.pairwise_cons.1 h1
    obtain ⟨b1, b2⟩ := List.pairwise_cons.1 h2
    have hxy : x = y := by
      rcases List.mem_cons.1 ((h x).1 (List.mem_cons_self ..)) with e | hx
      · exact e
      · rcases List.mem_cons.1 ((h y).2 (List.mem_cons_self ..)) with e | hy
        · exact e.symm
        · exact absurd (ht _ _ _ (a1 y hy) (b1 x hx)) (hi x)
    subst hxy
    rw [sorted_ext ht hi a2 b2 fun z => ?_]
    constructor
    · intro hz
      rcases List.mem_cons.1 ((h z).1 (List.mem_cons_of_mem _ hz)) with rfl | h'
      · exact absurd (a1 z hz) (hi z)
      · exact h'
    · intro hz
      rcases List.mem_cons.1 ((h z).2 (List.mem_cons_of_mem _ hz)) with rfl | h'
      · exact absurd (b1 z hz) (hi z)
      · exact h'
end Go.Proofs.Ytdpgbccgngdapaa
