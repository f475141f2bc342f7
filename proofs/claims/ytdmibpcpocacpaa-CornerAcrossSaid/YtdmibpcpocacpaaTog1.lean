/- Maps keyed by int that hold rows, or bools; a queue of numbers. No condition. -/
import Derived.Test.YtdmibpcpocacpaaTog0
import Derived.Test.YtdmibpcpocacpaaTwice
import Derived.ArgAppend
namespace Go.Proofs.Ytdmibpcpocacpaa
open Go.RowKit
open Go.Maps (Keyed)

def ik (x : Int) : Value := .int .i64 x
theorem ik_inj (x y : Int) (h : ik x = ik y) : x = y := by unfold ik at h; injection h
theorem ik_key {x : Int} (h : (Lit.int .i64 x).wf = true) : keyOf Try.prog 3 (ik x) = some (.int .i64 x) := Maps.keyOf_int_mk Try.underlying3 h
theorem keyedI : Keyed Try.prog 3 := Maps.int_keyed Try.underlying3
theorem HadAt.row_of {w : World} {base : Nat} {κ : Type} {enc : κ → Value} {f : Value → Option Value} {H : κ → List Nat} (h : HadAt w base enc f H) {k : κ} {A : Option Addr} {c : Nat} (e : (f (enc k)).getD (.slice none 0 0) = .slice A (H k).length c) : NatRow w base A c (H k) := by
  obtain ⟨A', c', e', hr, _⟩ := h.look k
  rw [e] at e'
  injection e' with e1 _ e2
  subst e1 e2
  exact hr

/-- Rows of numbers by number. -/
def EndsAt (w : World) (base be m : Nat) (E : Int → List Nat) : Prop := ∃ fe ne, ne ≤ m ∧ MapV Try.prog 3 w be ne fe ∧ HadAt w base ik fe E
theorem EndsAt.keep {w w' : World} {base be m : Nat} {E : Int → List Nat} (h : EndsAt w base be m E) (hb : Below w.heap.size w w') : EndsAt w' base be m E := by
  obtain ⟨fe, ne, h1, h2, h3⟩ := h
  exact ⟨fe, ne, h1, h2.below hb h2.lt, h3.below hb⟩
theorem EndsAt.more {w : World} {base be m m' : Nat} {E : Int → List Nat} (h : EndsAt w base be m E) (hm : m ≤ m') : EndsAt w base be m' E := by
  obtain ⟨fe, ne, h1, r⟩ := h
  exact ⟨fe, ne, by omega, r⟩
/-- 'ends[x] = append(ends[x], i)'. -/
theorem EndsAt.app {wr : World} {base be m : Nat} {E : Int → List Nat} (h : EndsAt wr base be m E) {x : Int} (hx : (Lit.int .i64 x).wf = true) (hm : m < maxLen) (i : Nat) (hbb : base ≤ be) (hbw : base ≤ wr.heap.size) :
    ∃ (Ak : Option Addr) (ck : Nat), (Instr.lookup 89 (.map (some be)) (.int .i64 x) false).run Try.prog wr = .ok (.slice Ak (E x).length ck) wr ∧
      ∀ wx, Below wr.heap.size wr wx → NatRow wx base Ak ck (E x) ∧
      ∀ w1 A1 c1, w1.ownsRow base 3 1 (.slice A1 ((E x).length + 1) c1) ((E x).length + 1) (nats (E x) ++ [.int .i64 (i : Int)]) → wx.grownBy w1 (Value.slice Ak (E x).length ck).ownBlock →
        ((Value.slice A1 ((E x).length + 1) c1).ownBlock = (Value.slice Ak (E x).length ck).ownBlock ∨ (Value.slice A1 ((E x).length + 1) c1).ownBlock = some wx.heap.size) →
        ∃ es clock, (Instr.mapUpdate 89 (.map (some be)) (.int .i64 x) (.slice A1 ((E x).length + 1) c1)).run Try.prog w1 = .ok () (ChangeMaps.setBlock w1 be (.map es clock)) ∧
          EndsAt (ChangeMaps.setBlock w1 be (.map es clock)) base be (m + 1) (fun y => if y = x then E x ++ [i] else E y) ∧ Below base wx (ChangeMaps.setBlock w1 be (.map es clock)) := by
  obtain ⟨fe, ne, hn, hm0, hh0⟩ := h
  have hz : (zeroValue 52).run Try.prog wr = .ok (.slice none 0 0) wr := by kernel_rfl
  have hlk := hm0.look keyedI Try.underlying89 hz (ik_key hx) false
  obtain ⟨Ak, ck, e1, _, e3⟩ := hh0.look x
  rw [if_neg (by decide), e1] at hlk
  refine ⟨Ak, ck, hlk, fun wx hb => ?_⟩
  have hmx := hm0.below hb hm0.lt
  have hhx := hh0.below hb
  have hrow := hhx.row_of e1
  refine ⟨hrow, fun w1 A1 c1 ho hg hat => ?_⟩
  have hint : ∀ b, (Value.slice Ak (E x).length ck).ownBlock = some b → ∃ cs, Blk wx b 3 cs := fun b hb => own_blk hrow hb
  have hm1 := hmx.grown hg fun e => by
    obtain ⟨cs, hb⟩ := hint _ e.symm
    exact hmx.ne_blk hb rfl
  obtain ⟨es, clock, hrun, hst⟩ := hm1.store keyedI Try.underlying89 (by omega) (ik_key hx) (.slice A1 ((E x).length + 1) c1)
  have hl : (E x ++ [i]).length = (E x).length + 1 := by simp
  have hput := hhx.put (w' := w1) ik_inj (k := x) (v := .slice Ak (E x).length ck) e3 (A' := A1) (c' := c1) (l := E x ++ [i]) (by simp) (by unfold NatRow; rw [hl]; simpa [nats] using ho) hg
    (by rw [hl]; rcases hat with h | h; exact .inl h; exact .inr ⟨_, h, Nat.le_refl _⟩) (H' := fun y => if y = x then E x ++ [i] else E y) (by simp) (fun y hy => by simp [hy])
  rw [hl] at hput
  refine ⟨es, clock, hrun, ⟨_, _, ?_, hst, hput.keep fun j cs hb => heap_setBlock_ne _ _ _ fun e => ?_⟩, ?_⟩
  · split <;> omega
  · subst e; exact hm1.ne_blk hb rfl
  · have b1 : Below base wx w1 := (Below.refl base wx).grown hg (Nat.le_trans hbw hb.size) fun k hk => (hrow.lt k hk).1
    exact b1.trans (((Only.refl (fun i => i = be) w1).setBlock (.inl rfl) _).below (Nat.le_trans (Nat.le_trans hbw hb.size) b1.size) fun k hk e => by omega)

/-- Numbers that were reached. -/
def ReachAt (w : World) (br : Nat) (R : List Nat) : Prop := ∃ fr, MapV Try.prog 3 w br R.length fr ∧ ∀ k : Nat, (k ∈ R → fr (ik k) = some (.bool true)) ∧ (k ∉ R → fr (ik k) = none)
theorem ReachAt.keep {w w' : World} {br : Nat} {R : List Nat} (h : ReachAt w br R) (hs : w'.heap[br]? = w.heap[br]?) : ReachAt w' br R := by
  obtain ⟨fr, h1, h2⟩ := h
  exact ⟨fr, h1.same hs, h2⟩
theorem ReachAt.lt {w : World} {br : Nat} {R : List Nat} (h : ReachAt w br R) : br < w.heap.size := by
  obtain ⟨fr, h1, _⟩ := h
  exact h1.lt
theorem ReachAt.ne_blk {w : World} {br g : Nat} {R : List Nat} {t : TypeId} {cs : Array Value} (h : ReachAt w br R) (hb : Blk w g t cs) : br ≠ g := by
  obtain ⟨fr, h1, _⟩ := h
  exact h1.ne_blk hb
theorem ReachAt.look {w : World} {br : Nat} {R : List Nat} (h : ReachAt w br R) {k : Nat} (hk : k ≤ 9223372036854775807) :
    (Instr.lookup 90 (.map (some br)) (.int .i64 (k : Int)) false).run Try.prog w = .ok (.bool (decide (k ∈ R))) w := by
  obtain ⟨fr, h1, h2⟩ := h
  have hz : (zeroValue 4).run Try.prog w = .ok (.bool false) w := by kernel_rfl
  have hlk := h1.look keyedI Try.underlying90 hz (ik_key (x := (k : Int)) (WalkArith.wf_i64 (by omega))) false
  rw [if_neg (by decide)] at hlk
  by_cases hR : k ∈ R
  · rw [(h2 k).1 hR] at hlk
    rw [decide_eq_true hR]
    exact hlk
  · rw [(h2 k).2 hR] at hlk
    rw [decide_eq_false hR]
    exact hlk
theorem ReachAt.store {w : World} {br : Nat} {R : List Nat} (h : ReachAt w br R) {k : Nat} (hk : k ≤ 9223372036854775807) (hR : k ∉ R) (hl : R.length < maxLen) :
    ∃ es clock, (Instr.mapUpdate 90 (.map (some br)) (.int .i64 (k : Int)) (.bool true)).run Try.prog w = .ok () (ChangeMaps.setBlock w br (.map es clock)) ∧ ReachAt (ChangeMaps.setBlock w br (.map es clock)) br (R ++ [k]) := by
  obtain ⟨fr, h1, h2⟩ := h
  obtain ⟨es, clock, hrun, hst⟩ := h1.store keyedI Try.underlying90 hl (ik_key (x := (k : Int)) (WalkArith.wf_i64 (by omega))) (.bool true)
  rw [(h2 k).2 hR, if_neg (by simp)] at hst
  refine ⟨es, clock, hrun, _, by rw [List.length_append]; exact hst, fun j => ?_⟩
  by_cases e : j = k
  · subst e
    exact ⟨fun _ => putV_same _ _ _, fun hn => absurd (by simp) hn⟩
  · have hne : ik j ≠ ik k := fun h' => e (by have := ik_inj _ _ h'; omega)
    rw [putV_ne _ _ hne]
    refine ⟨fun hj => (h2 j).1 ?_, fun hj => (h2 j).2 fun h' => hj (by simp [h'])⟩
    rcases List.mem_append.1 hj with h' | h'
    · exact h'
    · simp at h'; exact absurd h' e
theorem ReachAt.len {w : World} {br : Nat} {R : List Nat} (h : ReachAt w br R) (ty : TypeId) : (Builtin.len_ #[90] ty #[.map (some br)]).run Try.prog w = .ok (.int .i64 R.length) w := by
  obtain ⟨fr, h1, h2⟩ := h
  exact h1.len Try.underlying90 ty
end Go.Proofs.Ytdmibpcpocacpaa
