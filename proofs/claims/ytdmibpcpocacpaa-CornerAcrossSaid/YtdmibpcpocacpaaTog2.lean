/- What certify.together keeps in memory, step by step. No condition. -/
import Derived.Test.YtdmibpcpocacpaaQueue
namespace Go.Proofs.Ytdmibpcpocacpaa
open Go.RowKit

structure VOk (n : Nat) (s : List Nat × List Nat) : Prop where
  nodup : s.1.Nodup
  lt : ∀ x ∈ s.1, x < n
  len : s.2.length ≤ s.1.length
theorem VOk.visit {n k : Nat} {s : List Nat × List Nat} (h : VOk n s) (hk : k < n) : VOk n (visit s k) := by
  have hv := visit_one s k
  refine ⟨hv.nodup h.nodup, fun x hx => ?_, by have := hv.len; have := h.len; omega⟩
  rcases hv.only x hx with e | ⟨e, _⟩
  · exact h.lt x e
  · simp at e; omega
theorem VOk.fold {n : Nat} : ∀ (l : List Nat) (s : List Nat × List Nat), VOk n s → (∀ k ∈ l, k < n) → VOk n (l.foldl Go.Proofs.Ytdmibpcpocacpaa.visit s)
  | [], _, h, _ => h
  | k :: l, s, h, hl => VOk.fold l _ (h.visit (hl k (by simp))) fun b hb => hl b (by simp [hb])
theorem VOk.bound {n : Nat} {s : List Nat × List Nat} (h : VOk n s) : s.1.length ≤ n := by
  have := nodup_le s.1 (List.range n) h.nodup fun x hx => by simp; exact h.lt x hx
  simpa using this
theorem VOk.from_ {n : Nat} {E : Int → List Nat} {v : Int} {s : List Nat × List Nat} (h : VOk n s) (hE : ∀ y, ∀ k ∈ E y, k < n) (w : Int) : VOk n (fromV E v s w) := by
  unfold fromV
  split
  · exact h
  · exact VOk.fold _ _ h (hE w)
theorem VOk.froms {n : Nat} {E : Int → List Nat} {v : Int} (hE : ∀ y, ∀ k ∈ E y, k < n) : ∀ (l : List Int) (s : List Nat × List Nat), VOk n s → VOk n (l.foldl (fromV E v) s)
  | [], _, h => h
  | w :: l, _, h => VOk.froms hE l _ (h.from_ hE w)

structure TogAt (w0 wr : World) (be br g : Nat) (A : Option Addr) (c : Nat) (E : Int → List Nat) (R Q : List Nat) (fe : Value → Option Value) (ne : Nat) : Prop where
  h1 : w0.heap.size ≤ be
  h2 : w0.heap.size ≤ br
  hne : be ≠ br
  ends : MapV Try.prog 3 wr be ne fe
  had : HadAt wr w0.heap.size ik fe E
  reach : ReachAt wr br R
  q : QRow wr w0.heap.size g A c Q
  apart : ∀ x u, fe (ik x) = some u → u.ownBlock ≠ some g
  below : Below w0.heap.size w0 wr
section
variable {w0 wr w' : World} {be br g c ne : Nat} {A : Option Addr} {E : Int → List Nat} {R Q : List Nat} {fe : Value → Option Value}
theorem TogAt.keep (h : TogAt w0 wr be br g A c E R Q fe ne) (hb : Below wr.heap.size wr w') : TogAt w0 w' be br g A c E R Q fe ne :=
  ⟨h.h1, h.h2, h.hne, h.ends.below hb h.ends.lt, h.had.below hb, h.reach.keep (hb.block _ h.reach.lt), h.q.keep (hb.block _ h.q.lt), h.apart, h.below.trans (hb.mono h.below.size)⟩
theorem TogAt.eqs {R' Q' : List Nat} (h : TogAt w0 wr be br g A c E R Q fe ne) (e1 : R' = R) (e2 : Q' = Q) : TogAt w0 wr be br g A c E R' Q' fe ne := by subst e1 e2; exact h
theorem HadAt.keepR {w w' : World} {base : Nat} {κ : Type} {enc : κ → Value} {f : Value → Option Value} {H : κ → List Nat} (h : HadAt w base enc f H) (hk : ∀ x u i, f (enc x) = some u → u.ownBlock = some i → i < w.heap.size → w'.heap[i]? = w.heap[i]?) : HadAt w' base enc f H :=
  ⟨h.none_, fun k hne => by
    obtain ⟨A, c, h1, h2⟩ := h.some_ k hne
    exact ⟨A, c, h1, own_same h2 fun i hi => hk k _ i h1 hi (h2.lt i hi).2⟩, h.apart⟩
/-- The queue is cut at its head. -/
theorem TogAt.pop {i off : Nat} (h : TogAt w0 wr be br g (some ⟨g, off, none⟩) c E R (i :: Q) fe ne) : TogAt w0 wr be br g (if c = 1 then some ⟨g, off, none⟩ else some ⟨g, off + 1, none⟩) (c - 1) E R Q fe ne :=
  ⟨h.h1, h.h2, h.hne, h.ends, h.had, h.reach, h.q.tail, h.apart, h.below⟩
/-- The row of a vertex. -/
theorem TogAt.rowQ (h : TogAt w0 wr be br g A c E R Q fe ne) {x : Int} (hx : (Lit.int .i64 x).wf = true) : ∃ Ak ck, (fe (ik x)).getD (.slice none 0 0) = .slice Ak (E x).length ck ∧
    (Instr.lookup 89 (.map (some be)) (.int .i64 x) false).run Try.prog wr = .ok (.slice Ak (E x).length ck) wr := by
  have hz : (zeroValue 52).run Try.prog wr = .ok (.slice none 0 0) wr := by kernel_rfl
  have hlk := h.ends.look keyedI Try.underlying89 hz (ik_key hx) false
  obtain ⟨Ak, ck, e1, _, _⟩ := h.had.look x
  rw [if_neg (by decide), e1] at hlk
  exact ⟨Ak, ck, e1, hlk⟩
/-- One more is reached. -/
theorem TogAt.visit_ (h : TogAt w0 wr be br g A c E R Q fe ne) {k : Nat} (hk : k ≤ 9223372036854775807) (hR : k ∉ R) (hl : R.length < maxLen) :
    ∃ es clock, (Instr.mapUpdate 90 (.map (some br)) (.int .i64 (k : Int)) (.bool true)).run Try.prog wr = .ok () (ChangeMaps.setBlock wr br (.map es clock)) ∧ TogAt w0 (ChangeMaps.setBlock wr br (.map es clock)) be br g A c E (R ++ [k]) Q fe ne := by
  obtain ⟨es, clock, hrun, hr⟩ := h.reach.store hk hR hl
  have hno : ∀ {i t cs}, Blk wr i t cs → i ≠ br := fun hb e => h.reach.ne_blk hb e.symm
  obtain ⟨cs, hq⟩ := h.q.blk
  exact ⟨es, clock, hrun, h.h1, h.h2, h.hne, h.ends.setBlock h.hne _, h.had.keep fun i cs hb => heap_setBlock_ne _ _ _ (hno hb), hr, h.q.keep (heap_setBlock_ne _ _ _ (hno hq)), h.apart,
    h.below.trans (((Only.refl (fun i => i = br) wr).setBlock (.inl rfl) _).below h.below.size fun k hk e => by have := h.h2; omega)⟩
/-- One more waits. -/
theorem TogAt.push {wx w1 : World} {g' c' : Nat} {A' : Option Addr} {k : Nat} (h : TogAt w0 wx be br g A c E R Q fe ne) (hq : QRow w1 w0.heap.size g' A' c' (Q ++ [k])) (hg : wx.grownBy w1 (some g)) (hat : g' = g ∨ wx.heap.size ≤ g') :
    TogAt w0 w1 be br g' A' c' E R (Q ++ [k]) fe ne := by
  obtain ⟨cs, hqb⟩ := h.q.blk
  have hbg : w0.heap.size ≤ g := by obtain ⟨off, cur, _, h2, _⟩ := h.q; exact h2
  refine ⟨h.h1, h.h2, h.hne, h.ends.grown hg fun e => ?_, h.had.keepR fun x u i hu hi hl => hg.block i hl fun e => ?_, h.reach.keep (hg.block _ h.reach.lt fun e => ?_), hq, fun x u hu e => ?_, h.below.grown hg h.below.size fun k hk => ?_⟩
  · injection e with e; exact h.ends.ne_blk hqb e
  · exact h.apart x u hu (hi.trans e)
  · injection e with e; exact h.reach.ne_blk hqb e
  · rcases hat with rfl | hat
    · exact h.apart x u hu e
    · have hne : E x ≠ [] := fun e0 => by rw [h.had.none_ x e0] at hu; cases hu
      obtain ⟨Ak, ck, e1, hr⟩ := h.had.some_ x hne
      rw [hu] at e1
      injection e1 with e1
      subst e1
      have := (hr.lt _ e).2
      omega
  · injection hk with hk; omega
end
end Go.Proofs.Ytdmibpcpocacpaa
