/- What certify.pairs keeps in memory, step by step. No condition. -/
import Derived.Test.YtdmibpcpocacpaaPairs1
namespace Go.Proofs.Ytdmibpcpocacpaa
open Go.RowKit
open Go.Maps (Keyed)
open Go.WideMaps (KeyLaw)

def outW (kind : Int) (L : List (Nat × Nat)) : List (Int × Int × Int) := L.map fun p => (kind, (p.1 : Int), (p.2 : Int))
theorem outW_len (kind : Int) (L : List (Nat × Nat)) : (outW kind L).length = L.length := by simp [outW]
theorem outW_snoc (kind : Int) (L : List (Nat × Nat)) (p : Nat × Nat) : outW kind (L ++ [p]) = outW kind L ++ [(kind, (p.1 : Int), (p.2 : Int))] := by simp [outW]

structure PairsAt (w0 wr : World) (kind : Int) (bh bs m : Nat) (A : Option Addr) (c : Nat) (had : K3 → List Nat) (L L' : List (Nat × Nat)) : Prop where
  h1 : w0.heap.size ≤ bh
  h2 : w0.heap.size ≤ bs
  ne : bh ≠ bs
  row : WitRow wr w0.heap.size A c (outW kind L)
  hadm : ∃ fh nh, nh ≤ m ∧ MapV Try.prog 49 wr bh nh fh ∧ HadAt wr w0.heap.size kv fh had
  seen : ∃ fs, MapV Try.prog 30 wr bs L'.length fs ∧ SeenAt fs L'
  below : Below w0.heap.size w0 wr

section
variable {w0 wr w' : World} {kind : Int} {bh bs m : Nat} {A : Option Addr} {c : Nat} {had : K3 → List Nat} {L L' : List (Nat × Nat)}
theorem PairsAt.keep (h : PairsAt w0 wr kind bh bs m A c had L L') (hb : Below wr.heap.size wr w') : PairsAt w0 w' kind bh bs m A c had L L' := by
  obtain ⟨h1, h2, ne, row, ⟨fh, nh, hn, hm, hh⟩, ⟨fs, hs, hss⟩, below⟩ := h
  exact ⟨h1, h2, ne, own_same row fun k hk => hb.block k (row.lt k hk).2, ⟨fh, nh, hn, hm.below hb hm.lt, hh.below hb⟩, ⟨fs, hs.below hb hs.lt, hss⟩, below.trans (hb.mono below.size)⟩
theorem PairsAt.more {m' : Nat} (h : PairsAt w0 wr kind bh bs m A c had L L') (hm : m ≤ m') : PairsAt w0 wr kind bh bs m' A c had L L' := by
  obtain ⟨h1, h2, ne, row, ⟨fh, nh, hn, r⟩, hs, hb⟩ := h
  exact ⟨h1, h2, ne, row, ⟨fh, nh, by omega, r⟩, hs, hb⟩
theorem PairsAt.eqs {had' : K3 → List Nat} {L2 L2' : List (Nat × Nat)} (h : PairsAt w0 wr kind bh bs m A c had L L') (e1 : had' = had) (e2 : L2 = L) (e3 : L2' = L') : PairsAt w0 wr kind bh bs m A c had' L2 L2' := by
  subst e1 e2 e3; exact h

/-- Was a pair seen? -/
theorem PairsAt.seenQ (h : PairsAt w0 wr kind bh bs m A c had L L') (p : Nat × Nat) (h1 : p.1 ≤ 9223372036854775807) (h2 : p.2 ≤ 9223372036854775807) :
    (Instr.lookup 87 (.map (some bs)) (.agg #[.int .i64 (p.1 : Int), .int .i64 (p.2 : Int)]) false).run Try.prog wr = .ok (.bool (decide (p ∈ L'))) wr := by
  obtain ⟨fs, hs, hss⟩ := h.seen
  obtain ⟨l, hl⟩ := pv_key h1 h2
  have hz : (zeroValue 4).run Try.prog wr = .ok (.bool false) wr := by kernel_rfl
  have := hs.look (Keyed.of_law law2) Try.underlying87 hz hl false
  rw [hss.look p] at this
  exact this
/-- A pair is seen. -/
theorem PairsAt.see (h : PairsAt w0 wr kind bh bs m A c had L L') {p : Nat × Nat} (h1 : p.1 ≤ 9223372036854775807) (h2 : p.2 ≤ 9223372036854775807) (hp : p ∉ L') (hl : L'.length < maxLen) :
    ∃ es clock, (Instr.mapUpdate 87 (.map (some bs)) (.agg #[.int .i64 (p.1 : Int), .int .i64 (p.2 : Int)]) (.bool true)).run Try.prog wr = .ok () (ChangeMaps.setBlock wr bs (.map es clock)) ∧
      PairsAt w0 (ChangeMaps.setBlock wr bs (.map es clock)) kind bh bs m A c had L (L' ++ [p]) := by
  obtain ⟨q1, q2, ne, row, ⟨fh, nh, hn, hm, hh⟩, ⟨fs, hs, hss⟩, below⟩ := h
  obtain ⟨l, hk⟩ := pv_key h1 h2
  obtain ⟨es, clock, hrun, hst⟩ := hs.store (Keyed.of_law law2) Try.underlying87 hl hk (.bool true)
  have hne : ∀ {i t cs}, Blk wr i t cs → i ≠ bs := fun hb e => hs.ne_blk hb e.symm
  refine ⟨es, clock, hrun, q1, q2, ne, ?_, ⟨fh, nh, hn, hm.setBlock ne _, hh.keep fun i cs hb => heap_setBlock_ne _ _ _ (hne hb)⟩, ⟨_, ?_, hss.put p⟩, below.trans (((Only.refl (fun i => i = bs) wr).setBlock (.inl rfl) _).below below.size fun k hk e => by omega)⟩
  · refine own_same row fun i hi => ?_
    obtain ⟨cs, hb⟩ := own_blk row hi
    exact heap_setBlock_ne _ _ _ (hne hb)
  · rw [hss.some_ hp] at hst
    rw [List.length_append]
    exact hst
/-- A pair is told. -/
theorem PairsAt.tell {w1 : World} {A1 : Option Addr} {c1 : Nat} {p : Nat × Nat} (h : PairsAt w0 wr kind bh bs m A c had L L') {wx : World} (hx : Below wr.heap.size wr wx)
    (ho : w1.ownsRow w0.heap.size 41 3 (.slice A1 (L.length + 1) c1) (L.length + 1) ((outW kind L).flatMap w3 ++ w3 (kind, (p.1 : Int), (p.2 : Int)))) (hg : wx.grownBy w1 (Value.slice A L.length c).ownBlock) :
    PairsAt w0 w1 kind bh bs m A1 c1 had (L ++ [p]) L' := by
  obtain ⟨q1, q2, ne, row, ⟨fh, nh, hn, hm, hh⟩, ⟨fs, hs, hss⟩, below⟩ := h.keep hx
  have hrow : ∀ b, (Value.slice A L.length c).ownBlock = some b → ∃ cs, Blk wx b 41 cs := fun b hb => own_blk row (by rw [outW_len]; exact hb)
  have hno : ∀ {i t cs}, Blk wx i t cs → t ≠ 41 → some i ≠ (Value.slice A L.length c).ownBlock := fun hb ht e => by
    obtain ⟨cs, hb'⟩ := hrow _ e.symm
    exact Blk.ne_ hb hb' ht rfl
  have hnm : ∀ {k i n f}, MapV Try.prog k wx i n f → some i ≠ (Value.slice A L.length c).ownBlock := fun hm e => by
    obtain ⟨cs, hb'⟩ := hrow _ e.symm
    exact hm.ne_blk hb' rfl
  refine ⟨q1, q2, ne, ?_, ⟨fh, nh, hn, hm.grown hg (hnm hm), hh.keep fun i cs hb => hg.block i hb.lt (hno hb (by decide))⟩, ⟨fs, hs.grown hg (hnm hs), hss⟩, ?_⟩
  · unfold WitRow
    rw [outW_snoc, w3_snoc]
    simpa [outW_len] using ho
  · exact below.grown hg below.size fun k hk => (row.lt k (by rw [outW_len]; exact hk)).1
/-- A triangle has a key. -/
theorem PairsAt.have_ (h : PairsAt w0 wr kind bh bs m A c had L L') (k : K3) (h1 : (Lit.int .i64 k.1).wf = true) (h2 : (Lit.int .i64 k.2.1).wf = true) (h3 : (Lit.int .i64 k.2.2).wf = true) (hml : m < maxLen) (i : Nat) :
    ∃ (Ak : Option Addr) (ck st : Nat) (es : Array MapEntry) (clock : Nat), (Instr.mapEntry 86 (.map (some bh)) (.agg #[.int .i64 k.1, .int .i64 k.2.1, .int .i64 k.2.2])).run Try.prog wr = .ok (.tuple #[.slice Ak (had k).length ck, .int .i64 (st : Int)]) (ChangeMaps.setBlock wr bh (.map es clock)) ∧
      NatRow (ChangeMaps.setBlock wr bh (.map es clock)) w0.heap.size Ak ck (had k) ∧
      ∀ w1 A1 c1, w1.ownsRow w0.heap.size 3 1 (.slice A1 ((had k).length + 1) c1) ((had k).length + 1) (nats (had k) ++ [.int .i64 (i : Int)]) → (ChangeMaps.setBlock wr bh (.map es clock)).grownBy w1 (Value.slice Ak (had k).length ck).ownBlock →
        ((Value.slice A1 ((had k).length + 1) c1).ownBlock = (Value.slice Ak (had k).length ck).ownBlock ∨ (Value.slice A1 ((had k).length + 1) c1).ownBlock = some (ChangeMaps.setBlock wr bh (.map es clock)).heap.size) →
        ∃ es' clock', (Instr.entryStore 86 (.map (some bh)) (.int .i64 (st : Int)) (.slice A1 ((had k).length + 1) c1)).run Try.prog w1 = .ok () (ChangeMaps.setBlock w1 bh (.map es' clock')) ∧
          PairsAt w0 (ChangeMaps.setBlock w1 bh (.map es' clock')) kind bh bs (m + 1) A c (fun x => if x = k then had k ++ [i] else had x) L L' := by
  obtain ⟨q1, q2, ne, row, ⟨fh, nh, hn, hm, hh⟩, ⟨fs, hs, hss⟩, below⟩ := h
  obtain ⟨l, hk⟩ := kv_key h1 h2 h3
  have hz : ∀ u : World, (zeroValue 52).run Try.prog u = .ok (.slice none 0 0) u := fun u => by kernel_rfl
  obtain ⟨st, es, clock, hrun, hent⟩ := hm.entry law3 Try.underlying86 (by omega) hz hk
  obtain ⟨Ak, ck, e1, e2, e3⟩ := hh.look k
  rw [e1] at hrun
  have hne : ∀ {i t cs}, Blk wr i t cs → i ≠ bh := fun hb e => hm.ne_blk hb e.symm
  have e2' : NatRow (ChangeMaps.setBlock wr bh (.map es clock)) w0.heap.size Ak ck (had k) := own_same e2 fun i hi => by
    obtain ⟨cs, hb⟩ := own_blk e2 hi
    exact heap_setBlock_ne _ _ _ (hne hb)
  have hss0 : ∀ {i : Nat} {t : TypeId} {cs : Array Value}, Blk wr i t cs → Blk (ChangeMaps.setBlock wr bh (.map es clock)) i t cs := fun hb => hb.setBlock (hne hb) _
  refine ⟨Ak, ck, st, es, clock, hrun, e2', fun w1 A1 c1 ho hg hat => ?_⟩
  have hint : ∀ b, (Value.slice Ak (had k).length ck).ownBlock = some b → ∃ cs, Blk (ChangeMaps.setBlock wr bh (.map es clock)) b 3 cs := fun b hb => own_blk e2' hb
  obtain ⟨es0, clock0, hb0, r0⟩ := hm
  have hbh : (ChangeMaps.setBlock wr bh (.map es clock)).heap[bh]? = some (.map es clock) := ChangeMaps.heap_setBlock_same hb0 _
  have hszE : (ChangeMaps.setBlock wr bh (.map es clock)).heap.size = wr.heap.size := by simp [ChangeMaps.setBlock]
  have hbhl : bh < wr.heap.size := (Array.getElem?_eq_some_iff.1 hb0).1
  have hw1 : w1.heap[bh]? = some (.map es clock) := by
    rw [← hbh]
    refine hg.block bh (by rw [hszE]; exact hbhl) fun e => ?_
    obtain ⟨cs, hb⟩ := hint _ e.symm
    unfold Blk at hb
    rw [hbh] at hb
    cases hb
  obtain ⟨es', clock', hst, hmv⟩ := hent w1 (.slice A1 ((had k).length + 1) c1) hw1
  refine ⟨es', clock', hst, q1, q2, ne, ?_, ⟨_, _, ?_, hmv, ?_⟩, ⟨fs, ?_, hss⟩, ?_⟩
  · refine own_same row fun i hi => ?_
    obtain ⟨cs, hb⟩ := own_blk row hi
    rw [heap_setBlock_ne _ _ _ (hne hb)]
    refine (hg.block i (hss0 hb).lt fun e => ?_).trans (heap_setBlock_ne _ _ _ (hne hb))
    obtain ⟨cs', hb'⟩ := hint _ e.symm
    exact Blk.ne_ (hss0 hb) hb' (by decide) rfl
  · split <;> omega
  · have hh' : HadAt (ChangeMaps.setBlock wr bh (.map es clock)) w0.heap.size kv fh had := hh.keep fun i cs hb => heap_setBlock_ne _ _ _ (hne hb)
    have hl : (had k ++ [i]).length = (had k).length + 1 := by simp
    have hput := hh'.put (w' := w1) (fun _ _ => kv_inj) (k := k) (v := .slice Ak (had k).length ck) e3 (A' := A1) (c' := c1) (l := had k ++ [i]) (by simp) (by unfold NatRow; rw [hl]; simpa [nats] using ho) hg
      (by rw [hl]; rcases hat with h | h; exact .inl h; exact .inr ⟨_, h, Nat.le_refl _⟩) (H' := fun x => if x = k then had k ++ [i] else had x) (by simp) (fun x hx => by simp [hx])
    rw [hl] at hput
    refine hput.keep fun i cs hb => heap_setBlock_ne _ _ _ fun e => ?_
    subst e
    unfold Blk at hb
    rw [hw1] at hb
    cases hb
  · refine (hs.setBlock (Ne.symm ne) _ |>.grown hg fun e => ?_).setBlock (Ne.symm ne) _
    obtain ⟨cs, hb⟩ := hint _ e.symm
    exact (hs.setBlock (Ne.symm ne) _).ne_blk hb rfl
  · have b1 : Below w0.heap.size w0 (ChangeMaps.setBlock wr bh (.map es clock)) := below.trans (((Only.refl (fun i => i = bh) wr).setBlock (.inl rfl) _).below below.size fun k hk e => by omega)
    have b2 := b1.grown hg b1.size fun k hk => (e2'.lt k hk).1
    exact b2.trans (((Only.refl (fun i => i = bh) w1).setBlock (.inl rfl) _).below b2.size fun k hk e => by omega)
/-- The row of a key. -/
theorem PairsAt.rowQ (h : PairsAt w0 wr kind bh bs m A c had L L') (k : K3) (h1 : (Lit.int .i64 k.1).wf = true) (h2 : (Lit.int .i64 k.2.1).wf = true) (h3 : (Lit.int .i64 k.2.2).wf = true) :
    ∃ Ak ck, (Instr.lookup 86 (.map (some bh)) (.agg #[.int .i64 k.1, .int .i64 k.2.1, .int .i64 k.2.2]) false).run Try.prog wr = .ok (.slice Ak (had k).length ck) wr ∧ NatRow wr w0.heap.size Ak ck (had k) := by
  obtain ⟨fh, nh, hn, hm, hh⟩ := h.hadm
  obtain ⟨l, hk⟩ := kv_key h1 h2 h3
  obtain ⟨Ak, ck, e1, e2, _⟩ := hh.look k
  have hz : (zeroValue 52).run Try.prog wr = .ok (.slice none 0 0) wr := by kernel_rfl
  have := hm.look (Keyed.of_law law3) Try.underlying86 hz hk false
  rw [if_neg (by decide), e1] at this
  exact ⟨Ak, ck, this, e2⟩
end
end Go.Proofs.Ytdmibpcpocacpaa
