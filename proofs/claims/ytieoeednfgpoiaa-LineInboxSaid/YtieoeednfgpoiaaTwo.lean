/- Two inboxes, apart; slices of packets. No condition. -/
import Derived.Test.YtieoeednfgpoiaaInLaw
import Derived.Test.YtieoeednfgpoiaaOpen2
namespace Go.Proofs.Ytieoeednfgpoiaa
open Go.RowKit

/-- Two inboxes, apart. -/
structure Two (w : World) (base ga gb : Nat) (oa ob : Option Nat) (ta tb : IS) : Prop where
  ia : ∃ fm, InAt w base ga oa fm ta
  ib : ∃ fm, InAt w base gb ob fm tb
  ne : ga ≠ gb
  no : ∀ k, oa = some k → ob ≠ some k
theorem Two.symm {w : World} {base ga gb : Nat} {oa ob : Option Nat} {ta tb : IS} (h : Two w base ga gb oa ob ta tb) : Two w base gb ga ob oa tb ta :=
  ⟨h.ib, h.ia, h.ne.symm, fun k e1 e2 => h.no k e2 e1⟩
theorem Two.below {w w' : World} {base ga gb : Nat} {oa ob : Option Nat} {ta tb : IS} (h : Two w base ga gb oa ob ta tb) (hb : Below w.heap.size w w') : Two w' base ga gb oa ob ta tb := by
  obtain ⟨fa, ha⟩ := h.ia
  obtain ⟨fb, hb'⟩ := h.ib
  exact ⟨⟨fa, ha.below hb⟩, ⟨fb, hb'.below hb⟩, h.ne, h.no⟩

/-- A packet taken by the first of two. -/
theorem two_take {w : World} {base ga gb : Nat} {oa ob : Option Nat} {ta tb : IS} (h : Two w base ga gb oa ob ta tb) (x : Int) (A : Option Addr) (c : Nat) (d : List UInt8) (hr : Reads w base 1 A d.length (B8 d))
    (h1 : -9223372036854775808 ≤ x) (h2 : x ≤ 9223372036854775807) (h3 : d.length ≤ 65536) (h4 : ta.took.length ≤ 1000000) :
    Calls Try.prog 21 #[.pointer (some ⟨ga, 0, none⟩), .agg #[.int .i64 x, .slice A d.length c]] w fun e w' => e = .returned (.tuple #[]) ∧ ∃ oa', Two w' base ga gb oa' ob (ta.take x d) tb ∧ Below base w w' := by
  obtain ⟨fa, ha⟩ := h.ia
  obtain ⟨fb, hb⟩ := h.ib
  have hbase : base ≤ w.heap.size := Nat.le_of_lt (Nat.lt_of_le_of_lt ha.g1 ha.blk.lt)
  have hlow : ∀ k, k < base → ¬ (k = ga ∨ oa = some k) := by
    rintro k hk (e | e)
    · have := ha.g1; omega
    · rcases ha.map with ⟨e', _⟩ | ⟨b, e', hb', _⟩
      · rw [e'] at e; cases e
      · rw [e'] at e; injection e with e; omega
  refine (take_any ga base oa fa ta x A d.length c d w ha rfl (fun W hW => ((hr.only hW hbase hlow).more (Nat.le_trans hbase hW.size))) h1 h2 (by omega) h4).mono fun e w' hp => ?_
  obtain ⟨he, oa', fm', hi', hon, hob⟩ := hp
  refine ⟨he, oa', ⟨⟨fm', hi'⟩, ⟨fb, hb.only hon fun k hk => ?_⟩, h.ne, ?_⟩, hon.below hbase hlow⟩
  · rcases hk with rfl | rfl
    · refine ⟨h.ne, fun e => ?_, fun cs hb' => Blk.ne_ ha.blk hb' (by decide) rfl⟩
      subst e
      exact hb.map_of.ne_blk ha.blk rfl
    · exact ⟨fun e => ha.map_of.ne_blk hb.blk e, h.no _ rfl, fun cs hb' => ha.map_of.ne_blk hb' rfl⟩
  · rcases hob with rfl | h1
    · exact h.no
    · intro k e1 e2
      have := h1 k e1
      subst e2
      have := hb.map_of.lt
      omega

/-- A packet as it stands in memory. -/
structure PV where
  seq : Int
  A : Option Addr
  c : Nat
  data : List UInt8
def PV.cells (p : PV) : List Value := [.int .i64 p.seq, .slice p.A p.data.length p.c]
def PV.key (p : PV) : Int × List UInt8 := (p.seq, p.data)
theorem flat_at (ps : List PV) : ∀ (k : Nat) (p : PV), ps[k]? = some p → (ps.flatMap PV.cells)[k * 2]? = some (.int .i64 p.seq) ∧ (ps.flatMap PV.cells)[k * 2 + 1]? = some (.slice p.A p.data.length p.c) := by
  induction ps with
  | nil => intro k p h; simp at h
  | cons q ps ih =>
    intro k p h
    cases k with
    | zero => simp at h; subst h; exact ⟨rfl, rfl⟩
    | succ k =>
      have := ih k p (by simpa using h)
      rw [show (k + 1) * 2 = k * 2 + 2 by omega]
      exact this
/-- A slice of packets. -/
structure PacksAt (w : World) (B : Nat) (A : Option Addr) (n : Nat) (ps : List PV) : Prop where
  row : Reads w B 2 A n (ps.flatMap PV.cells)
  len : ps.length = n
  data : ∀ p ∈ ps, Reads w B 1 p.A p.data.length (B8 p.data)
theorem PacksAt.below {w w' : World} {B : Nat} {A : Option Addr} {n : Nat} {ps : List PV} (h : PacksAt w B A n ps) (hb : Below B w w') : PacksAt w' B A n ps :=
  ⟨h.row.below hb, h.len, fun p hp => (h.data p hp).below hb⟩
theorem PacksAt.at_ {w : World} {B : Nat} {A : Option Addr} {n : Nat} {ps : List PV} (h : PacksAt w B A n ps) {k : Nat} (hk : k < n) :
    ∃ ad p, A = some ad ∧ ps[k]? = some p ∧ p ∈ ps ∧ ad.block < B ∧ w.cell? (ad.add (k * 2)) = some (.int .i64 p.seq) ∧ w.cell? (ad.add (k * 2 + 1)) = some (.slice p.A p.data.length p.c) := by
  obtain ⟨ad, e, hb, hc⟩ := h.row.2 (by omega)
  have hl : k < ps.length := by rw [h.len]; exact hk
  have hp : ps[k]? = some ps[k] := List.getElem?_eq_getElem hl
  obtain ⟨h1, h2⟩ := flat_at ps k _ hp
  exact ⟨ad, ps[k], e, hp, List.getElem_mem hl, hb, hc _ _ h1, hc _ _ h2⟩

section
open Go.ChangeShapes Go.WideShapes Go.ChangeAt
theorem flatMap_len2 {α : Type} (f : α → List Value) (hf : ∀ a, (f a).length = 2) : ∀ l : List α, (l.flatMap f).length = l.length * 2
  | [] => rfl
  | a :: l => by rw [List.flatMap_cons, List.length_append, hf, flatMap_len2 f hf l, List.length_cons]; omega
theorem flat_of (f : PV → List Value) (ps : List PV) (hf : f = PV.cells) : ∀ (j : Nat) (u : Value), (ps.flatMap f)[j]? = some u → ∃ k p, ps[k]? = some p ∧ ((j = k * 2 ∧ u = .int .i64 p.seq) ∨ (j = k * 2 + 1 ∧ u = .slice p.A p.data.length p.c)) := by
  subst hf
  induction ps with
  | nil => intro j u h; simp at h
  | cons q ps ih =>
    intro j u h
    match j with
    | 0 => exact ⟨0, q, rfl, .inl ⟨rfl, (Option.some.inj h).symm⟩⟩
    | 1 => exact ⟨0, q, rfl, .inr ⟨rfl, (Option.some.inj h).symm⟩⟩
    | j + 2 =>
      obtain ⟨k, p, hk, h'⟩ := ih j u h
      exact ⟨k + 1, p, by simpa using hk, by rcases h' with ⟨h1, h2⟩ | ⟨h1, h2⟩; exact .inl ⟨by omega, h2⟩; exact .inr ⟨by omega, h2⟩⟩

/-- A slice of packets that came in. -/
theorem open_packs {H : Type} {enc : TypeId × Value → H} {w : World} {base : Nat} {spare : Nat → Bool} {held : Bool} {fuel : Nat} {A : Option Addr} {n c : Nat} {x : DataW H × List MemPlace}
    (h : DataW.trod enc Try.prog w base spare held fuel 37 [.slice A n c] = some x) :
    ∃ ps : List PV, n ≤ maxLen ∧ PacksAt w w.heap.size A n ps ∧ ∀ p ∈ ps, (Lit.int .i64 p.seq).wf = true ∧ p.data.length ≤ p.c ∧ p.c ≤ maxLen := by
  have h2c : Try.prog.cellsOf 42 = 2 := by kernel_rfl
  rcases Deep.open_slice Try.underlying37 h with ⟨hcs, _⟩ | ⟨a, n', c', m, f, D, Pl, hcs, _, hl, hm, hmm, _, hx⟩
  · simp at hcs
    obtain ⟨rfl, rfl, rfl⟩ := hcs
    exact ⟨[], Nat.zero_le _, ⟨Reads.none_, rfl, fun p hp => by cases hp⟩, fun p hp => by cases hp⟩
  · simp at hcs
    obtain ⟨rfl, rfl, rfl⟩ := hcs
    have hnm : n ≤ m := by rw [hmm]; split <;> omega
    rw [h2c] at hx
    have key : ∀ i, i < n → ∃ p : PV, w.cell? (a.add (i * 2)) = some (.int .i64 p.seq) ∧ w.cell? (a.add (i * 2 + 1)) = some (.slice p.A p.data.length p.c) ∧ Reads w w.heap.size 1 p.A p.data.length (B8 p.data) ∧ (Lit.int .i64 p.seq).wf = true ∧ p.data.length ≤ p.c ∧ p.c ≤ maxLen := by
      intro i hi
      obtain ⟨cs', h1, h2⟩ := hx i (by omega)
      obtain ⟨_, hlen, hc⟩ := World.cells?_some h1
      obtain ⟨u, v, rfl⟩ : ∃ u v, cs' = [u, v] := by
        match cs', hlen with
        | [u, v], _ => exact ⟨u, v, rfl⟩
      obtain ⟨y0, y1, fn, _, _, t0, t1⟩ := trod_struct2 Try.underlying42 h2
      have t0' : DataW.trod enc Try.prog w base spare held fn 3 [u] = some y0 := t0
      have t1' : DataW.trod enc Try.prog w base spare held fn 35 [v] = some y1 := t1
      obtain ⟨z, e0, _, hz⟩ := DataW.trod_int Try.underlying3 t0'
      obtain ⟨A', n', c', l, rfl, h4, h5, h6, h7, h8⟩ := open_row Try.underlying35 Try.underlying5 (by kernel_rfl) t1'
      obtain ⟨b, hb, hbl⟩ := u8_list l h8
      rw [hb] at h7
      have : b.length = n' := by omega
      subst this
      injection e0 with e0 _
      subst e0
      refine ⟨⟨z, A', c', b⟩, ?_, ?_, h7, hz, h5, h6⟩
      · have := hc 0 (by omega)
        rw [add_zero_] at this
        simpa using this
      · have := hc 1 (by omega)
        rw [Deep.add_add] at this
        simpa using this
    have key2 : ∃ F : Nat → PV, ∀ i, i < n → w.cell? (a.add (i * 2)) = some (.int .i64 (F i).seq) ∧ w.cell? (a.add (i * 2 + 1)) = some (.slice (F i).A (F i).data.length (F i).c) ∧ Reads w w.heap.size 1 (F i).A (F i).data.length (B8 (F i).data) ∧ (Lit.int .i64 (F i).seq).wf = true ∧ (F i).data.length ≤ (F i).c ∧ (F i).c ≤ maxLen := by
      haveI : Inhabited PV := ⟨⟨0, none, 0, []⟩⟩
      exact Deep.choose_lt key
    obtain ⟨F, hF⟩ := key2
    have hget : ∀ k p, ((List.range n).map F)[k]? = some p → k < n ∧ p = F k := by
      intro k p hk
      have hkn : k < n := by have := (List.getElem?_eq_some_iff.1 hk).1; simpa using this
      simp [hkn] at hk
      exact ⟨hkn, hk.symm⟩
    refine ⟨(List.range n).map F, by omega, ⟨⟨?_, fun hn => ⟨a, rfl, ?_, fun j u hj => ?_⟩⟩, by simp, fun p hp => ?_⟩, fun p hp => ?_⟩
    · rw [flatMap_len2 _ (fun _ => rfl)]; simp
    · have := World.block_lt_of_cell? w _ (hF 0 (by omega)).1
      rwa [block_of_add] at this
    · obtain ⟨k, p, hk, h'⟩ := flat_of _ _ rfl j u hj
      obtain ⟨hkn, rfl⟩ := hget k p hk
      rcases h' with ⟨rfl, rfl⟩ | ⟨rfl, rfl⟩
      · exact (hF k hkn).1
      · exact (hF k hkn).2.1
    · obtain ⟨k, hk, rfl⟩ := List.mem_map.1 hp
      exact (hF k (List.mem_range.1 hk)).2.2.1
    · obtain ⟨k, hk, rfl⟩ := List.mem_map.1 hp
      exact (hF k (List.mem_range.1 hk)).2.2.2
end
end Go.Proofs.Ytieoeednfgpoiaa
