/- A map keyed by edges: its keys, as literals. No condition. -/
import Derived.Test.YtdmibpcpocacpaaMapV
import Derived.Test.YtdmibpcpocacpaaMapK8
import Derived.Test.YtdmibpcpocacpaaSoup8
namespace Go.Proofs.Ytdmibpcpocacpaa
open Go.RowKit Go.Maps
open Go.Maps (Keyed)
open Go.WideMaps (KeyLaw)
open Go.WideElems (Fit rd rg pl rd_val rd_key)

theorem two_of {α : Type} : ∀ {l : List α}, l.length = 2 → ∃ a b, l = [a, b]
  | [a, b], _ => ⟨a, b, rfl⟩
def encE (x : Int × Int) : Value := .agg #[.int .i64 x.1, .int .i64 x.2]
def cellE (x : Int × Int) : List Value := [.int .i64 x.1, .int .i64 x.2]
theorem encE_inj {x y : Int × Int} (h : encE x = encE y) : x = y := by
  obtain ⟨a, b⟩ := x
  obtain ⟨c, d⟩ := y
  simp [encE] at h
  obtain ⟨rfl, rfl⟩ := h
  rfl
theorem prog_laid8 : laidOutB Try.prog = true := by kernel_rfl
theorem lawE : KeyLaw Try.prog 31 := deep_law_laid prog_laid8 (m := 2) (by omega) (of_decide_eq_true (by kernel_rfl)) (by kernel_rfl) (by rw [Try.underlying31])
theorem keyedE : Keyed Try.prog 31 := Keyed.of_law lawE
def wfE (x : Int × Int) : Prop := (Lit.int .i64 x.1).wf = true ∧ (Lit.int .i64 x.2).wf = true
theorem keyE {x : Int × Int} (h : wfE x) : ∃ l, keyOf Try.prog 31 (encE x) = some l := by
  obtain ⟨w1, w2⟩ := h
  have hc : Try.prog.cellsOf 3 = 1 := by kernel_rfl
  have hc3 : Try.prog.cellsOf 31 = 2 := by kernel_rfl
  have hkt : Try.prog.keyType 31 = true := by kernel_rfl
  obtain ⟨m, hm⟩ : ∃ m, Try.prog.types.size + 1 = m + 2 := ⟨_, rfl⟩
  unfold keyOf
  rw [hm]
  simp [encE, Try.underlying31, Try.underlying3, hkt, Value.formed, hc3, hc, Program.keyLits, Value.cells, List.range, List.range.loop, w1, w2]
set_option maxRecDepth 100000 in
theorem keyE_inv {v : Value} {l : Lit} (h : keyOf Try.prog 31 v = some l) : ∃ x, v = encE x ∧ wfE x := by
  have hc : Try.prog.cellsOf 3 = 1 := by kernel_rfl
  have hc3 : Try.prog.cellsOf 31 = 2 := by kernel_rfl
  have hkt : Try.prog.keyType 31 = true := by kernel_rfl
  obtain ⟨m, hm⟩ : ∃ m, Try.prog.types.size + 1 = m + 2 := ⟨_, rfl⟩
  unfold keyOf at h
  rw [hm] at h
  have one : ∀ (c : Value) (ls : List Lit), Try.prog.keyLits (m + 1) 3 [c] = some ls → ∃ a, c = .int .i64 a ∧ (Lit.int .i64 a).wf = true := fun c ls hk => by
    cases c <;> simp [Program.keyLits, Try.underlying3] at hk
    obtain ⟨⟨rfl, hw⟩, _⟩ := hk
    exact ⟨_, rfl, hw⟩
  cases v with
  | agg cs =>
    simp [Try.underlying31, hkt, Value.formed, hc3] at h
    obtain ⟨hs, ls, hl, _⟩ := h
    obtain ⟨cl⟩ := cs
    obtain ⟨c0, c1, rfl⟩ := two_of (show cl.length = 2 by simpa using hs)
    clear hs
    unfold Program.keyLits at hl
    simp [Try.underlying31, hc3, hc, Value.cells, List.range, List.range.loop] at hl
    cases e0 : Try.prog.keyLits (m + 1) 3 [c0] with
    | none => simp [e0] at hl
    | some l0 =>
      cases e1 : Try.prog.keyLits (m + 1) 3 [c1] with
      | none => simp [e0, e1] at hl
      | some l1 =>
        obtain ⟨a, rfl, ha⟩ := one c0 _ e0
        obtain ⟨b, rfl, hb⟩ := one c1 _ e1
        exact ⟨(a, b), by simp [encE], ha, hb⟩
  | _ => simp [Try.underlying31, hkt, Value.formed] at h
set_option maxRecDepth 100000 in
theorem MapV.data {w : World} {b n : Nat} {f : Value → Option Value} (h : MapV Try.prog 31 w b n f) :
    ∃ D : DataW Unit, w.ownsMap Try.prog 31 anyElem b n D ∧ (∀ x l, keyOf Try.prog 31 (encE x) = some l → (has D l = true ↔ (f (encE x)).isSome = true)) ∧ Maps.size D ≤ n := by
  obtain ⟨es, clock, hb, F, hs, hf⟩ := h
  have hown : w.ownsMap Try.prog 31 anyElem b n (.map ((es.toList.map (rg Try.prog 31 anyElem)).foldr DataW.insert [])) := ⟨es, clock, hb, F, by omega, rfl⟩
  refine ⟨_, hown, fun x l hk => ?_, hown.size_le⟩
  rw [has_eq, List.any_eq_true]
  constructor
  · rintro ⟨p, hp, hs'⟩
    obtain ⟨e, he, rfl⟩ := List.mem_map.1 (mem_sorted.1 hp)
    obtain ⟨y, hy⟩ := F.reads e he
    rw [WideElems.rg_of hy] at hs'
    have hl := WideAt.sameKey_eq hs'
    have hke := rd_key hy
    rw [hl] at hke
    have hek : e.key = encE x := lawE.inj hke hk
    rw [(hf (encE x) ⟨l, hk⟩ e.val).2 ⟨e, he, hek, rfl⟩]
    rfl
  · intro hs'
    obtain ⟨v, hv⟩ := Option.isSome_iff_exists.1 hs'
    obtain ⟨e, he, hek, _⟩ := (hf (encE x) ⟨l, hk⟩ v).1 hv
    obtain ⟨y, hy⟩ := F.reads e he
    refine ⟨_, mem_sorted.2 (List.mem_map.2 ⟨e, he, rfl⟩), ?_⟩
    rw [WideElems.rg_of hy]
    have hke := rd_key hy
    rw [hek, hk] at hke
    injection hke with hke
    rw [← hke]
    obtain ⟨s, rfl⟩ := lawE.str hk
    simp [Lit.sameKey]
end Go.Proofs.Ytdmibpcpocacpaa
