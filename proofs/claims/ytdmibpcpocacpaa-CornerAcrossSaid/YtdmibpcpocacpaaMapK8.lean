/- The keys of a map, as the library's texts on iterators name them. No condition. -/
import Derived.Test.YtdmibpcpocacpaaRow8
import Derived.Lib.SlKeysI
namespace Go.Proofs.Ytdmibpcpocacpaa
open Go.RowKit Go.Maps
open Go.WideElems (Fit rd rg pl rd_val rd_key)

theorem MapI.data {P : Program} {k : TypeId} {w : World} {b n : Nat} {f : Int → Option Value} (h : MapI P k w b n f) (hk : P.underlying k = some (.int .i64)) :
    ∃ D : DataW Unit, w.ownsMap P k anyElem b n D ∧ (intKeys D).Nodup ∧ (∀ x, x ∈ intKeys D ↔ (Lit.int .i64 x).wf = true ∧ (f x).isSome = true) ∧ Maps.size D ≤ n := by
  obtain ⟨es, clock, hb, F, hs, hf⟩ := h
  have hown : w.ownsMap P k anyElem b n (.map ((es.toList.map (rg P k anyElem)).foldr DataW.insert [])) := ⟨es, clock, hb, F, by omega, rfl⟩
  refine ⟨_, hown, ?_, fun x => ?_, hown.size_le⟩
  · obtain ⟨es', hD, hpw, _⟩ := hown.entries (int_keyed hk)
    obtain ⟨es'', hD', hko⟩ := hown.keysOf
    obtain rfl : es' = es'' := by rw [hD] at hD'; simpa using hD'
    rw [hD]
    show (es'.map fun p => Go.intOf p.1).Nodup
    refine List.pairwise_map.2 (hpw.imp_of_mem fun {p q} hp' hq' hne e => hne ?_)
    obtain ⟨v, hv⟩ := hko p hp'
    obtain ⟨v', hv'⟩ := hko q hq'
    obtain ⟨a, _, ha, _⟩ := Maps.keyOf_i64 hk hv
    obtain ⟨c, _, hc, _⟩ := Maps.keyOf_i64 hk hv'
    rw [ha, hc] at e ⊢
    exact congrArg _ e
  · show x ∈ (((es.toList.map (rg P k anyElem)).foldr DataW.insert []).map fun p => Go.intOf p.1) ↔ _
    rw [List.mem_map]
    constructor
    · rintro ⟨p, hp, rfl⟩
      obtain ⟨e, he, rfl⟩ := List.mem_map.1 (mem_sorted.1 hp)
      obtain ⟨y, hy⟩ := F.reads e he
      rw [WideElems.rg_of hy]
      obtain ⟨a, ha, hl, hw⟩ := Maps.keyOf_i64 hk (rd_key hy)
      rw [hl]
      refine ⟨hw, ?_⟩
      show (f a).isSome = true
      rw [(hf a hw e.val).2 ⟨e, he, ha, rfl⟩]
      rfl
    · rintro ⟨hw, hs'⟩
      obtain ⟨v, hv⟩ := Option.isSome_iff_exists.1 hs'
      obtain ⟨e, he, hk', hv'⟩ := (hf x hw v).1 hv
      obtain ⟨y, hy⟩ := F.reads e he
      refine ⟨_, mem_sorted.2 (List.mem_map.2 ⟨e, he, rfl⟩), ?_⟩
      rw [WideElems.rg_of hy]
      obtain ⟨a, ha, hl, _⟩ := Maps.keyOf_i64 hk (rd_key hy)
      rw [hl]
      rw [ha] at hk'
      show a = x
      simpa using hk'
end Go.Proofs.Ytdmibpcpocacpaa
