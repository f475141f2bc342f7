/- The kinds are well: plain. No condition. -/
import Derived.Test.YtiajlmajenabiaaGreatWayD
import Derived.Test.YtiajlmajenabiaaGreatAllX
namespace Go.Proofs.YtiajlmajenabiaaGreat
open Go.RowKit

set_option linter.unusedSimpArgs false
set_option linter.unusedVariables false
section
variable {m : Nat} {T : List Tri}
theorem rootO_head (hs : SurfE m T) {c : Nat} (hc : c < 3 * T.length) : ∃ l, rootO T c = cv T c :: cv T (nxc c) :: cv T (pvc c) :: l := by
  obtain ⟨l, e⟩ := rootC_head (T := T) c
  obtain ⟨l', e'⟩ := oldC_more (T := T) [c] l
  obtain ⟨h1, h2, h3⟩ := cv_ne hs hc
  have h0 : oldC T [c] = [cv T c, cv T (nxc c), cv T (pvc c)] := by
    unfold oldC putX
    simp only [List.foldl_cons, List.foldl_nil]
    unfold putW
    rw [if_neg (by simp : cv T c ∉ ([] : List Int)), if_neg (by simp; exact fun e => h1 e.symm : cv T (nxc c) ∉ ([] ++ [cv T c]))]
    rw [if_neg (by simp; exact ⟨fun e => h3 e, fun e => h2 e.symm⟩)]
    rfl
  refine ⟨l', ?_⟩
  unfold rootO
  rw [e, show c :: l = [c] ++ l from rfl, e', h0]
  rfl
theorem rootO_inj (hs : SurfE m T) {c d : Nat} (hc : c < 3 * T.length) (hd : d < 3 * T.length) (e : rootO T c = rootO T d) : c = d := by
  obtain ⟨l, e1⟩ := rootO_head hs hc
  obtain ⟨l', e2⟩ := rootO_head hs hd
  rw [e1, e2] at e
  simp only [List.cons.injEq] at e
  exact ce_inj hs hc hd (Prod.ext e.2.1 e.2.2.1)
/-- No way comes twice. -/
theorem ways_nd (hs : SurfE m T) {k : Nat} (hk : k < kN T) : (kindV (partOf T k)).ws.Nodup := by
  rw [kind_ways hs hk]
  unfold List.Nodup
  rw [List.pairwise_map]
  have hn : ((List.range (3 * (partOf T k).l.length)).filter fun c => decide (Good T k (fS (partOf T k).l c))).Nodup := List.Pairwise.filter _ List.nodup_range
  refine (List.Pairwise.and_mem.1 hn).imp ?_
  rintro a b ⟨ha, hb, hab⟩ e
  have ha := List.mem_range.1 (List.mem_filter.1 ha).1
  have hb := List.mem_range.1 (List.mem_filter.1 hb).1
  exact hab ((part_sub hs k).inj ha hb (rootO_inj hs (part_corner hs ha).1 (part_corner hs hb).1 e))
theorem ways_pos (hs : SurfE m T) {k : Nat} (hk : k < kN T) : (kindV (partOf T k)).ws ≠ [] := by
  have hb := (bestN_is hk).2
  have : rootO T (bestN T k) ∈ (kindV (partOf T k)).ws := (mem_ways hs hk).2 ⟨_, ⟨hb.lt, hb.of, rfl⟩, rfl⟩
  exact List.ne_nil_of_mem this
theorem kinds_mem {j : Nat} {k : KindV} : k ∈ kindsL T j ↔ ∃ i, i < j ∧ k = kindV (partOf T i) := by
  unfold kindsL
  rw [List.mem_map]
  constructor
  · rintro ⟨i, hi, rfl⟩
    exact ⟨i, List.mem_range.1 hi, rfl⟩
  · rintro ⟨i, hi, rfl⟩
    exact ⟨i, List.mem_range.2 hi, rfl⟩
theorem rootO_bd (hs : SurfE m T) {c : Nat} (hc : c < 3 * T.length) : ∀ v ∈ rootO T c, 0 ≤ v ∧ v < (m : Int) := fun v hv => by
  obtain ⟨x, hx, _, rfl⟩ := (rootO_iff hs hc v).1 hv
  exact cv_bd hs hx
theorem kinds_ok (hs : SurfE m T) (hn : T.length ≤ 1000) : KOk m (kindsL T (kN T)) := by
  refine ⟨fun k hk => ?_, fun k hk w hw => ?_, fun k hk => ?_⟩
  · obtain ⟨i, hi, rfl⟩ := kinds_mem.1 hk
    exact ways_pos hs hi
  · obtain ⟨i, hi, rfl⟩ := kinds_mem.1 hk
    obtain ⟨c, hc, rfl⟩ := (mem_ways hs hi).1 hw
    refine ⟨?_, rootO_bd hs hc.1⟩
    rw [(kind_form hs hi).1, (rowC_eq.1 hc.2.2).1]
  · have h := kinds_small (parts_ok hs) hn
    refine ⟨h.1 k hk, h.2 k hk, ?_⟩
    obtain ⟨i, hi, rfl⟩ := kinds_mem.1 hk
    rw [(kind_form hs hi).1]
    have hb := (bestN_is hi).2.lt
    have h1 := oldC_len (T := T) (rootC T (bestN T i))
    have h2 := (rootC_fi hb).short
    unfold rootO
    omega
end
end Go.Proofs.YtiajlmajenabiaaGreat
