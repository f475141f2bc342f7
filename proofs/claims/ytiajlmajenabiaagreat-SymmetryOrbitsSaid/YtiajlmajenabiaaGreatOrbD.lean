/- A renumbering keeps how many triangles a vertex has, and whether it is an inner one: plain. No condition. -/
import Derived.Test.YtiajlmajenabiaaGreatWz47
import Derived.Test.YtiajlmajenabiaaGreatPlB
set_option maxRecDepth 100000
set_option maxHeartbeats 16000000
set_option linter.all false
namespace Go.Proofs.YtiajlmajenabiaaGreat
open Go.RowKit
section
variable {m : Nat} {T : List Tri}
def atV (T : List Tri) (v : Int) : List Nat := (List.range (3 * T.length)).filter fun c => decide (cv T c = v)
theorem atV_mem {v : Int} {c : Nat} : c ∈ atV T v ↔ c < 3 * T.length ∧ cv T c = v := by
 unfold atV
 rw [List.mem_filter, List.mem_range, decide_eq_true_iff]
theorem ring_atV (hs : SurfE m T) {v : Int} {s b : Nat} {bo : Bool} {M L : List Nat} (h : Ring T v s b bo M L) : L.length = (atV T v).length := by
 have hb : cv T b = v := h.vv b h.on.from_mem
 refine List.Perm.length_eq ((List.perm_ext_iff_of_nodup h.nd (List.nodup_range.filter _)).2 fun c => ?_)
 show c ∈ L ↔ c ∈ atV T v
 rw [atV_mem]
 exact ⟨fun hc => ⟨h.lt c hc, h.vv c hc⟩, fun hc => around_all hs h.fi h.on c hc.1 (by rw [hc.2, hb])⟩
theorem ring_border (hs : SurfE m T) {v : Int} {s b : Nat} {bo : Bool} {M L : List Nat} (h : Ring T v s b bo M L) : bo = true ↔ ∃ c, c < 3 * T.length ∧ cv T c = v ∧ befF T c = none := by
 have hb : cv T b = v := h.vv b h.on.from_mem
 constructor
 · intro e
   exact ⟨b, h.fi.lt, hb, h.fi.bor e⟩
 · rintro ⟨c, hc, hv, hn⟩
   exact (first_only hs h.fi hc (by rw [hv, hb]) hn).2
theorem bef_go {f : Nat → Nat} {g : Int → Int} (h : Emb T T f g) {c : Nat} (hc : c < 3 * T.length) : befF T (f c) = (befF T c).map f := by
 unfold befF
 rw [if_pos (h.lt c hc), if_pos hc, ← h.pv c hc, h.op _ (pvc_lt hc)]
 cases ho : oppF T (pvc c) with
 | none => rfl
 | some o =>
  have hl := (facing_some ho).1
  simp only [Option.map_some]
  rw [h.pv o hl]
theorem ring_iso (hs : SurfE m T) {rn : List Int} (h : IsoL m T T rn) {v u : Int} (hv : 0 ≤ v ∧ v < (m : Int)) (e : gS rn v = u) {s b s' b' : Nat} {bo bo' : Bool} {M L M' L' : List Nat} (r1 : Ring T v s b bo M L) (r2 : Ring T u s' b' bo' M' L') :
  L.length = L'.length ∧ bo = bo' := by
 obtain ⟨f, hf, hg, ho⟩ := h.emb hs hs rfl
 have hback : ∀ c, c < 3 * T.length → cv T (f c) = u → cv T c = v := fun c hc ec => by
  rw [hf.cv c hc, ← e] at ec
  exact h.inj (cv_bd hs hc) hv ec
 constructor
 · rw [ring_atV hs r1, ring_atV hs r2]
   have hnd : ((atV T v).map f).Nodup := by
    refine nodup_mapI (fun a ha b hb e => ?_) (List.nodup_range.filter _)
    exact hf.inj a b (atV_mem.1 ha).1 (atV_mem.1 hb).1 e
   have hp : ((atV T v).map f).Perm (atV T u) := (List.perm_ext_iff_of_nodup hnd (List.nodup_range.filter _)).2 fun d => by
    show d ∈ (atV T v).map f ↔ d ∈ atV T u
    rw [List.mem_map, atV_mem]
    constructor
    · rintro ⟨c, hc, rfl⟩
      obtain ⟨h1, h2⟩ := atV_mem.1 hc
      exact ⟨hf.lt c h1, by rw [hf.cv c h1, h2, e]⟩
    · rintro ⟨h1, h2⟩
      obtain ⟨c, hc, rfl⟩ := ho d h1
      exact ⟨c, atV_mem.2 ⟨hc, hback c hc h2⟩, rfl⟩
   have := hp.length_eq
   rwa [List.length_map] at this
 · rw [Bool.eq_iff_iff, ring_border hs r1, ring_border hs r2]
   constructor
   · rintro ⟨c, h1, h2, h3⟩
     exact ⟨f c, hf.lt c h1, by rw [hf.cv c h1, h2, e], by rw [bef_go hf h1, h3]; rfl⟩
   · rintro ⟨d, h1, h2, h3⟩
     obtain ⟨c, hc, rfl⟩ := ho d h1
     refine ⟨c, hc, hback c hc h2, ?_⟩
     rw [bef_go hf hc] at h3
     cases hb : befF T c with
     | none => rfl
     | some x => rw [hb] at h3; cases h3
end
end Go.Proofs.YtiajlmajenabiaaGreat
