/- The corners around a vertex, in turn: plain laws. No condition. -/
import Derived.Test.YtdpgbccgngdapaaCorP
namespace Go.Proofs.Ytdpgbccgngdapaa
open Go.RowKit

set_option linter.unusedSimpArgs false
set_option linter.unusedVariables false
/-- What a walk from c comes by, one by one, till it ends or is back at s. -/
def Run (f : Nat → Option Nat) (s : Nat) : List Nat → Nat → Prop
  | [], _ => False
  | [x], c => x = c ∧ (f c = none ∨ f c = some s)
  | x :: y :: L, c => x = c ∧ f c = some y ∧ y ≠ s ∧ Run f s (y :: L) y
/-- What was come by, the last one first. -/
def Back (f : Nat → Option Nat) (s : Nat) : List Nat → Prop
  | [] => False
  | [x] => x = s
  | x :: y :: V => f y = some x ∧ x ≠ s ∧ Back f s (y :: V)
section
variable {f : Nat → Option Nat} {s : Nat}
theorem Run.head {L : List Nat} {c : Nat} (h : Run f s L c) : ∃ R, L = c :: R := by
  match L, h with
  | [x], h => exact ⟨[], by rw [h.1]⟩
  | x :: y :: L, h => exact ⟨y :: L, by rw [h.1]⟩
theorem back_pred (hi : ∀ a b d, f a = some d → f b = some d → a = b) {a d : Nat} (ha : f a = some d) (hd : d ≠ s) : ∀ {V : List Nat}, Back f s V → d ∈ V → ∃ x V', V = x :: V' ∧ a ∈ V'
  | [x], h, hm => by
    obtain rfl : d = x := by simpa using hm
    exact absurd h hd
  | x :: y :: V, h, hm => by
    refine ⟨x, y :: V, rfl, ?_⟩
    rcases List.mem_cons.1 hm with rfl | hm
    · rw [hi a y d ha h.1]; simp
    · obtain ⟨z, V', e, hz⟩ := back_pred hi ha hd h.2.2 hm
      injection e with _ e
      rw [← e] at hz
      exact List.mem_cons_of_mem _ hz
theorem nodup_leN : ∀ (N : Nat) {L : List Nat}, L.Nodup → (∀ x ∈ L, x < N) → L.length ≤ N
  | 0, L, _, hl => by
    cases L with
    | nil => simp
    | cons x L => exact absurd (hl x (by simp)) (by omega)
  | N + 1, L, hn, hl => by
    have h1 := nodup_leN N (L := L.erase N) (hn.erase N) (fun x hx => by
      have h2 := (List.Nodup.mem_erase_iff hn).1 hx
      have := hl x h2.2
      omega)
    by_cases hm : N ∈ L
    · rw [List.length_erase_of_mem hm] at h1; omega
    · rw [List.erase_of_not_mem hm] at h1; omega
theorem run_ex (N : Nat) (hi : ∀ a b d, f a = some d → f b = some d → a = b) (hN : ∀ a d, f a = some d → d < N) : ∀ (k : Nat) (c : Nat) (V : List Nat), N - V.length ≤ k → Back f s (c :: V) → (c :: V).Nodup → (∀ x ∈ c :: V, x < N) → ∃ L, Run f s L c ∧ (V.reverse ++ L).Nodup ∧ ∀ x ∈ L, x < N
  | 0, c, V, hk, _, hn, hl => by
    have := nodup_leN N hn hl
    simp at this
    omega
  | k + 1, c, V, hk, hb, hn, hl => by
    have hend : ∀ h : f c = none ∨ f c = some s, ∃ L, Run f s L c ∧ (V.reverse ++ L).Nodup ∧ ∀ x ∈ L, x < N := fun h => by
      refine ⟨[c], ⟨rfl, h⟩, ?_, by simpa using hl c (by simp)⟩
      have := ((List.reverse_perm (c :: V)).nodup_iff).2 hn
      simpa using this
    cases hf : f c with
    | none => exact hend (.inl hf)
    | some d =>
      by_cases hd : d = s
      · exact hend (.inr (by rw [hf, hd]))
      · have hnd : d ∉ c :: V := fun hm => by
          obtain ⟨x, V', e, hm'⟩ := back_pred hi hf hd hb hm
          injection e with e1 e2
          subst e1 e2
          exact (List.nodup_cons.1 hn).1 hm'
        have hlen := nodup_leN N hn hl
        simp at hlen
        obtain ⟨L, h1, h2, h3⟩ := run_ex N hi hN k d (c :: V) (by simp; omega) ⟨hf, hd, hb⟩ (List.nodup_cons.2 ⟨hnd, hn⟩) (fun x hx => by
          rcases List.mem_cons.1 hx with rfl | hx
          · exact hN c _ hf
          · exact hl x hx)
        obtain ⟨R, rfl⟩ := h1.head
        exact ⟨c :: d :: R, ⟨rfl, hf, hd, h1⟩, by simpa using h2, fun x hx => by
          rcases List.mem_cons.1 hx with rfl | hx
          · exact hl _ (by simp)
          · exact h3 x hx⟩
/-- There is such a walk. -/
theorem run_of (N : Nat) (hi : ∀ a b d, f a = some d → f b = some d → a = b) (hN : ∀ a d, f a = some d → d < N) {s : Nat} (hs : s < N) : ∃ L, Run f s L s ∧ L.Nodup ∧ ∀ x ∈ L, x < N := by
  obtain ⟨L, h1, h2, h3⟩ := run_ex (s := s) N hi hN N s [] (by simp) rfl (by simp) (by simpa using hs)
  exact ⟨L, h1, by simpa using h2, h3⟩
/-- The last one of a walk. -/
def lastN : List Nat → Nat → Nat
  | [], d => d
  | x :: L, _ => lastN L x
theorem lastN_mem : ∀ {L : List Nat} {c : Nat}, L ≠ [] → lastN L c ∈ L
  | [x], c, _ => by simp [lastN]
  | x :: y :: L, c, _ => List.mem_cons_of_mem _ (lastN_mem (L := y :: L) (c := x) (by simp))
theorem Run.last : ∀ {L : List Nat} {c : Nat}, Run f s L c → f (lastN L c) = none ∨ f (lastN L c) = some s
  | [x], c, h => by obtain ⟨rfl, h⟩ := h; exact h
  | x :: y :: L, c, h => by
    obtain ⟨rfl, h1, h2, h3⟩ := h
    exact Run.last (L := y :: L) (c := y) h3
/-- Each behind the first comes of one ahead. -/
theorem Run.pred : ∀ {L : List Nat} {c : Nat}, Run f s L c → ∀ y ∈ L, y ≠ c → ∃ x ∈ L, f x = some y
  | [x], c, h, y, hy, hn => by obtain ⟨rfl, h⟩ := h; exact absurd (by simpa using hy) hn
  | x :: z :: L, c, h, y, hy, hn => by
    obtain ⟨rfl, h1, h2, h3⟩ := h
    by_cases e : y = z
    · subst e; exact ⟨x, by simp, h1⟩
    · rcases List.mem_cons.1 hy with rfl | hy
      · exact absurd rfl hn
      · obtain ⟨u, hu, e⟩ := Run.pred h3 y hy e
        exact ⟨u, List.mem_cons_of_mem _ hu, e⟩
/-- Each one but the last leads on to one behind. -/
theorem Run.succ : ∀ {L : List Nat} {c : Nat}, Run f s L c → ∀ x ∈ L, ∀ y, f x = some y → y = s ∨ y ∈ L
  | [x], c, h, y, hy, z, hz => by
    obtain ⟨rfl, h⟩ := h
    obtain rfl : y = x := by simpa using hy
    rcases h with h | h <;> rw [hz] at h
    · cases h
    · injection h with h; exact .inl h
  | x :: z :: L, c, h, y, hy, u, hu => by
    obtain ⟨rfl, h1, h2, h3⟩ := h
    rcases List.mem_cons.1 hy with rfl | hy
    · rw [hu] at h1
      injection h1 with h1
      subst h1
      exact .inr (by simp)
    · rcases Run.succ h3 y hy u hu with h | h
      · exact .inl h
      · exact .inr (List.mem_cons_of_mem _ h)
/-- The walk is but one. -/
theorem Run.one : ∀ {L M : List Nat} {c : Nat}, Run f s L c → Run f s M c → L = M
  | [x], [y], c, h, g => by rw [h.1, g.1]
  | [x], y :: z :: M, c, h, g => by
    obtain ⟨rfl, h⟩ := h
    rcases h with h | h <;> rw [g.2.1] at h
    · cases h
    · injection h with h; exact absurd h g.2.2.1
  | x :: y :: L, [z], c, h, g => by
    obtain ⟨rfl, g⟩ := g
    rcases g with g | g <;> rw [h.2.1] at g
    · cases g
    · injection g with g; exact absurd g h.2.2.1
  | x :: y :: L, z :: u :: M, c, h, g => by
    have e : y = u := by
      have := h.2.1
      rw [g.2.1] at this
      injection this with this
      exact this.symm
    subst e
    rw [h.1, g.1, Run.one h.2.2.2 g.2.2.2]
theorem Run.all {P : Nat → Prop} (hs : ∀ a b, P a → f a = some b → P b) : ∀ {L : List Nat} {c : Nat}, Run f s L c → P c → ∀ x ∈ L, P x
  | [x], c, h, hc, y, hy => by
    obtain rfl : y = x := by simpa using hy
    rw [h.1]; exact hc
  | x :: z :: L, c, h, hc, y, hy => by
    obtain ⟨rfl, h1, h2, h3⟩ := h
    rcases List.mem_cons.1 hy with rfl | hy
    · exact hc
    · exact Run.all hs h3 (hs _ _ hc h1) y hy
end
/-- The corner behind one around its vertex; the one ahead. -/
def aftF (T : List Tri) (c : Nat) : Option Nat := if c < 3 * T.length then (oppF T (nxc c)).map nxc else none
def befF (T : List Tri) (c : Nat) : Option Nat := if c < 3 * T.length then (oppF T (pvc c)).map pvc else none
theorem nx_pv (c : Nat) : nxc (pvc c) = c := by unfold pvc nxc; omega
theorem nxc_nxc (c : Nat) : nxc (nxc c) = pvc c := by unfold pvc nxc; omega
theorem pvc_pvc (c : Nat) : pvc (pvc c) = nxc c := by unfold pvc nxc; omega
section
variable {m : Nat} {T : List Tri}
theorem aft_some {c d : Nat} (h : aftF T c = some d) : c < 3 * T.length ∧ ∃ o, oppF T (nxc c) = some o ∧ d = nxc o := by
  unfold aftF at h
  split at h
  · cases ho : oppF T (nxc c) with
    | none => rw [ho] at h; cases h
    | some o => rw [ho] at h; injection h with h; exact ⟨by assumption, o, rfl, h.symm⟩
  · cases h
theorem bef_some {c d : Nat} (h : befF T c = some d) : c < 3 * T.length ∧ ∃ o, oppF T (pvc c) = some o ∧ d = pvc o := by
  unfold befF at h
  split at h
  · cases ho : oppF T (pvc c) with
    | none => rw [ho] at h; cases h
    | some o => rw [ho] at h; injection h with h; exact ⟨by assumption, o, rfl, h.symm⟩
  · cases h
theorem aft_bef (h : SurfE m T) {c d : Nat} : aftF T c = some d ↔ befF T d = some c := by
  constructor
  · intro ha
    obtain ⟨hc, o, ho, rfl⟩ := aft_some ha
    obtain ⟨h1, _, h2, _⟩ := opp_back h (nxc_lt hc) ho
    unfold befF
    rw [if_pos (nxc_lt h1), pvc_nxc, h2, Option.map_some, pvc_nxc]
  · intro ha
    obtain ⟨hc, o, ho, rfl⟩ := bef_some ha
    obtain ⟨h1, _, h2, _⟩ := opp_back h (pvc_lt hc) ho
    unfold aftF
    rw [if_pos (pvc_lt h1), nx_pv, h2, Option.map_some, nx_pv]
theorem aft_lt (h : SurfE m T) (a d : Nat) (e : aftF T a = some d) : d < 3 * T.length := (bef_some ((aft_bef h).1 e)).1
theorem bef_lt (h : SurfE m T) (a d : Nat) (e : befF T a = some d) : d < 3 * T.length := (aft_some ((aft_bef h).2 e)).1
theorem aft_inj (h : SurfE m T) (a b d : Nat) (ha : aftF T a = some d) (hb : aftF T b = some d) : a = b := by
  have h1 := (aft_bef h).1 ha
  rw [(aft_bef h).1 hb] at h1
  injection h1 with h1
  exact h1.symm
theorem bef_inj (h : SurfE m T) (a b d : Nat) (ha : befF T a = some d) (hb : befF T b = some d) : a = b := by
  have h1 := (aft_bef h).2 ha
  rw [(aft_bef h).2 hb] at h1
  injection h1 with h1
  exact h1.symm
/-- The edge across which one is behind another. -/
theorem aft_edge (h : SurfE m T) {c d : Nat} (e : aftF T c = some d) : cv T d = cv T c ∧ cv T (nxc d) = cv T (pvc c) := by
  obtain ⟨hc, o, ho, rfl⟩ := aft_some e
  obtain ⟨h1, h2, _⟩ := opp_back h (nxc_lt hc) ho
  unfold ce at h2
  rw [nxc_nxc, pvc_nxc] at h2
  injection h2 with h2 h3
  exact ⟨h2, by rw [nxc_nxc]; exact h3⟩
theorem bef_vert (h : SurfE m T) {c d : Nat} (e : befF T c = some d) : cv T d = cv T c := (aft_edge h ((aft_bef h).2 e)).1.symm
/-- The walk back from a corner, and the walk on from where it begins. -/
theorem back_of (h : SurfE m T) {s : Nat} (hs : s < 3 * T.length) : ∃ L, Run (befF T) s L s ∧ L.Nodup ∧ ∀ x ∈ L, x < 3 * T.length := run_of _ (bef_inj h) (bef_lt h) hs
theorem on_of (h : SurfE m T) {s : Nat} (hs : s < 3 * T.length) : ∃ L, Run (aftF T) s L s ∧ L.Nodup ∧ ∀ x ∈ L, x < 3 * T.length := run_of _ (aft_inj h) (aft_lt h) hs
theorem ce_nxc (T : List Tri) (c : Nat) : ce T (nxc c) = (cv T (pvc c), cv T c) := by unfold ce; rw [nxc_nxc, pvc_nxc]
theorem ce_pvc (T : List Tri) (c : Nat) : ce T (pvc c) = (cv T c, cv T (nxc c)) := by unfold ce; rw [nx_pv, pvc_pvc]
theorem Run.from_mem {f : Nat → Option Nat} {s : Nat} {L : List Nat} (h : Run f s L s) : s ∈ L := by
  obtain ⟨R, rfl⟩ := h.head
  simp
theorem Run.ne {f : Nat → Option Nat} {s c : Nat} {L : List Nat} (h : Run f s L c) : L ≠ [] := by
  obtain ⟨R, rfl⟩ := h.head
  simp
/-- Where one begins around a vertex, and whether that is on the border. -/
structure First (T : List Tri) (s b : Nat) (border : Bool) : Prop where
  lt : b < 3 * T.length
  v : cv T b = cv T s
  bor : border = true → befF T b = none
  inn : border = false → b = s ∧ ∀ L, Run (aftF T) b L b → aftF T (lastN L b) = some b
theorem first_of (h : SurfE m T) {s : Nat} (hs : s < 3 * T.length) : ∃ L, Run (befF T) s L s ∧ L.Nodup ∧ (∀ x ∈ L, x < 3 * T.length) ∧ First T s (if befF T (lastN L s) = none then lastN L s else s) (decide (befF T (lastN L s) = none)) := by
  obtain ⟨L, h1, h2, h3⟩ := back_of h hs
  refine ⟨L, h1, h2, h3, ?_⟩
  have hv := h1.all (P := fun x => cv T x = cv T s) (fun a b ha hb => (bef_vert h hb).trans ha) rfl
  by_cases e : befF T (lastN L s) = none
  · rw [if_pos e]
    exact ⟨h3 _ (lastN_mem h1.ne), hv _ (lastN_mem h1.ne), fun _ => e, fun e' => by simp [e] at e'⟩
  · rw [if_neg e]
    refine ⟨hs, rfl, fun e' => by simp [e] at e', fun _ => ⟨rfl, fun M hM => ?_⟩⟩
    have hl : befF T (lastN L s) = some s := (h1.last).resolve_left e
    -- each of the walk back has one behind it, of the walk back
    have hnext : ∀ x ∈ L, ∃ y ∈ L, aftF T x = some y := fun x hx => by
      by_cases hxs : x = s
      · rw [hxs]; exact ⟨_, lastN_mem h1.ne, (aft_bef h).2 hl⟩
      · obtain ⟨y, hy, e'⟩ := h1.pred x hx hxs
        exact ⟨y, hy, (aft_bef h).2 e'⟩
    have hML := hM.all (P := fun x => x ∈ L) (fun a b ha hb => by
      obtain ⟨y, hy, e'⟩ := hnext a ha
      rw [hb] at e'
      injection e' with e'
      rw [e']; exact hy) h1.from_mem
    obtain ⟨y, _, hy⟩ := hnext _ (hML _ (lastN_mem hM.ne))
    rcases hM.last with h4 | h4
    · rw [h4] at hy; cases hy
    · exact h4
theorem vert_corner {i : Nat} {v : Int} (hi : i < T.length) (hv : v ∈ verts (tri T i)) : ∃ d, d < 3 * T.length ∧ d / 3 = i ∧ cv T d = v := by
  rcases verts_mem.1 hv with h | h | h
  · exact ⟨3 * i, by omega, by omega, by rw [cv_ct, show 3 * i / 3 = i by omega, show 3 * i % 3 = 0 by omega]; exact h.symm⟩
  · exact ⟨3 * i + 1, by omega, by omega, by rw [cv_ct, show (3 * i + 1) / 3 = i by omega, show (3 * i + 1) % 3 = 1 by omega]; exact h.symm⟩
  · exact ⟨3 * i + 2, by omega, by omega, by rw [cv_ct, show (3 * i + 2) / 3 = i by omega, show (3 * i + 2) % 3 = 2 by omega]; exact h.symm⟩
theorem cv_verts {c : Nat} : cv T c ∈ verts (tri T (c / 3)) := by
  rw [cv_ct, verts_mem]
  have := Nat.mod_lt c (by omega : 0 < 3)
  rcases (by omega : c % 3 = 0 ∨ c % 3 = 1 ∨ c % 3 = 2) with h | h | h <;> rw [h] <;> simp [cornerT]
theorem corner_verts {c : Nat} {w : Int} (hw : w ∈ verts (tri T (c / 3))) : w = cv T c ∨ w = cv T (nxc c) ∨ w = cv T (pvc c) := by
  rw [cv_ct, cv_ct, cv_ct, nxc_div, pvc_div, nxc_mod, pvc_mod]
  have := Nat.mod_lt c (by omega : 0 < 3)
  have hm := verts_mem.1 hw
  rcases (by omega : c % 3 = 0 ∨ c % 3 = 1 ∨ c % 3 = 2) with h | h | h
  · rw [h, show (c + 1) % 3 = 1 by omega, show (c + 2) % 3 = 2 by omega]; simp only [cornerT]; rcases hm with hm | hm | hm <;> simp [hm]
  · rw [h, show (c + 1) % 3 = 2 by omega, show (c + 2) % 3 = 0 by omega]; simp only [cornerT]; rcases hm with hm | hm | hm <;> simp [hm]
  · rw [h, show (c + 1) % 3 = 0 by omega, show (c + 2) % 3 = 1 by omega]; simp only [cornerT]; rcases hm with hm | hm | hm <;> simp [hm]
theorem corner_one (h : SurfE m T) {c d : Nat} (hc : c < 3 * T.length) (hd : d < 3 * T.length) (ht : tri T (c / 3) = tri T (d / 3)) (hv : cv T c = cv T d) : c = d := by
  have hok := tri_ok h (show c / 3 < T.length by omega)
  obtain ⟨_, _, _, _, _, _, ab, bc, ca⟩ := hok
  refine ce_inj h hc hd ?_
  rw [ce_ct, ce_ct, ← ht]
  rw [cv_ct, cv_ct, ← ht] at hv
  have r1 := Nat.mod_lt c (by omega : 0 < 3)
  have r2 := Nat.mod_lt d (by omega : 0 < 3)
  have : c % 3 = d % 3 := by
    rcases (by omega : c % 3 = 0 ∨ c % 3 = 1 ∨ c % 3 = 2) with h1 | h1 | h1 <;> rcases (by omega : d % 3 = 0 ∨ d % 3 = 1 ∨ d % 3 = 2) with h2 | h2 | h2 <;> rw [h1, h2] at hv <;> simp [cornerT] at hv <;> first | omega | (rw [h1, h2])
  rw [this]
/-- All corners of a vertex are come by; each has one ahead just if it is not on the border. -/
theorem around_pred (h : SurfE m T) {s b : Nat} {border : Bool} (hb : First T s b border) {L : List Nat} (hL : Run (aftF T) b L b) : ∀ y ∈ L, ∀ x, aftF T x = some y → x ∈ L := fun y hy x hx => by
  by_cases e : y = b
  · subst e
    cases border with
    | true => exact absurd (hb.bor rfl) (by simp [(aft_bef h).1 hx])
    | false =>
      rw [aft_inj h _ _ _ hx ((hb.inn rfl).2 L hL)]
      exact lastN_mem hL.ne
  · obtain ⟨z, hz, e'⟩ := hL.pred y hy e
    rw [aft_inj h _ _ _ hx e']
    exact hz
theorem around_all (h : SurfE m T) {s b : Nat} {border : Bool} (hb : First T s b border) {L : List Nat} (hL : Run (aftF T) b L b) : ∀ c, c < 3 * T.length → cv T c = cv T b → c ∈ L := by
  have hsucc : ∀ x ∈ L, ∀ y, aftF T x = some y → y ∈ L := fun x hx y hy => by
    rcases hL.succ x hx y hy with rfl | h
    · exact hL.from_mem
    · exact h
  have hpred := around_pred h hb hL
  have hb3 := hb.lt
  intro c hc hv
  have hcon : ConnE T (cv T b) := by
    obtain ⟨q1, q2⟩ := ok_verts (tri_ok h (show b / 3 < T.length by omega)) (cv_verts (T := T) (c := b))
    obtain ⟨k, hk⟩ := Int.eq_ofNat_of_zero_le q1
    rw [hk]
    exact h.con k (by omega)
  have hr := hcon (tri T (b / 3)) (tri T (c / 3)) (tri_mem (by omega)) cv_verts (tri_mem (by omega)) (by rw [← hv]; exact cv_verts)
  refine hr (fun t => ∀ c, c < 3 * T.length → tri T (c / 3) = t → cv T c = cv T b → c ∈ L) (fun c hc ht hv => ?_) (fun x y hx hn c hc ht hv => ?_) c hc rfl hv
  · rw [corner_one h hc hb3 ht hv]
    exact hL.from_mem
  · obtain ⟨⟨hxT, hxv⟩, ⟨hyT, hyv⟩, w, hwv, hwx, hwy⟩ := hn
    obtain ⟨i, hi, rfl⟩ := tri_idx hxT
    obtain ⟨d, hd, hdi, hdv⟩ := vert_corner hi hxv
    have hdL := hx d hd (by rw [hdi]) hdv
    rw [← hdi] at hwx
    rw [← ht] at hwy
    rcases (corner_verts hwx).resolve_left (by rw [hdv]; exact hwv) with h1 | h1 <;> rcases (corner_verts hwy).resolve_left (by rw [hv]; exact hwv) with h2 | h2
    · have := ce_inj h (pvc_lt hd) (pvc_lt hc) (by rw [ce_pvc, ce_pvc, hdv, hv, ← h1, ← h2])
      rw [← nx_pv c, ← this, nx_pv]; exact hdL
    · refine hpred d hdL c ?_
      unfold aftF oppF
      rw [if_pos hc, ce_nxc, facing_is h (pvc_lt hd) (by rw [ce_pvc, hdv, hv, ← h1, ← h2]), Option.map_some, nx_pv]
    · refine hsucc d hdL c ?_
      unfold aftF oppF
      rw [if_pos hd, ce_nxc, facing_is h (pvc_lt hc) (by rw [ce_pvc, hdv, hv, ← h1, ← h2]), Option.map_some, nx_pv]
    · have := ce_inj h (nxc_lt hd) (nxc_lt hc) (by rw [ce_nxc, ce_nxc, hdv, hv, ← h1, ← h2])
      rw [← pvc_nxc c, ← this, pvc_nxc]; exact hdL
/-- A border's first corner is where one begins. -/
theorem first_only (h : SurfE m T) {s b : Nat} {border : Bool} (hb : First T s b border) {c : Nat} (hc : c < 3 * T.length) (hv : cv T c = cv T b) (hn : befF T c = none) : c = b ∧ border = true := by
  obtain ⟨L, hL, _, _⟩ := on_of h hb.lt
  have hm := around_all h hb hL c hc hv
  by_cases e : c = b
  · refine ⟨e, ?_⟩
    cases border with
    | true => rfl
    | false =>
      have := (aft_bef h).1 ((hb.inn rfl).2 L hL)
      rw [← e, hn] at this
      cases this
  · obtain ⟨x, _, hx⟩ := hL.pred c hm e
    rw [(aft_bef h).1 hx] at hn
    cases hn
/-- The corners around a vertex, in turn. -/
structure Ring (T : List Tri) (v : Int) (s b : Nat) (border : Bool) (M L : List Nat) : Prop where
  cs : cornerF T v = some s
  back : Run (befF T) s M s
  be : b = if befF T (lastN M s) = none then lastN M s else s
  bo : border = decide (befF T (lastN M s) = none)
  fi : First T s b border
  on : Run (aftF T) b L b
  nd : L.Nodup
  lt : ∀ x ∈ L, x < 3 * T.length
  vv : ∀ x ∈ L, cv T x = v
  ml : M.length ≤ 3 * T.length
theorem cornerF_some {v : Int} {s : Nat} (h : cornerF T v = some s) : s < 3 * T.length ∧ cv T s = v ∧ ∀ i, i < s → cv T i ≠ v := by
  obtain ⟨_, h2, h3, h4⟩ := leastF_some h
  exact ⟨by omega, by simpa using h3, fun i hi => by simpa using h4 i (Nat.zero_le _) hi⟩
theorem cornerF_used (h : SurfE m T) {v : Nat} (hv : v < m) : ∃ s, cornerF T (v : Int) = some s := by
  obtain ⟨t, ht, hvt⟩ := h.used v hv
  obtain ⟨i, hi, rfl⟩ := tri_idx ht
  obtain ⟨d, hd, _, e⟩ := vert_corner hi hvt
  cases hc : cornerF T (v : Int) with
  | some s => exact ⟨s, rfl⟩
  | none =>
    have := leastF_none hc d (Nat.zero_le _) (by omega)
    simp [e] at this
theorem ring_ex (h : SurfE m T) {v : Nat} (hv : v < m) : ∃ s b border M L, Ring T (v : Int) s b border M L := by
  obtain ⟨s, hs⟩ := cornerF_used h hv
  obtain ⟨h1, h2, _⟩ := cornerF_some hs
  obtain ⟨M, m1, m2, m3, m4⟩ := first_of h h1
  obtain ⟨L, l1, l2, l3⟩ := on_of h m4.lt
  exact ⟨s, _, _, M, L, hs, m1, rfl, rfl, m4, l1, l2, l3, l1.all (P := fun x => cv T x = (v : Int)) (fun a b ha hb => (aft_edge h hb).1.trans ha) (m4.v.trans h2), nodup_leN _ m2 m3⟩
theorem cornerF_not (h : SurfE m T) {v : Int} (hv : ¬ (0 ≤ v ∧ v < (m : Int))) : cornerF T v = none :=
  leastF_no fun i _ hi => by
    simp only [decide_eq_false_iff_not]
    intro e
    have := ok_verts (tri_ok h (show i / 3 < T.length by omega)) (cv_verts (T := T) (c := i))
    rw [e] at this
    exact hv this
/-- Values, each once, in the order in which they come. -/
def valsL {α : Type} [DecidableEq α] (l : Nat → α) (L : List Nat) : List α := L.foldl (fun out c => if l c ∈ out then out else out ++ [l c]) []
end
section
variable {α : Type} [DecidableEq α] {l : Nat → α}
theorem valsL_nil : valsL l [] = [] := rfl
theorem valsL_snoc (L : List Nat) (c : Nat) : valsL l (L ++ [c]) = if l c ∈ valsL l L then valsL l L else valsL l L ++ [l c] := by unfold valsL; rw [List.foldl_append]; rfl
theorem snocInd {β : Type} {P : List β → Prop} (h0 : P []) (h1 : ∀ L c, P L → P (L ++ [c])) (L : List β) : P L := by
  have h : ∀ L : List β, P L.reverse := by
    intro L
    induction L with
    | nil => exact h0
    | cons a L ih => simpa using h1 _ a ih
  simpa using h L.reverse
theorem valsL_len (L : List Nat) : (valsL l L).length ≤ L.length := by
  refine snocInd (P := fun L => (valsL l L).length ≤ L.length) (by simp [valsL]) (fun L c ih => ?_) L
  rw [valsL_snoc]
  split <;> simp <;> omega
theorem valsL_mem (L : List Nat) (x : α) : x ∈ valsL l L ↔ ∃ c ∈ L, l c = x := by
  refine snocInd (P := fun L => x ∈ valsL l L ↔ ∃ c ∈ L, l c = x) (by simp [valsL]) (fun L c ih => ?_) L
  rw [valsL_snoc]
  have e : (∃ d ∈ L ++ [c], l d = x) ↔ (∃ d ∈ L, l d = x) ∨ l c = x := by
    constructor
    · rintro ⟨d, hd, e⟩
      rcases List.mem_append.1 hd with hd | hd
      · exact .inl ⟨d, hd, e⟩
      · rw [List.mem_singleton.1 hd] at e; exact .inr e
    · rintro (⟨d, hd, e⟩ | e)
      · exact ⟨d, by simp [hd], e⟩
      · exact ⟨c, by simp, e⟩
  rw [e, ← ih]
  split
  · rename_i hm
    constructor
    · exact .inl
    · rintro (h | h)
      · exact h
      · rw [← h]; exact hm
  · rw [List.mem_append, List.mem_singleton]
    constructor
    · rintro (h | h)
      · exact .inl h
      · exact .inr h.symm
    · rintro (h | h)
      · exact .inl h
      · exact .inr h.symm
theorem valsL_nodup (L : List Nat) : (valsL l L).Nodup := by
  refine snocInd (P := fun L => (valsL l L).Nodup) (by simp [valsL]) (fun L c ih => ?_) L
  rw [valsL_snoc]
  split
  · exact ih
  · rename_i hm
    rw [List.nodup_append]
    exact ⟨ih, by simp, fun a ha b hb e => by rw [List.mem_singleton.1 hb] at e; exact hm (e ▸ ha)⟩
theorem valsL_one {L : List Nat} : (valsL l L).length = 1 ↔ L ≠ [] ∧ ∀ c ∈ L, ∀ d ∈ L, l c = l d := by
  constructor
  · intro h
    obtain ⟨a, ha⟩ := List.length_eq_one_iff.1 h
    have hm := valsL_mem (l := l) L
    rw [ha] at hm
    refine ⟨fun e => by (rw [e] at ha; cases ha), fun c hc d hd => ?_⟩
    have h1 := (hm (l c)).2 ⟨c, hc, rfl⟩
    have h2 := (hm (l d)).2 ⟨d, hd, rfl⟩
    rw [List.mem_singleton.1 h1, List.mem_singleton.1 h2]
  · rintro ⟨hne, he⟩
    have hn := valsL_nodup (l := l) L
    have hm := valsL_mem (l := l) L
    generalize valsL l L = V at hn hm ⊢
    match V, hn, hm with
    | [], _, hm =>
      obtain ⟨c, L', rfl⟩ := List.exists_cons_of_ne_nil hne
      have := (hm (l c)).2 ⟨c, by simp, rfl⟩
      cases this
    | [a], _, _ => rfl
    | a :: b :: V, hn, hm =>
      obtain ⟨c, hc, e1⟩ := (hm a).1 (by simp)
      obtain ⟨d, hd, e2⟩ := (hm b).1 (by simp)
      have := he c hc d hd
      rw [e1, e2] at this
      subst this
      simp at hn
theorem valsL_const {L : List Nat} {a : α} (hne : L ≠ []) (h : ∀ c ∈ L, l c = a) : valsL l L = [a] := by
  obtain ⟨b, hb⟩ := List.length_eq_one_iff.1 ((valsL_one (l := l)).2 ⟨hne, fun c hc d hd => by rw [h c hc, h d hd]⟩)
  rw [hb]
  obtain ⟨c, hc, e⟩ := (valsL_mem (l := l) L b).1 (by rw [hb]; simp)
  rw [← e, h c hc]
theorem valsL_inj {L : List Nat} (hn : L.Nodup) (hi : ∀ c ∈ L, ∀ d ∈ L, l c = l d → c = d) : valsL l L = L.map l := by
  revert hn hi
  refine snocInd (P := fun L => L.Nodup → (∀ c ∈ L, ∀ d ∈ L, l c = l d → c = d) → valsL l L = L.map l) (fun _ _ => rfl) (fun L c ih hn hi => ?_) L
  obtain ⟨h1, h2, h3⟩ := List.nodup_append.1 hn
  rw [valsL_snoc, ih h1 (fun a ha b hb => hi a (by simp [ha]) b (by simp [hb])), if_neg, List.map_append]
  · rfl
  · intro hm
    obtain ⟨d, hd, e⟩ := List.mem_map.1 hm
    have := hi d (by simp [hd]) c (by simp) e
    exact h3 d hd c (by simp) this
theorem valsL_ne {L : List Nat} (hne : L ≠ []) : 1 ≤ (valsL l L).length := by
  cases L with
  | nil => exact absurd rfl hne
  | cons c L =>
    have := (valsL_mem (l := l) (c :: L) (l c)).2 ⟨c, by simp, rfl⟩
    exact List.length_pos_of_mem this
end
end Go.Proofs.Ytdpgbccgngdapaa
