/- symmetry.All and Order told of any soup of at most 14 triangles; chapter 47's great. Conditions: sizes. -/
import Derived.Test.YtiajlmajenabiaaGreatAllX
import Derived.Test.YtiajlmajenabiaaGreatWz47
import Derived.Test.YtiajlmajenabiaaGreatSp47
set_option maxRecDepth 100000
set_option maxHeartbeats 16000000
set_option linter.all false
namespace Go.Proofs.YtiajlmajenabiaaGreat
open Go.RowKit
def big47 (N : Int) (n : Nat) : Prop := 14 < n ∨ 16 < N ∨ N < -9
instance (N : Int) (n : Nat) : Decidable (big47 N n) := inferInstanceAs (Decidable (_ ∨ _ ∨ _))
inductive AllI (N : Int) (T : List Tri) : List (List Int) → Int → Prop
 | no : checkR N T ≠ (0, 0, 0) → AllI N T [] 11
 | full (m : Nat) : N = (m : Int) → SurfE m T → 1000 < (allR m T).length → AllI N T [] 7
 | yes (m : Nat) (ws : List (List Int)) : N = (m : Int) → SurfE m T → (allR m T).length ≤ 1000 → ws.Perm (allR m T) → (ws.Pairwise fun x y => ¬ ltL y x) → AllI N T ws 0
def AllAny (w : World) (N : Int) (T : List Tri) (e : Ending) (w' : World) : Prop :=
 ∃ (A : Option Addr) (c : Nat) (ws : List (List Int)) (er : Int), e = .returned (.tuple #[.slice A ws.length c, .int .i64 er]) ∧ AllI N T ws er ∧ WaysAt w' w.heap.size A c ws ∧ Below w.heap.size w w'
theorem symAll_any (N : Int) (A : Option Addr) (c : Nat) (T : List Tri) (w : World) (hn : T.length ≤ 14) (ht : TrisAt w w.heap.size A T.length T) :
  Calls Tryz.prog 25 #[.agg #[.int .i64 N, .slice A T.length c]] w (AllAny w N T) := by
 by_cases h : checkR N T = (0, 0, 0)
 · obtain ⟨m, rfl, hs⟩ := chk_surf h
   obtain ⟨n, h1, h2, h3⟩ := order_is hs hn
   by_cases hb : n ≤ 1000
   · refine (symAll_yes m A c T w h (by omega) (parts_ok hs) n h1 hb (kinds_ok hs (by omega)) hs.m1 (by omega) (allR_pos hs) ht).mono ?_
     rintro e w' ⟨A', c', ws, rfl, hp, ho, hw, hbl⟩
     exact ⟨A', c', ws, 0, rfl, .yes m ws rfl hs (by omega) hp ho, hw, hbl⟩
   · refine (symAll_full m A c T w h (by omega) (parts_ok hs) (fun k hk => by rw [h1] at hk; injection hk with hk; omega) ht).mono ?_
     rintro e w' ⟨rfl, hbl⟩
     exact ⟨none, 0, [], 7, rfl, .full m rfl hs (by omega), WaysAt.nil _ _, hbl⟩
 · refine (symAll_no N A c T w h (by omega) ht).mono ?_
   rintro e w' ⟨rfl, hbl⟩
   exact ⟨none, 0, [], 11, rfl, .no h, WaysAt.nil _ _, hbl⟩
inductive OrdI (N : Int) (T : List Tri) : Int → Int → Prop
 | no : checkR N T ≠ (0, 0, 0) → OrdI N T 0 11
 | yes (m : Nat) : N = (m : Int) → SurfE m T → (allR m T).length ≤ 4611686018427387904 → OrdI N T ((allR m T).length : Int) 0
def OrdAny (w : World) (N : Int) (T : List Tri) (e : Ending) (w' : World) : Prop :=
 ∃ (n er : Int), e = .returned (.tuple #[.int .i64 n, .int .i64 er]) ∧ OrdI N T n er ∧ Below w.heap.size w w'
theorem symOrder_any (N : Int) (A : Option Addr) (c : Nat) (T : List Tri) (w : World) (hn : T.length ≤ 14) (ht : TrisAt w w.heap.size A T.length T) :
  Calls Tryz.prog 21 #[.agg #[.int .i64 N, .slice A T.length c]] w (OrdAny w N T) := by
 by_cases h : checkR N T = (0, 0, 0)
 · obtain ⟨m, rfl, hs⟩ := chk_surf h
   obtain ⟨n, h1, h2, h3⟩ := order_is hs hn
   refine (symOrder_yes m A c T w h (by omega) (parts_ok hs) ht).mono ?_
   rintro e w' ⟨rfl, hbl⟩
   rw [h1]
   refine ⟨_, _, rfl, ?_, hbl⟩
   subst h2
   exact .yes m rfl hs h3
 · refine (symOrder_no N A c T w h (by omega) ht).mono ?_
   rintro e w' ⟨rfl, hbl⟩
   exact ⟨_, _, rfl, .no h, hbl⟩
theorem ways_in {W : World} {B c : Nat} {A : Option Addr} {ws : List (List Int)} (h : WaysAt W B A c ws) (hm : ∀ a ∈ ws, a.length ≤ 4096) : ∃ L : List Way, L.map Prod.snd = ws ∧ RowsIn W W.heap.size A L.length L := by
 obtain ⟨L, h1, h2, h3⟩ := h.ex
 have hl : L.length = ws.length := by rw [← h1, List.length_map]
 refine ⟨L, h1, ⟨?_, fun x hx => ?_⟩⟩
 · rw [hl]
   exact Reads.of_own h2
 · have ho := h3 x hx
   refine ⟨Reads.of_own ho, ?_, ?_⟩
   · obtain ⟨A', c', e, hc⟩ := own_form ho
     injection e with _ _ e
     rw [e]; exact hc
   · have := hm x.2 (by rw [← h1]; exact List.mem_map_of_mem hx)
     simp only [maxLen]
     omega
theorem great47_any (N : Int) (A : Option Addr) (n c : Nat) (w : World) : Calls Tryz.prog 13 #[.agg #[.int .i64 N, .slice A n c]] w (IntPost w (if big47 N n then 1 else 0)) := by
 by_cases h1 : 14 < n
 · have h1' : (14 : Int) < (n : Int) := by omega
   rw [if_pos (show big47 N n from .inl h1)]
   go_enter Tryz.func13, Tryz.ntmps13
   go_wp2_with fail
   go_ret
   exact ⟨rfl, (Below.refl _ _).alloc (Nat.le_refl _) _⟩
 · have h1' : ¬ (14 : Int) < (n : Int) := by omega
   by_cases h2 : 16 < N
   · rw [if_pos (show big47 N n from .inr (.inl h2))]
     go_enter Tryz.func13, Tryz.ntmps13
     go_wp2_with fail
     go_ret
     exact ⟨rfl, (Below.refl _ _).alloc (Nat.le_refl _) _⟩
   · by_cases h3 : N < -9
     · rw [if_pos (show big47 N n from .inr (.inr h3))]
       go_enter Tryz.func13, Tryz.ntmps13
       go_wp2_with fail
       go_ret
       exact ⟨rfl, (Below.refl _ _).alloc (Nat.le_refl _) _⟩
     · rw [if_neg (show ¬ big47 N n from fun h => by rcases h with h | h | h; exact h1 h; exact h2 h; exact h3 h)]
       go_enter Tryz.func13, Tryz.ntmps13
       go_wp2_with fail
       go_ret
       exact ⟨rfl, (Below.refl _ _).alloc (Nat.le_refl _) _⟩
end Go.Proofs.YtiajlmajenabiaaGreat
