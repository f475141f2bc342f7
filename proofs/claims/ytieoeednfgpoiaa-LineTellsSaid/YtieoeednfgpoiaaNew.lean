/- Contracts of the functions of package line that make a line. No condition. -/
import Derived.Test.YtieoeednfgpoiaaProg
import Derived.Test.YtieoeednfgpoiaaApp
import Derived.WalkSpells
import Derived.WalkLawsBesides
namespace Go.Proofs.Ytieoeednfgpoiaa
open Go.RowKit


theorem u8_info : (Try.prog.info? 5).map (fun i => (i.zero, i.size, i.bytes)) = some (some (.int .u8 0), 1, 1) := by kernel_rfl

set_option maxHeartbeats 400000 in
theorem clone_any (A : Option Addr) (n c : Nat) (xs : List Value) (w : World) (hr : Reads w w.heap.size 1 A n xs) (h1 : ∀ u ∈ xs, u.oneCell' = true) (hn : n ≤ 100000000) :
    Calls Try.prog 25 #[.slice A n c] w fun e w' => ∃ v, e = .returned v ∧ w'.ownsRow w.heap.size 5 1 v n xs ∧ Below w.heap.size w w' ∧ (A = none → v = .slice none 0 0) := by
  obtain ⟨i0, hi0, hz0, hz1, hz2⟩ := info_parts u8_info
  have hq := fun w a l c => Lib.run_eql_slice_nil (P := Try.prog) w 35 5 a l c 0 0 Try.underlying35
  cases A with
  | none =>
    have hn0 : n = 0 := by
      rcases Nat.eq_zero_or_pos n with h | h
      · exact h
      · obtain ⟨_, h', _⟩ := hr.2 h; cases h'
    have hx : xs = [] := List.eq_nil_of_length_eq_zero (by have := hr.1; omega)
    subst hn0 hx
    go_enter Try.func25, Try.ntmps25
    go_wp2
    go_ret
    exact ⟨_, rfl, World.ownsRow_nil _ _ _ _, Below.refl _ _, fun _ => rfl⟩
  | some ad =>
    have own0 : (w.alloc (.cells #[] 5)).ownsRow w.heap.size 5 1 (.slice (some ⟨w.heap.size, 0, none⟩) 0 0) 0 [] := World.ownsRow_made (size := 1) w #[] 0 (Nat.le_refl _) (by simp [maxLen]) rfl
    have hr' := hr.alloc (Nat.le_refl _) (.cells #[] 5)
    have hb0 : w.heap.size ≤ (w.alloc (.cells #[] 5)).heap.size := by simp
    go_enter Try.func25, Try.ntmps25
    go_wp2_with (at_builtin; refine wpList_append_any _ rfl (.tmp 5) (.tmp 6) _ rfl w.heap.size 5 i0 _ 1 1 Try.underlying35 hi0 hz0 hz1 hz2 rfl (by omega) (.slice (some ⟨w.heap.size, 0, none⟩) 0 0) 0 [] rfl own0 w.heap.size (some ad) n c xs rfl hr' h1 (by simp only [maxLen]; omega) (by omega) hb0 ?_; intro v1 w1 hown1 hg1 hat1)
    go_ret
    refine ⟨v1, rfl, by simpa using hown1, ((Below.refl _ _).alloc (Nat.le_refl _) _).grown hg1 hb0 (fun k hk => ?_), fun h => by cases h⟩
    obtain rfl : w.heap.size = k := by simpa [Value.ownBlock] using hk
    exact Nat.le_refl _


theorem zero_bool (w : World) : (zeroValue 4).run Try.prog w = .ok (.bool false) w := by kernel_rfl

/-- The numbers that get lost, as a map. -/
def lostF (l : List Int) : Int → Option Value := fun x => if x ∈ l then some (.bool true) else none

def errNew (rate delay : Int) (lost : List Int) : Int :=
  if ¬ (1 ≤ rate ∧ rate ≤ 65536 ∧ 0 ≤ delay ∧ delay ≤ 1000) then 2
  else if 1000 < lost.length then 7
  else if lost.Nodup ∧ ∀ x ∈ lost, 0 ≤ x then 0 else 1

/-- What New leaves. -/
def NewPost (rate delay : Int) (lost : List Int) (w : World) (e : Ending) (w' : World) : Prop :=
  (errNew rate delay lost ≠ 0 ∧ e = .returned (.tuple #[.pointer none, .int .i64 (errNew rate delay lost)]) ∧ Below w.heap.size w w') ∨
  (errNew rate delay lost = 0 ∧ Below w.heap.size w w' ∧ ∃ g bl bw, e = .returned (.tuple #[.pointer (some ⟨g, 0, none⟩), .int .i64 0]) ∧ w.heap.size ≤ g ∧ w.heap.size ≤ bl ∧ w.heap.size ≤ bw ∧ bl ≠ bw ∧
    Blk w' g 63 #[.int .i64 rate, .int .i64 delay, .int .i64 0, .int .i64 0, .map (some bl), .slice none 0 0, .map (some bw)] ∧
    MapI Try.prog 3 w' bl lost.length (lostF lost) ∧ MapI Try.prog 3 w' bw 0 (fun _ => none))


theorem lostF_snoc (l : List Int) (x : Int) : (fun y => if y = x then some (Value.bool true) else lostF l y) = lostF (l ++ [x]) := by
  funext y
  unfold lostF
  by_cases h : y = x <;> simp [h]

theorem take_snoc_int (l : List Int) (k : Nat) (h : k < l.length) : l.take (k + 1) = l.take k ++ [l[k]] := List.take_succ_eq_append_getElem h

set_option maxHeartbeats 1000000 in
theorem new_ok (rate delay : Int) (A : Option Addr) (n c : Nat) (lost : List Int) (w : World) (h1 : 1 ≤ rate) (h2 : rate ≤ 65536) (h3 : 0 ≤ delay) (h4 : delay ≤ 1000) (hn : n ≤ 1000)
    (hr : Reads w w.heap.size 1 A n (lost.map (.int .i64 ·))) (hwf : ∀ x ∈ lost, (Lit.int .i64 x).wf = true) :
    Calls Try.prog 12 #[.agg #[.int .i64 rate, .int .i64 delay, .slice A n c]] w (NewPost rate delay lost w) := by
  have hmm := @run_makeMap Try.prog
  have HR := Lib.hid hr
  have HW := Lib.hid hwf
  have HL : Hid (lost.length = n) := by have := hr.1; simp at this; exact this
  clear hr hwf
  go_enter Try.func12, Try.ntmps12
  go_wp2
  go_loopw [40] (fun i wr => ∃ k : Nat, k ≤ n ∧ i = .int .i64 k ∧ Hid ((lost.take k).Nodup ∧ ∀ x ∈ lost.take k, 0 ≤ x) ∧
      MapI Try.prog 3 wr (w.heap.size + 1) k (lostF (lost.take k)) ∧ MapI Try.prog 3 wr (w.heap.size + 2) 0 (fun _ => none) ∧
      Blk wr (w.heap.size + 3) 63 #[.int .i64 rate, .int .i64 delay, .int .i64 0, .int .i64 0, .map (some (w.heap.size + 1)), .slice none 0 0, .map (some (w.heap.size + 2))] ∧ Below w.heap.size w wr)
    (fun i _ => n - (intOf i).toNat)
  case atStart =>
    refine ⟨0, by omega, rfl, ⟨by simp, by simp⟩, ?_, ?_, ?_, ?_⟩
    · exact ((MapI.made_ Try.prog 3 (by simp)).alloc _).alloc _
    · exact (MapI.made_ Try.prog 3 (by simp)).alloc _
    · exact Blk.new_ (by simp) _ _
    · exact ((((Below.refl _ _).alloc (Nat.le_refl _) _).alloc (by simp) _).alloc (by simp; omega) _).alloc (by simp; omega) _
  case round =>
    obtain ⟨k, hk, rfl, HS, hm, hm2, hb, hbel⟩ := hrel
    by_cases hlt : k < n
    · obtain ⟨ad, u, rfl, had, hu, hc⟩ := (HR.out.below hbel).at_ hlt
      have hkl : k < lost.length := by rw [HL.out]; exact hlt
      obtain ⟨x, hx⟩ : ∃ x, lost[k]? = some x := ⟨_, List.getElem?_eq_getElem hkl⟩
      have hux : u = .int .i64 x := by simp [List.getElem?_map, hx] at hu; exact hu.symm
      subst hux
      have hxw := HW.out x (List.mem_of_getElem? hx)
      have HX := Lib.hid hx
      clear hx hu
      have hlook0 := hm.look Try.underlying3 Try.underlying54 (zero_bool wr) hxw false
      obtain ⟨es', clock', hst, hm'⟩ := hm.store Try.underlying3 Try.underlying54 (by unfold maxLen; omega) hxw (.bool true)
      have hc4 := hb.cell 4
      simp at hc4
      have hbad : x < 0 ∨ x ∈ lost.take k → errNew rate delay lost = 1 := by
        intro h
        have hxl : x ∈ lost := List.mem_of_getElem? HX.out
        have hn2 : ¬ (lost.Nodup ∧ ∀ x ∈ lost, 0 ≤ x) := by
          rintro ⟨a1, a2⟩
          rcases h with h | h
          · have := a2 x hxl; omega
          · have e := take_snoc_int lost k hkl
            have hlk : lost[k] = x := by have := HX.out; rw [List.getElem?_eq_getElem hkl] at this; exact Option.some.inj this
            have a3 : (lost.take (k + 1)).Nodup := a1.sublist (List.take_sublist _ _)
            rw [e, hlk, List.nodup_append] at a3
            exact a3.2.2 x h x (by simp) rfl
        unfold errNew
        rw [if_neg (by omega), if_neg (by have := HL.out; omega), if_neg hn2]
      have H1 := Lib.hid hm
      have H2 := Lib.hid hm2
      have H3 := Lib.hid hb
      have H4 := Lib.hid hm'
      have H5 := Lib.hid hbad
      have HB := Lib.hid hbel
      clear hm hm2 hb hm' hbad hbel
      by_cases hx0 : x < 0
      · clear hlook0 hst
        go_wp2
        go_ret2
        exact .inl (by rw [H5.out (.inl hx0)]; exact ⟨by omega, rfl, HB.out⟩)
      · by_cases hin : x ∈ lost.take k
        · have hlook : Sem.run Try.prog (Instr.lookup 54 (Value.map (some (w.heap.size + 1))) (Value.int .i64 x) false) wr = .ok (.bool true) wr := by rw [hlook0]; simp [lostF, hin]
          clear hlook0 hst
          have Hin := Lib.hid hin
          clear hin
          go_wp2
          go_ret2
          exact .inl (by rw [H5.out (.inr Hin.out)]; exact ⟨by omega, rfl, HB.out⟩)
        · have hlook : Sem.run Try.prog (Instr.lookup 54 (Value.map (some (w.heap.size + 1))) (Value.int .i64 x) false) wr = .ok (.bool false) wr := by rw [hlook0]; simp [lostF, hin]
          clear hlook0
          have Hin := Lib.hid hin
          clear hin
          go_wp2
          go_roundw
          case rel =>
            have e := take_snoc_int lost k hkl
            have hlk : lost[k] = x := by have := HX.out; rw [List.getElem?_eq_getElem hkl] at this; exact Option.some.inj this
            rw [hlk] at e
            have hnone : lostF (lost.take k) x = none := by unfold lostF; rw [if_neg Hin.out]
            refine ⟨k + 1, by omega, by go_num, ?_, ?_, ?_, ?_, ?_⟩
            · rw [e]
              refine ⟨?_, ?_⟩
              · rw [List.nodup_append]
                exact ⟨HS.1, by simp, fun y hy z hz hyz => by simp at hz; subst hz; subst hyz; exact Hin.out hy⟩
              · intro y hy
                rcases List.mem_append.1 hy with hy | hy
                · exact HS.2 y hy
                · simp at hy; omega
            · rw [e, ← lostF_snoc]
              have := H4.out
              rw [hnone] at this
              exact this
            · exact H2.out.setBlock (by omega) _
            · exact H3.out.setBlock (by omega) _
            · exact ((Only.of_below ((Below.refl _ _)) (fun b => w.heap.size ≤ b)).setBlock (.inl (by omega)) _ |> fun h => HB.out.trans (h.below HB.out.size (fun k hk => by omega)))
          case measure => simp [intOf]; omega
    · have hkn : k = n := by omega
      have HK := Lib.hid hkn
      clear hkn
      have H1 := Lib.hid hm
      have H2 := Lib.hid hm2
      have H3 := Lib.hid hb
      clear hm hm2 hb
      go_wp2
      go_ret2
      have hkl : lost.take k = lost := List.take_of_length_le (by rw [HL.out, HK.out]; exact Nat.le_refl _)
      have h0 : errNew rate delay lost = 0 := by
        unfold errNew
        rw [if_neg (by omega), if_neg (by have := HL.out; omega), if_pos (by have := HS.out; rw [hkl] at this; exact this)]
      refine .inr ⟨h0, hbel, w.heap.size + 3, w.heap.size + 1, w.heap.size + 2, rfl, by omega, by omega, by omega, by omega, H3.out, ?_, H2.out⟩
      have := H1.out
      rw [hkl] at this
      have e : lost.length = k := by rw [HL.out, HK.out]
      rw [e]; exact this

set_option maxHeartbeats 400000 in
theorem new_range (rate delay : Int) (A : Option Addr) (n c : Nat) (w : World) (h : ¬ (1 ≤ rate ∧ rate ≤ 65536 ∧ 0 ≤ delay ∧ delay ≤ 1000)) :
    Calls Try.prog 12 #[.agg #[.int .i64 rate, .int .i64 delay, .slice A n c]] w fun e w' => e = .returned (.tuple #[.pointer none, .int .i64 2]) ∧ Below w.heap.size w w' := by
  go_enter Try.func12, Try.ntmps12
  go_wp2
  all_goals (go_ret2; exact ⟨rfl, (Below.refl _ _).alloc (Nat.le_refl _) _⟩)

set_option maxHeartbeats 400000 in
theorem new_full (rate delay : Int) (A : Option Addr) (n c : Nat) (w : World) (h1 : 1 ≤ rate) (h2 : rate ≤ 65536) (h3 : 0 ≤ delay) (h4 : delay ≤ 1000) (hn : 1000 < n) (hm : n ≤ 9223372036854775807) :
    Calls Try.prog 12 #[.agg #[.int .i64 rate, .int .i64 delay, .slice A n c]] w fun e w' => e = .returned (.tuple #[.pointer none, .int .i64 7]) ∧ Below w.heap.size w w' := by
  go_enter Try.func12, Try.ntmps12
  go_wp2
  all_goals (go_ret2; exact ⟨rfl, (Below.refl _ _).alloc (Nat.le_refl _) _⟩)

theorem new_any (rate delay : Int) (A : Option Addr) (n c : Nat) (lost : List Int) (w : World) (hm : n ≤ 9223372036854775807)
    (hr : Reads w w.heap.size 1 A n (lost.map (.int .i64 ·))) (hwf : ∀ x ∈ lost, (Lit.int .i64 x).wf = true) :
    Calls Try.prog 12 #[.agg #[.int .i64 rate, .int .i64 delay, .slice A n c]] w (NewPost rate delay lost w) := by
  have hl : lost.length = n := by have := hr.1; simpa using this
  by_cases h : 1 ≤ rate ∧ rate ≤ 65536 ∧ 0 ≤ delay ∧ delay ≤ 1000
  · by_cases hn : n ≤ 1000
    · exact new_ok rate delay A n c lost w h.1 h.2.1 h.2.2.1 h.2.2.2 hn hr hwf
    · refine (new_full rate delay A n c w h.1 h.2.1 h.2.2.1 h.2.2.2 (by omega) hm).mono fun e w' ⟨he, hb⟩ => .inl ?_
      have e7 : errNew rate delay lost = 7 := by unfold errNew; rw [if_neg (by omega), if_pos (by omega)]
      rw [e7]; exact ⟨by omega, he, hb⟩
  · refine (new_range rate delay A n c w h).mono fun e w' ⟨he, hb⟩ => .inl ?_
    have e2 : errNew rate delay lost = 2 := by unfold errNew; rw [if_pos h]
    rw [e2]; exact ⟨by omega, he, hb⟩

end Go.Proofs.Ytieoeednfgpoiaa
