/- SoupBack, walked. No condition. -/
import Derived.Test.YtmmjonpkpeanpaaBackP
import Derived.Test.YtmmjonpkpeanpaaFitsW
import Derived.Test.YtmmjonpkpeanpaaPicksW
import Derived.Test.YtmmjonpkpeanpaaHeldL
import Derived.Deep.CutBlock
namespace Go.Proofs.Ytmmjonpkpeanpaa
open Go.RowKit

set_option linter.unusedSimpArgs false
set_option linter.unusedVariables false
/-- As many triangles, that fit, with the same edges. -/
structure Like (N : Int) (m : Nat) (E : List (Int × Int)) (X : List Tri) : Prop where
  l : X.length = m
  f : fitL N X = true
  e : edgesL N X = E
section
variable {N : Int} {m : Nat} {E : List (Int × Int)} {T X : List Tri}
theorem Like.mir (h : Like N m E X) : Like N m E (X.map mirT) := ⟨by simp [h.l], fit_mir h.f, (edges_mir h.f).trans h.e⟩
theorem Like.turn (h : Like N m E X) : Like N m E (X.map (turnT 1)) := ⟨by simp [h.l], fit_turn h.f, (edges_turn h.f).trans h.e⟩
theorem Like.it (h : Like N m E T) : ∀ k, Like N m E (itR k T)
  | 0 => h
  | k + 1 => (h.it k).turn
theorem Like.fits (h : Like N m E X) (hn : m ≤ 40) {W : World} {A : Option Addr} {c : Nat} (hr : LRow W 0 A c X) : Calls Try.prog 24 #[.agg #[.int .i64 N, .slice A X.length c]] W (BoolPost W true) := by
  have h1 := fits_any N A X.length c X W (by have := h.l; omega) hr.tris
  rwa [h.f] at h1
theorem Like.edges (h : Like N m E X) (hn : m ≤ 40) {W : World} {A : Option Addr} {c : Nat} (hr : LRow W 0 A c X) : Calls Try.prog 20 #[.agg #[.int .i64 N, .slice A X.length c]] W (EPost W E) := by
  have h1 := edges_any N A X.length c X W (by have := h.l; omega) hr.tris
  rwa [h.e] at h1
theorem Like.mirror (h : Like N m E X) (hm : X.map mirT = T) (hn : m ≤ 40) {W : World} {A : Option Addr} {c : Nat} (hr : LRow W 0 A c X) : Calls Try.prog 27 #[.agg #[.int .i64 N, .slice A X.length c]] W (SPost W N T) := by
  have h1 := mirror_any N A X.length c X W (by have := h.l; omega) hr.tris
  rwa [hm] at h1
theorem Like.pick (h : Like N m E X) (hn : m ≤ 40) {W : World} {A Al : Option Addr} {c cl : Nat} (hr : TrisAt W W.heap.size A X.length X) (hi : IRow W 0 Al cl (secL m)) : Calls Try.prog 13 #[.agg #[.int .i64 N, .slice A X.length c], .slice Al (secL m).length cl] W (PickPost W (N, X.map (turnT 1), 0)) := by
  obtain ⟨hl, hf, he⟩ := h
  subst hl
  have h1 := pick_any N A X.length c X Al (secL X.length).length cl (secL X.length) W (by omega) (by rw [secL_len]; omega) hr hi.reads
  rw [pick_sec hf] at h1
  exact h1
theorem Like.alike (hE : E.length ≤ 1000000) {W : World} {A1 A2 : Option Addr} {c1 c2 : Nat} (h1 : ERow W 0 A1 c1 E) (h2 : ERow W 0 A2 c2 E) : Calls Try.prog 19 #[.slice A1 E.length c1, .slice A2 E.length c2] W (BoolPost W true) := refAlike_any _ _ _ _ _ _ _ hE h1.reads h2.reads
end
/-- The soup that is turned: at first what came in, then a row of one's own. -/
def XRow (A0 : Option Addr) (c0 : Nat) (T : List Tri) (w : World) (A : Option Addr) (c : Nat) (X : List Tri) : Prop := (A = A0 ∧ c = c0 ∧ X = T) ∨ LRow w 0 A c X
theorem XRow.below {A0 : Option Addr} {c0 : Nat} {T : List Tri} {w w' : World} {A : Option Addr} {c : Nat} {X : List Tri} (h : XRow A0 c0 T w A c X) (hb : Below w.heap.size w w') : XRow A0 c0 T w' A c X := h.imp id fun h => h.below hb
theorem XRow.tris {A0 : Option Addr} {c0 : Nat} {T : List Tri} {w w' : World} {A : Option Addr} {c : Nat} {X : List Tri} (h : XRow A0 c0 T w' A c X) (ht : TrisAt w w.heap.size A0 T.length T) (hb : Below w.heap.size w w') : TrisAt w' w'.heap.size A X.length X := by
  rcases h with ⟨rfl, rfl, rfl⟩ | h
  · exact (ht.below hb).more hb.size
  · exact h.tris
theorem irow_zero {w : World} {B : Nat} {A : Option Addr} {c : Nat} {L : List Int} (h : IRow w B A c L) : IRow w 0 A c L := h.base (Nat.zero_le _)
theorem int_infoB : (Try.prog.info? 3).map (fun i => (i.zero, i.size, i.bytes)) = some (some (.int .i64 0), 1, 8) := by kernel_rfl
/-- Cells of numbers. -/
def ints (L : List Int) : Array Value := (L.map (Value.int .i64)).toArray
theorem ints_at {L : List Int} {k : Nat} {x : Int} (h : L[k]? = some x) : (ints L)[k]? = some (.int .i64 x) := by simp [ints, h]
theorem ints_set (L : List Int) (k : Nat) (x : Int) : (ints L).setIfInBounds k (.int .i64 x) = ints (L.set k x) := by simp [ints, List.map_set]
theorem madeInts (m : Nat) : madeCells (Value.int .i64 0).cells m = ints (List.replicate m 0) := by
  apply Array.ext'
  refine List.ext_getElem? fun i => ?_
  by_cases hi : i < m
  · simp [madeCells, ints, hi, Value.cells, Nat.mod_one]
  · simp [madeCells, ints, hi, Value.cells]
theorem ints_cell {w : World} {g : Nat} {L : List Int} (h : Blk w g 3 (ints L)) {k : Nat} (hk : k < L.length) : w.cell? ⟨g, k, none⟩ = some (.int .i64 (L.getD k 0)) := by
  rw [h.cell]
  exact ints_at (by rw [List.getD_eq_getElem?_getD, List.getElem?_eq_getElem hk]; rfl)
theorem ints_reads {w : World} {g : Nat} {L : List Int} (h : Blk w g 3 (ints L)) : Reads w w.heap.size 1 (some ⟨g, 0, none⟩) L.length (ZL L) :=
  ⟨by simp [ZL], fun _ => ⟨⟨g, 0, none⟩, rfl, h.lt, fun j u hj => by
    obtain ⟨x, hx, rfl⟩ := zl_at hj
    rw [show (⟨g, 0, none⟩ : Addr).add j = ⟨g, j, none⟩ by simp only [Addr.add]; split <;> simp_all, h.cell]
    exact ints_at hx⟩⟩
theorem LRow.setInt {w : World} {B : Nat} {A : Option Addr} {c g i : Nat} {L : List Tri} {cs : Array Value} (h : LRow w B A c L) (hb : Blk w g 3 cs) (u : Value) : LRow (w.setCell ⟨g, i, none⟩ u) B A c L := by
  refine own_same h fun k hk => ?_
  obtain ⟨ds, hd⟩ := own_blk h hk
  exact Below.heap_setCell _ _ _ _ (hd.ne_ hb (by decide))
attribute [local irreducible] Blk LRow IRow ERow World.alloc World.setCell World.cell? World.frozen?
set_option maxRecDepth 100000 in
set_option maxHeartbeats 8000000 in
theorem backLaw_any (N : Int) (A : Option Addr) (n c : Nat) (T : List Tri) (Al : Option Addr) (m cl : Nat) (l : List Int) (w : World) (ht : TrisAt w w.heap.size A n T) (hl : Reads w w.heap.size 1 Al m (ZL l)) (hm : m ≤ 9223372036854775807) :
    Calls Try.prog 9 #[.agg #[.int .i64 N, .slice A n c], .slice Al m cl] w (BoolPost w true) := by
  obtain rfl : n = T.length := ht.len.symm
  obtain rfl : m = l.length := by have := hl.1; simp [ZL] at this; exact this.symm
  have HT := Lib.hid ht
  have HL := Lib.hid hl
  clear ht hl
  obtain ⟨i1, hii, hy0, hy1, hy2⟩ := info_parts int_infoB
  go_enter Try.func9, Try.ntmps9
  go_wp2_with fail
  obtain ⟨V, hV⟩ : ∃ V, V = w.alloc (.cells #[.int .i64 N, .slice A T.length c] 24) := ⟨_, rfl⟩
  have GA0 : Hid (Blk V w.heap.size 24 #[.int .i64 N, .slice A T.length c]) := by subst hV; exact Lib.hid (Blk.new _ _ _)
  have HB : Hid (Below w.heap.size w V) := by subst hV; exact Lib.hid (bw_alloc (Below.refl _ _) _)
  rw [← hV]
  clear hV
  obtain ⟨ga, hga⟩ : ∃ g, g = w.heap.size := ⟨_, rfl⟩
  rw [← hga] at GA0
  simp only [← hga]
  clear hga
  refine (awake_any _).mono ?_
  rintro e w1 ⟨rfl, hb⟩
  have GA1 := Lib.hid (blk_call GA0.out hb)
  have HB1 := Lib.hid (bw_call HB.out hb)
  clear hb GA0 HB
  obtain ⟨s0, s1, _, _, _⟩ := soup_facts GA1.out
  go_wp2_with fail
  refine (great_any _ _ _ _ _).mono ?_
  rintro e w2 ⟨rfl, hb⟩
  have GA2 := Lib.hid (blk_call GA1.out hb)
  have HB2 := Lib.hid (bw_call HB1.out hb)
  clear hb GA1 HB1 s0 s1
  obtain ⟨s0, s1, _, _, _⟩ := soup_facts GA2.out
  by_cases hg : 40 < T.length
  · rw [decide_eq_true hg]
    go_wp2_with fail
    go_ret
    exact ⟨rfl, HB2.out⟩
  rw [decide_eq_false hg]
  by_cases hN : 40 < N
  · go_wp2_with fail
    go_ret
    exact ⟨rfl, HB2.out⟩
  go_wp2_with fail
  refine (fits_any N A T.length c T w2 (by omega) ((HT.out.below HB2.out).more HB2.out.size)).mono ?_
  rintro e w3 ⟨rfl, hb⟩
  have GA3 := Lib.hid (blk_call GA2.out hb)
  have HB3 := Lib.hid (bw_call HB2.out hb)
  clear hb GA2 HB2 s0 s1
  obtain ⟨s0, s1, _, _, _⟩ := soup_facts GA3.out
  cases hf : fitL N T with
  | false =>
    go_wp2_with fail
    go_ret
    exact ⟨rfl, HB3.out⟩
  | true =>
  have hn40 : T.length ≤ 40 := by omega
  have HF := Lib.hid hf
  obtain ⟨E, HLK⟩ : ∃ E, Hid (Like N T.length E T) := ⟨_, Lib.hid ⟨rfl, hf, rfl⟩⟩
  clear hf
  have HCT : Hid (∀ {W : World} (h : Below w.heap.size w W), Calls Try.prog 20 #[.agg #[.int .i64 N, .slice A T.length c]] W (EPost W E)) := Lib.hid fun h => by
    have h1 := edges_any N A T.length c T _ (by omega) ((HT.out.below h).more h.size)
    rwa [HLK.out.e] at h1
  have HCS : Hid (∀ (W : World) (A1 : Option Addr) (c1 : Nat) (hr : LRow W 0 A1 c1 T) (h : Below w.heap.size w W), Calls Try.prog 26 #[.agg #[.int .i64 N, .slice A1 T.length c1], .agg #[.int .i64 N, .slice A T.length c]] W (BoolPost W true)) := Lib.hid fun W A1 c1 hr h => by
    have h1 := soupSame_dec N N T T A1 A T.length T.length c1 c W (by omega) (by omega) hr.tris ((HT.out.below h).more h.size)
    rwa [decide_eq_true ⟨rfl, rfl⟩] at h1
  have HEL : Hid (E.length ≤ 1000000) := Lib.hid (by
    have h1 := edgesL_len N T
    rw [HLK.out.e] at h1
    omega)
  have HCA : Hid (∀ {W : World} {A1 A2 : Option Addr} {c1 c2 : Nat} (h1 : ERow W 0 A1 c1 E) (h2 : ERow W 0 A2 c2 E), Calls Try.prog 19 #[.slice A1 E.length c1, .slice A2 E.length c2] W (BoolPost W true)) := Lib.hid fun h1 h2 => Like.alike HEL.out h1 h2
  go_wp2_with fail
  refine (mirror_any N A T.length c T w3 (by omega) ((HT.out.below HB3.out).more HB3.out.size)).mono ?_
  rintro e w5 ⟨A1, c1, rfl, hr, hb⟩
  have GA5 := Lib.hid (blk_call GA3.out hb)
  have HB5 := Lib.hid (bw_call HB3.out hb)
  obtain ⟨X, hX⟩ : ∃ X, X = T.map mirT := ⟨_, rfl⟩
  have HXL : Hid (Like N T.length E X) := Lib.hid (hX ▸ HLK.out.mir)
  have HXM : Hid (X.map mirT = T) := Lib.hid (by rw [hX]; exact mir_mir T)
  rw [← hX] at hr ⊢
  have RM5 : Hid (LRow w5 0 A1 c1 X) := Lib.hid (LRow.base hr (Nat.zero_le _))
  clear hr hb GA3 HB3 s0 s1 hX
  obtain ⟨w4, hw4⟩ : ∃ w4, w4 = w5.alloc (.cells #[.int .i64 N, .slice A1 X.length c1] 24) := ⟨_, rfl⟩
  have GMw4 : Hid (Blk w4 w5.heap.size 24 #[.int .i64 N, .slice A1 X.length c1]) := by subst hw4; exact Lib.hid (Blk.new _ _ _)
  have RMw4 : Hid (LRow w4 0 A1 c1 X) := by subst hw4; exact Lib.hid (RM5.out.alloc _)
  have GAw4 : Hid (Blk w4 ga 24 #[.int .i64 N, .slice A T.length c]) := by subst hw4; exact Lib.hid (GA5.out.alloc _)
  have HBw4 : Hid (Below w.heap.size w w4) := by subst hw4; exact Lib.hid (bw_alloc HB5.out _)
  go_upto_region 6 with (fail)
  rw [← hw4]
  generalize w5.heap.size = gm at *
  clear hw4 RM5 GA5 HB5
  have HCF : Hid (∀ {W : World} {A1 : Option Addr} {c1 : Nat} (hr : LRow W 0 A1 c1 X), Calls Try.prog 24 #[.agg #[.int .i64 N, .slice A1 X.length c1]] W (BoolPost W true)) := Lib.hid fun hr => HXL.out.fits hn40 hr
  have HCM : Hid (∀ {W : World} {A1 : Option Addr} {c1 : Nat} (hr : LRow W 0 A1 c1 X), Calls Try.prog 27 #[.agg #[.int .i64 N, .slice A1 X.length c1]] W (SPost W N T)) := Lib.hid fun hr => HXL.out.mirror HXM.out hn40 hr
  have HCE : Hid (∀ {W : World} {A1 : Option Addr} {c1 : Nat} (hr : LRow W 0 A1 c1 X), Calls Try.prog 20 #[.agg #[.int .i64 N, .slice A1 X.length c1]] W (EPost W E)) := Lib.hid fun hr => HXL.out.edges hn40 hr
  go_cut [51] (fun bv wx => bv = .bool false ∧ Hid (Blk wx ga 24 #[.int .i64 N, .slice A T.length c]) ∧ Hid (Below w.heap.size w wx))
  case first =>
    refine wp_region_held_drew (S := fun w' => w'.cell? ⟨ga, 0, none⟩ = some (.int .i64 N) ∧ w'.cell? ⟨ga, 1, none⟩ = some (.slice A T.length c) ∧ w'.cell? ⟨gm, 0, none⟩ = some (.int .i64 N) ∧ w'.cell? ⟨gm, 1, none⟩ = some (.slice A1 X.length c1)) (by kernel_rfl) ⟨(soup_facts GAw4.out.drew).1, (soup_facts GAw4.out.drew).2.1, (soup_facts GMw4.out.drew).1, (soup_facts GMw4.out.drew).2.1⟩ (fun hHeld => ?_)
    refine held_take (i := 0) (v := ?v1) rfl (by kernel_rfl) (by kernel_rfl) (by kernel_rfl) (fun _ _ _ h => h) (Or.inl ⟨by rfl, ?hy1⟩) (by assumption) ?rest1
    case hy1 => (intro w hSw; (try dsimp only at hSw); go_simp; try with_reducible rfl)
    (try simp only [Act.put, List.setIfInBounds_toArray, List.set_cons_zero, List.set_cons_succ])
    refine wpAnyH_ready (rs := [1]) (by kernel_rfl) (by simp) ?_
    refine held_cons rfl (fun K hK => ?_) ?_
    · go_simp
      go_wp2_with (go_at_call 24; refine (HCF.out (RMw4.out.drew)).mono ?_; rintro e v3 ⟨rfl, hb⟩)
      have GAv3 := Lib.hid (blk_call GAw4.out.drew hb)
      have GMv3 := Lib.hid (blk_call GMw4.out.drew hb)
      have RMv3 := Lib.hid (RMw4.out.drew.below hb)
      have HBv3 := Lib.hid (bw_call (bw_drew HBw4.out) hb)
      clear hb
      refine hK.out _ _ ?_ (fun hHeld => ?_)
      · exact ⟨(soup_facts GAv3.out).1, (soup_facts GAv3.out).2.1, (soup_facts GMv3.out).1, (soup_facts GMv3.out).2.1⟩
      clear hK K
      (try simp only [Act.put, List.setIfInBounds_toArray, List.set_cons_zero, List.set_cons_succ])
      refine held_take (i := 2) (v := ?v2) rfl (by kernel_rfl) (by kernel_rfl) (by kernel_rfl) (fun _ _ _ h => h) (Or.inl ⟨by rfl, ?hy2⟩) (by assumption) ?rest2
      case hy2 => (intro w hSw; (try dsimp only at hSw); go_simp; try with_reducible rfl)
      (try simp only [Act.put, List.setIfInBounds_toArray, List.set_cons_zero, List.set_cons_succ])
      refine held_take (i := 3) (v := ?v3) rfl (by kernel_rfl) (by kernel_rfl) (by kernel_rfl) (fun _ _ _ h => h) (Or.inl ⟨by rfl, ?hy3⟩) (by assumption) ?rest3
      case hy3 => (intro w hSw; (try dsimp only at hSw); go_simp; try with_reducible rfl)
      (try simp only [Act.put, List.setIfInBounds_toArray, List.set_cons_zero, List.set_cons_succ])
      refine held_take (i := 4) (v := ?v4) rfl (by kernel_rfl) (by kernel_rfl) (by kernel_rfl) (fun _ _ _ h => h) (Or.inl ⟨by rfl, ?hy4⟩) (by assumption) ?rest4
      case hy4 => (intro w hSw; (try dsimp only at hSw); go_simp; try with_reducible rfl)
      (try simp only [Act.put, List.setIfInBounds_toArray, List.set_cons_zero, List.set_cons_succ])
      refine held_take (i := 6) (v := ?v5) rfl (by kernel_rfl) (by kernel_rfl) (by kernel_rfl) (fun _ _ _ h => h) (Or.inl ⟨by rfl, ?hy5⟩) (by assumption) ?rest5
      case hy5 => (intro w hSw; (try dsimp only at hSw); go_simp; try with_reducible rfl)
      (try simp only [Act.put, List.setIfInBounds_toArray, List.set_cons_zero, List.set_cons_succ])
      refine wpAnyH_ready (rs := [5]) (by kernel_rfl) (by simp) ?_
      refine held_cons rfl (fun K hK => ?_) ?_
      · go_simp
        go_wp2_with (go_at_call 27; refine (HCM.out (RMv3.out)).mono ?_; rintro e v4 ⟨A2, c2, rfl, hr, hb⟩)
        have GAv4 := Lib.hid (blk_call GAv3.out hb)
        have GMv4 := Lib.hid (blk_call GMv3.out hb)
        have RMv4 := Lib.hid (RMv3.out.below hb)
        have RNv4 : Hid (LRow v4 0 A2 c2 T) := Lib.hid (LRow.base hr (Nat.zero_le _))
        have HBv4 := Lib.hid (bw_call HBv3.out hb)
        clear hb
        refine hK.out _ _ ?_ (fun hHeld => ?_)
        · exact ⟨(soup_facts GAv4.out).1, (soup_facts GAv4.out).2.1, (soup_facts GMv4.out).1, (soup_facts GMv4.out).2.1⟩
        clear hK K
        (try simp only [Act.put, List.setIfInBounds_toArray, List.set_cons_zero, List.set_cons_succ])
        refine wpAnyH_ready (rs := [7]) (by kernel_rfl) (by simp) ?_
        refine held_cons rfl (fun K hK => ?_) ?_
        · go_simp
          go_wp2_with (go_at_call 26; refine (HCS.out _ _ _ RNv4.out HBv4.out).mono ?_; rintro e v5 ⟨rfl, hb⟩)
          have GAv5 := Lib.hid (blk_call GAv4.out hb)
          have GMv5 := Lib.hid (blk_call GMv4.out hb)
          have RMv5 := Lib.hid (RMv4.out.below hb)
          have RNv5 := Lib.hid (RNv4.out.below hb)
          have HBv5 := Lib.hid (bw_call HBv4.out hb)
          clear hb
          refine hK.out _ _ ?_ (fun hHeld => ?_)
          · exact ⟨(soup_facts GAv5.out).1, (soup_facts GAv5.out).2.1, (soup_facts GMv5.out).1, (soup_facts GMv5.out).2.1⟩
          clear hK K
          (try simp only [Act.put, List.setIfInBounds_toArray, List.set_cons_zero, List.set_cons_succ])
          refine held_take (i := 8) (v := ?v6) rfl (by kernel_rfl) (by kernel_rfl) (by kernel_rfl) (fun _ _ _ h => h) (Or.inl ⟨by rfl, ?hy6⟩) (by assumption) ?rest6
          case hy6 => (intro w hSw; (try dsimp only at hSw); go_simp; try with_reducible rfl)
          (try simp only [Act.put, List.setIfInBounds_toArray, List.set_cons_zero, List.set_cons_succ])
          refine held_take (i := 9) (v := ?v7) rfl (by kernel_rfl) (by kernel_rfl) (by kernel_rfl) (fun _ _ _ h => h) (Or.inl ⟨by rfl, ?hy7⟩) (by assumption) ?rest7
          case hy7 => (intro w hSw; (try dsimp only at hSw); go_simp; try with_reducible rfl)
          (try simp only [Act.put, List.setIfInBounds_toArray, List.set_cons_zero, List.set_cons_succ])
          refine held_take (i := 10) (v := ?v8) rfl (by kernel_rfl) (by kernel_rfl) (by kernel_rfl) (fun _ _ _ h => h) (Or.inl ⟨by rfl, ?hy8⟩) (by assumption) ?rest8
          case hy8 => (intro w hSw; (try dsimp only at hSw); go_simp; try with_reducible rfl)
          (try simp only [Act.put, List.setIfInBounds_toArray, List.set_cons_zero, List.set_cons_succ])
          refine held_take (i := 11) (v := ?v9) rfl (by kernel_rfl) (by kernel_rfl) (by kernel_rfl) (fun _ _ _ h => h) (Or.inl ⟨by rfl, ?hy9⟩) (by assumption) ?rest9
          case hy9 => (intro w hSw; (try dsimp only at hSw); go_simp; try with_reducible rfl)
          (try simp only [Act.put, List.setIfInBounds_toArray, List.set_cons_zero, List.set_cons_succ])
          refine held_take (i := 13) (v := ?v10) rfl (by kernel_rfl) (by kernel_rfl) (by kernel_rfl) (fun _ _ _ h => h) (Or.inl ⟨by rfl, ?hy10⟩) (by assumption) ?rest10
          case hy10 => (intro w hSw; (try dsimp only at hSw); go_simp; try with_reducible rfl)
          (try simp only [Act.put, List.setIfInBounds_toArray, List.set_cons_zero, List.set_cons_succ])
          refine wpAnyH_ready (rs := [12]) (by kernel_rfl) (by simp) ?_
          refine held_cons rfl (fun K hK => ?_) ?_
          · go_simp
            go_wp2_with (go_at_call 20; refine (HCE.out RMv5.out).mono ?_; rintro e v6 ⟨A3, c3, rfl, hr, hb⟩)
            have GAv6 := Lib.hid (blk_call GAv5.out hb)
            have GMv6 := Lib.hid (blk_call GMv5.out hb)
            have RMv6 := Lib.hid (RMv5.out.below hb)
            have RNv6 := Lib.hid (RNv5.out.below hb)
            have E1v6 : Hid (ERow v6 0 A3 c3 E) := Lib.hid (ERow.base hr (Nat.zero_le _))
            have HBv6 := Lib.hid (bw_call HBv5.out hb)
            clear hb
            refine hK.out _ _ ?_ (fun hHeld => ?_)
            · exact ⟨(soup_facts GAv6.out).1, (soup_facts GAv6.out).2.1, (soup_facts GMv6.out).1, (soup_facts GMv6.out).2.1⟩
            clear hK K
            (try simp only [Act.put, List.setIfInBounds_toArray, List.set_cons_zero, List.set_cons_succ])
            refine wpAnyH_ready (rs := [14]) (by kernel_rfl) (by simp) ?_
            refine held_cons rfl (fun K hK => ?_) ?_
            · go_simp
              go_wp2_with (go_at_call 20; refine (HCT.out HBv6.out).mono ?_; rintro e v7 ⟨A4, c4, rfl, hr, hb⟩)
              have GAv7 := Lib.hid (blk_call GAv6.out hb)
              have GMv7 := Lib.hid (blk_call GMv6.out hb)
              have RMv7 := Lib.hid (RMv6.out.below hb)
              have RNv7 := Lib.hid (RNv6.out.below hb)
              have E1v7 := Lib.hid (E1v6.out.below hb)
              have E2v7 : Hid (ERow v7 0 A4 c4 E) := Lib.hid (ERow.base hr (Nat.zero_le _))
              have HBv7 := Lib.hid (bw_call HBv6.out hb)
              clear hb
              refine hK.out _ _ ?_ (fun hHeld => ?_)
              · exact ⟨(soup_facts GAv7.out).1, (soup_facts GAv7.out).2.1, (soup_facts GMv7.out).1, (soup_facts GMv7.out).2.1⟩
              clear hK K
              (try simp only [Act.put, List.setIfInBounds_toArray, List.set_cons_zero, List.set_cons_succ])
              refine wpAnyH_ready (rs := [15]) (by kernel_rfl) (by simp) ?_
              refine held_cons rfl (fun K hK => ?_) ?_
              · go_simp
                go_wp2_with (go_at_call 19; refine (HCA.out E1v7.out E2v7.out).mono ?_; rintro e v8 ⟨rfl, hb⟩)
                have GAv8 := Lib.hid (blk_call GAv7.out hb)
                have GMv8 := Lib.hid (blk_call GMv7.out hb)
                have RMv8 := Lib.hid (RMv7.out.below hb)
                have RNv8 := Lib.hid (RNv7.out.below hb)
                have E1v8 := Lib.hid (E1v7.out.below hb)
                have E2v8 := Lib.hid (E2v7.out.below hb)
                have HBv8 := Lib.hid (bw_call HBv7.out hb)
                clear hb
                refine hK.out _ _ ?_ (fun hHeld => ?_)
                · exact ⟨(soup_facts GAv8.out).1, (soup_facts GAv8.out).2.1, (soup_facts GMv8.out).1, (soup_facts GMv8.out).2.1⟩
                clear hK K
                (try simp only [Act.put, List.setIfInBounds_toArray, List.set_cons_zero, List.set_cons_succ])
                refine held_take (i := 16) (v := ?v11) rfl (by kernel_rfl) (by kernel_rfl) (by kernel_rfl) (fun _ _ _ h => h) (Or.inl ⟨by rfl, ?hy11⟩) (by assumption) ?rest11
                case hy11 => (intro w hSw; (try dsimp only at hSw); go_simp; try with_reducible rfl)
                (try simp only [Act.put, List.setIfInBounds_toArray, List.set_cons_zero, List.set_cons_succ])
                refine held_take (i := 17) (v := ?v12) rfl (by kernel_rfl) (by kernel_rfl) (by kernel_rfl) (fun _ _ _ h => h) (Or.inl ⟨by rfl, ?hy12⟩) (by assumption) ?rest12
                case hy12 => (intro w hSw; (try dsimp only at hSw); go_simp; try with_reducible rfl)
                (try simp only [Act.put, List.setIfInBounds_toArray, List.set_cons_zero, List.set_cons_succ])
                refine wpAnyH_done (by kernel_rfl) ?_ _
                go_wp2_with fail
                go_meet
                exact ⟨rfl, GAv8, HBv8⟩
              exact AllReadyH.nil
            exact AllReadyH.nil
          exact AllReadyH.nil
        exact AllReadyH.nil
      exact AllReadyH.nil
    exact AllReadyH.nil
  case rest =>
    obtain ⟨rfl, GA5, HB5⟩ := hcut
    obtain ⟨w5, hw5⟩ : ∃ w5 : World, w5 = wc := ⟨_, rfl⟩
    rw [← hw5] at GA5 HB5 ⊢
    clear hw5 HCF HCM HCE HXL HXM RMw4 GMw4 GAw4 HBw4
    obtain ⟨s0, s1, _, _, _⟩ := soup_facts GA5.out
    obtain ⟨w6, hw6⟩ : ∃ w6, w6 = w5.alloc (.cells #[.int .i64 N, .slice A T.length c] 24) := ⟨_, rfl⟩
    have GX6 : Hid (Blk w6 w5.heap.size 24 #[.int .i64 N, .slice A T.length c]) := by subst hw6; exact Lib.hid (Blk.new _ _ _)
    have GA6 : Hid (Blk w6 ga 24 #[.int .i64 N, .slice A T.length c]) := by subst hw6; exact Lib.hid (GA5.out.alloc _)
    have HB6 : Hid (Below w.heap.size w w6) := by subst hw6; exact Lib.hid (bw_alloc HB5.out _)
    have HNE : Hid (ga ≠ w5.heap.size ∧ w.heap.size ≤ w5.heap.size) := Lib.hid ⟨Nat.ne_of_lt GA5.out.lt, HB5.out.size⟩
    go_wp2_with fail
    rw [← hw6]
    generalize w5.heap.size = gx at *
    clear hw6 GA5 HB5 s0 s1
    go_loopw [7] (fun kv wr => ∃ (k : Nat) (Ax : Option Addr) (cx : Nat), k ≤ 3 ∧ kv = .int .i64 k ∧ Hid (Blk wr ga 24 #[.int .i64 N, .slice A T.length c]) ∧ Hid (Blk wr gx 24 #[.int .i64 N, .slice Ax (itR k T).length cx]) ∧ Hid (XRow A c T wr Ax cx (itR k T)) ∧ Hid (Below w.heap.size w wr)) (fun kv _ => 3 - (intOf kv).toNat)
    case atStart => exact ⟨0, A, c, by omega, rfl, GA6, GX6, Lib.hid (.inl ⟨rfl, rfl, rfl⟩), HB6⟩
    case round =>
      obtain ⟨k, Ax, cx, hk, rfl, GAk, GXk, HXk, HBk⟩ := hrel
      obtain ⟨wB, hwB⟩ : ∃ wB : World, wB = wr := ⟨_, rfl⟩
      rw [← hwB] at GAk GXk HXk HBk ⊢
      clear hwB GA6 GX6 HB6
      obtain ⟨s0, s1, _, _, _⟩ := soup_facts GAk.out
      by_cases hk3 : k < 3
      · obtain ⟨Y, hY⟩ : ∃ Y, Y = itR (k + 1) T := ⟨_, rfl⟩
        have HIT : Hid (itR (k + 1) T = Y) := Lib.hid hY.symm
        have HYX : Hid ((itR k T).map (turnT 1) = Y) := Lib.hid hY.symm
        clear hY
        have HXL := Lib.hid (HLK.out.it k)
        generalize itR k T = X at *
        have hk3' : (k : Int) < 3 := by omega
        go_wp2_with fail
        go_loopw [8, 9] (fun lv tv wr => ∃ (t : Nat) (A' : Option Addr) (c' : Nat), t ≤ T.length ∧ tv = .int .i64 t ∧ lv = .slice A' (secL t).length c' ∧ Hid (IRow wr wB.heap.size A' c' (secL t)) ∧ Hid (Below wB.heap.size wB wr)) (fun _ tv _ => T.length - (intOf tv).toNat)
        case atStart => exact ⟨0, none, 0, by omega, rfl, rfl, Lib.hid (IRow.nil _ _), Lib.hid (Below.refl _ _)⟩
        case round =>
          obtain ⟨t, A', c', ht, rfl, rfl, HIt, HBt⟩ := hrel
          obtain ⟨wT, hwT⟩ : ∃ wT : World, wT = wr := ⟨_, rfl⟩
          rw [← hwT] at HIt HBt ⊢
          clear hwT s0 s1
          have GAt := Lib.hid (blk_call GAk.out HBt.out)
          obtain ⟨s0, s1, _, _, _⟩ := soup_facts GAt.out
          by_cases hlt : t < T.length
          · have hti : (t : Int) < (T.length : Int) := by omega
            have HSU := Lib.hid (secL_succ t)
            have hLl := secL_len t
            generalize secL t = L at *
            go_wp2_with (at_builtin; go_must (refine wpList_append_sl _ rfl (.tmp 64) (.tmp 68) _ rfl wB.heap.size 3 i1 _ 1 8 Try.underlying25 hii hy0 hy1 hy2 rfl (by omega) (.slice A' L.length c') L.length (ZL L) rfl (HIt.out.alloc _).owns_ (wT.heap.size + 1) (some ⟨wT.heap.size, 0, none⟩) 1 1 [.int .i64 (3 * (t : Int) + 1)] rfl (reads_newN _ _ _ 1 1 rfl rfl) (by simp [Value.oneCell']) (by simp only [maxLen]; omega) (by omega) (bw_size (bw_alloc HBt.out (.cells #[.int .i64 (3 * (t : Int) + 1)] 3))) ?_); intro A5 c5 w9 hown5 hg5 hat5)
            have hB9 : Below wB.heap.size wB w9 := bw_grow (bw_alloc HBt.out _) hg5 (fun x hx => (HIt.out.lt_ x hx).1)
            exact ⟨⟨t + 1, A5, c5, by omega, by go_num, by rw [HSU.out]; simp [hLl], by rw [HSU.out]; exact Lib.hid (irow_snoc hown5), Lib.hid hB9⟩, by simp [intOf]; omega⟩
          · obtain rfl : t = T.length := by omega
            have GXt := Lib.hid (blk_call GXk.out HBt.out)
            have HXt := Lib.hid (HXk.out.below HBt.out)
            have HBT := Lib.hid (bw_call HBk.out HBt.out)
            have HIT0 := Lib.hid (irow_zero HIt.out)
            clear GAk GXk HXk HBk HIt HBt
            obtain ⟨x0, x1, _, _, _⟩ := soup_facts GXt.out
            go_wp2_with fail
            refine (HXL.out.pick hn40 (HXt.out.tris HT.out HBT.out) HIT0.out).mono ?_
            rw [HYX.out]
            rintro e w6 ⟨Ay, cy, rfl, hr, hb⟩
            have GA6 := Lib.hid (blk_call GAt.out hb)
            have GX6 := Lib.hid (blk_call GXt.out hb)
            have HB6 := Lib.hid (bw_call HBT.out hb)
            have HYL : Hid (Like N T.length E Y) := Lib.hid (HYX.out ▸ HXL.out.turn)
            have RY6 : Hid (LRow w6 0 Ay cy Y) := Lib.hid (LRow.base hr (Nat.zero_le _))
            clear hr hb GAt GXt HXt HBT HIT0 HXL HYX s0 s1 x0 x1
            obtain ⟨w7, hw7⟩ : ∃ w7, w7 = w6.alloc (.cells #[.int .i64 N, .slice Ay Y.length cy] 24) := ⟨_, rfl⟩
            have GYw7 : Hid (Blk w7 w6.heap.size 24 #[.int .i64 N, .slice Ay Y.length cy]) := by subst hw7; exact Lib.hid (Blk.new _ _ _)
            have RYw7 : Hid (LRow w7 0 Ay cy Y) := by subst hw7; exact Lib.hid (RY6.out.alloc _)
            have GAw7 : Hid (Blk w7 ga 24 #[.int .i64 N, .slice A T.length c]) := by subst hw7; exact Lib.hid (GA6.out.alloc _)
            have GXw7 : Hid (Blk w7 gx 24 #[.int .i64 N, .slice Ax X.length cx]) := by subst hw7; exact Lib.hid (GX6.out.alloc _)
            have HBw7 : Hid (Below w.heap.size w w7) := by subst hw7; exact Lib.hid (bw_alloc HB6.out _)
            go_upto_region 18 with (fail)
            rw [← hw7]
            generalize w6.heap.size = gy at *
            clear hw7 RY6 GA6 GX6 HB6
            have HCF : Hid (∀ {W : World} {A1 : Option Addr} {c1 : Nat} (hr : LRow W 0 A1 c1 Y), Calls Try.prog 24 #[.agg #[.int .i64 N, .slice A1 Y.length c1]] W (BoolPost W true)) := Lib.hid fun hr => HYL.out.fits hn40 hr
            have HCE : Hid (∀ {W : World} {A1 : Option Addr} {c1 : Nat} (hr : LRow W 0 A1 c1 Y), Calls Try.prog 20 #[.agg #[.int .i64 N, .slice A1 Y.length c1]] W (EPost W E)) := Lib.hid fun hr => HYL.out.edges hn40 hr
            go_cut [90] (fun bv wx => bv = .bool false ∧ Hid (Blk wx ga 24 #[.int .i64 N, .slice A T.length c]) ∧ Hid (Blk wx gx 24 #[.int .i64 N, .slice Ax X.length cx]) ∧ Hid (Blk wx gy 24 #[.int .i64 N, .slice Ay Y.length cy]) ∧ Hid (LRow wx 0 Ay cy Y) ∧ Hid (Below w.heap.size w wx))
            case first =>
              refine wp_region_held_drew (S := fun w' => w'.cell? ⟨ga, 0, none⟩ = some (.int .i64 N) ∧ w'.cell? ⟨ga, 1, none⟩ = some (.slice A T.length c) ∧ w'.cell? ⟨gx, 0, none⟩ = some (.int .i64 N) ∧ w'.cell? ⟨gx, 1, none⟩ = some (.slice Ax X.length cx) ∧ w'.cell? ⟨gy, 0, none⟩ = some (.int .i64 N) ∧ w'.cell? ⟨gy, 1, none⟩ = some (.slice Ay Y.length cy)) (by kernel_rfl) ⟨(soup_facts GAw7.out.drew).1, (soup_facts GAw7.out.drew).2.1, (soup_facts GXw7.out.drew).1, (soup_facts GXw7.out.drew).2.1, (soup_facts GYw7.out.drew).1, (soup_facts GYw7.out.drew).2.1⟩ (fun hHeld => ?_)
              refine held_take (i := 0) (v := ?v13) rfl (by kernel_rfl) (by kernel_rfl) (by kernel_rfl) (fun _ _ _ h => h) (Or.inl ⟨by rfl, ?hy13⟩) (by assumption) ?rest13
              case hy13 => (intro w hSw; (try dsimp only at hSw); go_simp; try with_reducible rfl)
              (try simp only [Act.put, List.setIfInBounds_toArray, List.set_cons_zero, List.set_cons_succ])
              refine held_take (i := 1) (v := ?v14) rfl (by kernel_rfl) (by kernel_rfl) (by kernel_rfl) (fun _ _ _ h => h) (Or.inl ⟨by rfl, ?hy14⟩) (by assumption) ?rest14
              case hy14 => (intro w hSw; (try dsimp only at hSw); go_simp; try with_reducible rfl)
              (try simp only [Act.put, List.setIfInBounds_toArray, List.set_cons_zero, List.set_cons_succ])
              refine held_take (i := 2) (v := ?v15) rfl (by kernel_rfl) (by kernel_rfl) (by kernel_rfl) (fun _ _ _ h => h) (Or.inl ⟨by rfl, ?hy15⟩) (by assumption) ?rest15
              case hy15 => (intro w hSw; (try dsimp only at hSw); go_simp; try with_reducible rfl)
              (try simp only [Act.put, List.setIfInBounds_toArray, List.set_cons_zero, List.set_cons_succ])
              refine held_take (i := 3) (v := ?v16) rfl (by kernel_rfl) (by kernel_rfl) (by kernel_rfl) (fun _ _ _ h => h) (Or.inl ⟨by rfl, ?hy16⟩) (by assumption) ?rest16
              case hy16 => (intro w hSw; (try dsimp only at hSw); go_simp; try with_reducible rfl)
              (try simp only [Act.put, List.setIfInBounds_toArray, List.set_cons_zero, List.set_cons_succ])
              refine wpAnyH_ready (rs := [4]) (by kernel_rfl) (by simp) ?_
              refine held_cons rfl (fun K hK => ?_) ?_
              · go_simp
                go_wp2_with (go_at_call 24; refine (HCF.out (RYw7.out.drew)).mono ?_; rintro e v8 ⟨rfl, hb⟩)
                have GAv8 := Lib.hid (blk_call GAw7.out.drew hb)
                have GXv8 := Lib.hid (blk_call GXw7.out.drew hb)
                have GYv8 := Lib.hid (blk_call GYw7.out.drew hb)
                have RYv8 := Lib.hid (RYw7.out.drew.below hb)
                have HBv8 := Lib.hid (bw_call (bw_drew HBw7.out) hb)
                clear hb
                refine hK.out _ _ ?_ (fun hHeld => ?_)
                · exact ⟨(soup_facts GAv8.out).1, (soup_facts GAv8.out).2.1, (soup_facts GXv8.out).1, (soup_facts GXv8.out).2.1, (soup_facts GYv8.out).1, (soup_facts GYv8.out).2.1⟩
                clear hK K
                (try simp only [Act.put, List.setIfInBounds_toArray, List.set_cons_zero, List.set_cons_succ])
                refine held_take (i := 5) (v := ?v17) rfl (by kernel_rfl) (by kernel_rfl) (by kernel_rfl) (fun _ _ _ h => h) (Or.inl ⟨by rfl, ?hy17⟩) (by assumption) ?rest17
                case hy17 => (intro w hSw; (try dsimp only at hSw); go_simp; try with_reducible rfl)
                (try simp only [Act.put, List.setIfInBounds_toArray, List.set_cons_zero, List.set_cons_succ])
                refine held_take (i := 6) (v := ?v18) rfl (by kernel_rfl) (by kernel_rfl) (by kernel_rfl) (fun _ _ _ h => h) (Or.inl ⟨by rfl, ?hy18⟩) (by assumption) ?rest18
                case hy18 => (intro w hSw; (try dsimp only at hSw); go_simp; try with_reducible rfl)
                (try simp only [Act.put, List.setIfInBounds_toArray, List.set_cons_zero, List.set_cons_succ])
                refine held_take (i := 7) (v := ?v19) rfl (by kernel_rfl) (by kernel_rfl) (by kernel_rfl) (fun _ _ _ h => h) (Or.inl ⟨by rfl, ?hy19⟩) (by assumption) ?rest19
                case hy19 => (intro w hSw; (try dsimp only at hSw); go_simp; try with_reducible rfl)
                (try simp only [Act.put, List.setIfInBounds_toArray, List.set_cons_zero, List.set_cons_succ])
                refine held_take (i := 8) (v := ?v20) rfl (by kernel_rfl) (by kernel_rfl) (by kernel_rfl) (fun _ _ _ h => h) (Or.inl ⟨by rfl, ?hy20⟩) (by assumption) ?rest20
                case hy20 => (intro w hSw; (try dsimp only at hSw); go_simp; try with_reducible rfl)
                (try simp only [Act.put, List.setIfInBounds_toArray, List.set_cons_zero, List.set_cons_succ])
                refine held_take (i := 10) (v := ?v21) rfl (by kernel_rfl) (by kernel_rfl) (by kernel_rfl) (fun _ _ _ h => h) (Or.inl ⟨by rfl, ?hy21⟩) (by assumption) ?rest21
                case hy21 => (intro w hSw; (try dsimp only at hSw); go_simp; try with_reducible rfl)
                (try simp only [Act.put, List.setIfInBounds_toArray, List.set_cons_zero, List.set_cons_succ])
                refine wpAnyH_ready (rs := [9]) (by kernel_rfl) (by simp) ?_
                refine held_cons rfl (fun K hK => ?_) ?_
                · go_simp
                  go_wp2_with (go_at_call 20; refine (HCE.out RYv8.out).mono ?_; rintro e v9 ⟨A3, c3, rfl, hr, hb⟩)
                  have GAv9 := Lib.hid (blk_call GAv8.out hb)
                  have GXv9 := Lib.hid (blk_call GXv8.out hb)
                  have GYv9 := Lib.hid (blk_call GYv8.out hb)
                  have RYv9 := Lib.hid (RYv8.out.below hb)
                  have E1v9 : Hid (ERow v9 0 A3 c3 E) := Lib.hid (ERow.base hr (Nat.zero_le _))
                  have HBv9 := Lib.hid (bw_call HBv8.out hb)
                  clear hb
                  refine hK.out _ _ ?_ (fun hHeld => ?_)
                  · exact ⟨(soup_facts GAv9.out).1, (soup_facts GAv9.out).2.1, (soup_facts GXv9.out).1, (soup_facts GXv9.out).2.1, (soup_facts GYv9.out).1, (soup_facts GYv9.out).2.1⟩
                  clear hK K
                  (try simp only [Act.put, List.setIfInBounds_toArray, List.set_cons_zero, List.set_cons_succ])
                  refine wpAnyH_ready (rs := [11]) (by kernel_rfl) (by simp) ?_
                  refine held_cons rfl (fun K hK => ?_) ?_
                  · go_simp
                    go_wp2_with (go_at_call 20; refine (HCT.out HBv9.out).mono ?_; rintro e v10 ⟨A4, c4, rfl, hr, hb⟩)
                    have GAv10 := Lib.hid (blk_call GAv9.out hb)
                    have GXv10 := Lib.hid (blk_call GXv9.out hb)
                    have GYv10 := Lib.hid (blk_call GYv9.out hb)
                    have RYv10 := Lib.hid (RYv9.out.below hb)
                    have E1v10 := Lib.hid (E1v9.out.below hb)
                    have E2v10 : Hid (ERow v10 0 A4 c4 E) := Lib.hid (ERow.base hr (Nat.zero_le _))
                    have HBv10 := Lib.hid (bw_call HBv9.out hb)
                    clear hb
                    refine hK.out _ _ ?_ (fun hHeld => ?_)
                    · exact ⟨(soup_facts GAv10.out).1, (soup_facts GAv10.out).2.1, (soup_facts GXv10.out).1, (soup_facts GXv10.out).2.1, (soup_facts GYv10.out).1, (soup_facts GYv10.out).2.1⟩
                    clear hK K
                    (try simp only [Act.put, List.setIfInBounds_toArray, List.set_cons_zero, List.set_cons_succ])
                    refine wpAnyH_ready (rs := [12]) (by kernel_rfl) (by simp) ?_
                    refine held_cons rfl (fun K hK => ?_) ?_
                    · go_simp
                      go_wp2_with (go_at_call 19; refine (HCA.out E1v10.out E2v10.out).mono ?_; rintro e v11 ⟨rfl, hb⟩)
                      have GAv11 := Lib.hid (blk_call GAv10.out hb)
                      have GXv11 := Lib.hid (blk_call GXv10.out hb)
                      have GYv11 := Lib.hid (blk_call GYv10.out hb)
                      have RYv11 := Lib.hid (RYv10.out.below hb)
                      have E1v11 := Lib.hid (E1v10.out.below hb)
                      have E2v11 := Lib.hid (E2v10.out.below hb)
                      have HBv11 := Lib.hid (bw_call HBv10.out hb)
                      clear hb
                      refine hK.out _ _ ?_ (fun hHeld => ?_)
                      · exact ⟨(soup_facts GAv11.out).1, (soup_facts GAv11.out).2.1, (soup_facts GXv11.out).1, (soup_facts GXv11.out).2.1, (soup_facts GYv11.out).1, (soup_facts GYv11.out).2.1⟩
                      clear hK K
                      (try simp only [Act.put, List.setIfInBounds_toArray, List.set_cons_zero, List.set_cons_succ])
                      refine held_take (i := 13) (v := ?v22) rfl (by kernel_rfl) (by kernel_rfl) (by kernel_rfl) (fun _ _ _ h => h) (Or.inl ⟨by rfl, ?hy22⟩) (by assumption) ?rest22
                      case hy22 => (intro w hSw; (try dsimp only at hSw); go_simp; try with_reducible rfl)
                      (try simp only [Act.put, List.setIfInBounds_toArray, List.set_cons_zero, List.set_cons_succ])
                      refine held_take (i := 14) (v := ?v23) rfl (by kernel_rfl) (by kernel_rfl) (by kernel_rfl) (fun _ _ _ h => h) (Or.inl ⟨by rfl, ?hy23⟩) (by assumption) ?rest23
                      case hy23 => (intro w hSw; (try dsimp only at hSw); go_simp; try with_reducible rfl)
                      (try simp only [Act.put, List.setIfInBounds_toArray, List.set_cons_zero, List.set_cons_succ])
                      refine wpAnyH_done (by kernel_rfl) ?_ _
                      go_wp2_with fail
                      go_meet
                      exact ⟨rfl, GAv11, GXv11, GYv11, RYv11, HBv11⟩
                    exact AllReadyH.nil
                  exact AllReadyH.nil
                exact AllReadyH.nil
              exact AllReadyH.nil
            case rest =>
              obtain ⟨rfl, GA8, GX8, GY8, RY8, HB8⟩ := hcut
              obtain ⟨w8, hw8⟩ : ∃ w8 : World, w8 = wc := ⟨_, rfl⟩
              rw [← hw8] at GA8 GX8 GY8 RY8 HB8 ⊢
              clear hw8 HCF HCE RYw7 GYw7 GXw7 GAw7 HBw7
              obtain ⟨y0, y1, _, _, _⟩ := soup_facts GY8.out
              obtain ⟨x0, x1, x2, x3, _⟩ := soup_facts GX8.out
              go_wp2_with fail
              have hne := HNE.out
              exact ⟨⟨k + 1, Ay, cy, by omega, by go_num, Lib.hid ((GA8.out.far hne.1 _).far hne.1 _), by rw [HIT.out]; exact Lib.hid (soup_set GX8.out _ _), by rw [HIT.out]; exact Lib.hid (.inr (RY8.out.soup_set GX8.out _ _)), Lib.hid (bw_set (bw_set HB8.out hne.2 _) hne.2 _)⟩, by simp [intOf]; omega⟩
      · obtain rfl : k = 3 := by omega
        rw [itR_three] at GXk HXk
        obtain ⟨x0, x1, _, _, _⟩ := soup_facts GXk.out
        have HCX : Hid (Calls Try.prog 26 #[.agg #[.int .i64 N, .slice Ax T.length cx], .agg #[.int .i64 N, .slice A T.length c]] wB (BoolPost wB true)) := Lib.hid (by
          have h1 := soupSame_dec N N T T Ax A T.length T.length cx c wB (by omega) (by omega) (HXk.out.tris HT.out HBk.out) ((HT.out.below HBk.out).more HBk.out.size)
          rwa [decide_eq_true ⟨rfl, rfl⟩] at h1)
        go_wp2_with fail
        refine HCX.out.mono ?_
        rintro e w6 ⟨rfl, hb⟩
        have GA6 := Lib.hid (blk_call GAk.out hb)
        have HB6 := Lib.hid (bw_call HBk.out hb)
        clear hb GAk HBk GXk HXk HCX s0 s1 x0 x1
        obtain ⟨s0, s1, _, _, _⟩ := soup_facts GA6.out
        have HRF := Lib.hid (@renL_form N T l HLK.out.f)
        have HRO := Lib.hid (@renL_ok N T l HLK.out.f)
        have HRN := Lib.hid (rename_any N A T.length c T Al l.length cl l w6 (by omega) hm ((HT.out.below HB6.out).more HB6.out.size) ((HL.out.below HB6.out).more HB6.out.size))
        generalize hrr : renL N T l = r at HRN
        obtain ⟨rn, rT, re⟩ := r
        have HRR := Lib.hid hrr
        clear hrr
        by_cases hp : permP N l
        · have h := HRR.out
          rw [HRO.out hp] at h
          cases h
          obtain rfl : N = (l.length : Int) := hp.1.symm
          have HP := Lib.hid hp
          obtain ⟨Y, hY⟩ : ∃ Y, Y = T.map (renT l) := ⟨_, rfl⟩
          have HYF : Hid (fitL l.length Y = true) := Lib.hid (hY ▸ fit_ren HLK.out.f hp)
          have HYB : Hid (Y.map (renT (bkL l l.length l.length)) = T) := Lib.hid (hY ▸ ren_back HLK.out.f hp)
          have HYE : Hid ((edgesL l.length Y).length = E.length) := Lib.hid (by rw [hY, edges_many HLK.out.f hp, HLK.out.e])
          have HYl : Hid (Y.length = T.length) := Lib.hid (by simp [hY])
          have HPB := Lib.hid (bk_perm hp)
          rw [← hY] at HRN
          have hl40 : l.length ≤ 40 := by omega
          clear hp hY HRR HRF HRO
          go_wp2_with fail
          refine HRN.out.mono ?_
          rintro e w7 ⟨Ay, cy, rfl, hr, hb⟩
          have GA7 := Lib.hid (blk_call GA6.out hb)
          have HB7 := Lib.hid (bw_call HB6.out hb)
          have RY7 : Hid (LRow w7 0 Ay cy Y) := Lib.hid (LRow.base hr (Nat.zero_le _))
          clear hr hb GA6 HB6 HRN s0 s1
          have hmk := fun W => run_make_rowN (P := Try.prog) 25 3 i1 (.int .i64 0) Try.underlying25 hii hy0 .i64 .i64 l.length l.length (Nat.le_refl _) (by rw [hy2]; omega) (by omega) W
          rw [hy1, Nat.mul_one, madeInts] at hmk
          obtain ⟨w8, hw8⟩ : ∃ w8, w8 = (w7.alloc (.cells #[.int .i64 (l.length : Int), .slice Ay Y.length cy] 24)).alloc (.cells (ints (List.replicate l.length 0)) 3) := ⟨_, rfl⟩
          have GY8 : Hid (Blk w8 w7.heap.size 24 #[.int .i64 (l.length : Int), .slice Ay Y.length cy]) := by subst hw8; exact Lib.hid ((Blk.new _ _ _).alloc _)
          have GB8 : Hid (Blk w8 (w7.heap.size + 1) 3 (ints (List.replicate l.length 0))) := by subst hw8; exact Lib.hid (blk_new1 _ _ _ _)
          have GA8 : Hid (Blk w8 ga 24 #[.int .i64 (l.length : Int), .slice A T.length c]) := by subst hw8; exact Lib.hid ((GA7.out.alloc _).alloc _)
          have RY8 : Hid (LRow w8 0 Ay cy Y) := by subst hw8; exact Lib.hid ((RY7.out.alloc _).alloc _)
          have HB8 : Hid (Below w.heap.size w w8) := by subst hw8; exact Lib.hid (bw_alloc (bw_alloc HB7.out _) _)
          have HGB : Hid (ga ≠ w7.heap.size + 1 ∧ w7.heap.size ≠ w7.heap.size + 1 ∧ w.heap.size ≤ w7.heap.size + 1) := Lib.hid ⟨by have := GA7.out.lt; omega, by omega, by have := HB7.out.size; omega⟩
          have s00 := (soup_facts (GA7.out.alloc (.cells #[.int .i64 (l.length : Int), .slice Ay Y.length cy] 24))).1
          go_wp2_with fail
          rw [← hw8]
          obtain ⟨gb, hgb⟩ : ∃ g, g = w7.heap.size + 1 := ⟨_, rfl⟩
          rw [← hgb] at GB8 HGB ⊢
          generalize w7.heap.size = gy at *
          clear hw8 hgb GA7 HB7 RY7 hmk s00
          go_loopw [15] (fun iv wr => ∃ v : Nat, v ≤ l.length ∧ iv = .int .i64 v ∧ Hid (Blk wr gb 3 (ints (bkL l l.length v))) ∧ Hid (Blk wr ga 24 #[.int .i64 (l.length : Int), .slice A T.length c]) ∧ Hid (Blk wr gy 24 #[.int .i64 (l.length : Int), .slice Ay Y.length cy]) ∧ Hid (LRow wr 0 Ay cy Y) ∧ Hid (Below w.heap.size w wr)) (fun iv _ => l.length - (intOf iv).toNat)
          case atStart => exact ⟨0, by omega, rfl, GB8, GA8, GY8, RY8, HB8⟩
          case round =>
            obtain ⟨v, hv, rfl, GBv, GAv, GYv, RYv, HBv⟩ := hrel
            obtain ⟨wB, hwB⟩ : ∃ wB : World, wB = wr := ⟨_, rfl⟩
            rw [← hwB] at GBv GAv GYv RYv HBv ⊢
            clear hwB GB8 GA8 GY8 RY8 HB8
            obtain ⟨s0, s1, _, _, _⟩ := soup_facts GAv.out
            by_cases hlt : v < l.length
            · obtain ⟨ad, u, eA, had, hu, hc⟩ := (HL.out.below HBv.out).at_ hlt
              obtain ⟨x, hx, rfl⟩ := zl_at hu
              have hxe : l.getD v 0 = x := by rw [List.getD_eq_getElem?_getD, hx]; rfl
              have hin := perm_get HP.out hlt
              rw [hxe] at hin
              have HXE := Lib.hid hxe
              obtain ⟨xn, rfl⟩ := Int.eq_ofNat_of_zero_le hin.1
              have hxn : xn < l.length := by omega
              have b0 := ints_cell GBv.out (k := xn) (by rw [bkL_len]; exact hxn)
              have b1 := GBv.out.frozen xn
              have hvi : (v : Int) < (l.length : Int) := by omega
              have hxi : (xn : Int) < (l.length : Int) := by omega
              subst eA
              clear hu hx had hxe
              go_wp2_with fail
              have hs := GBv.out.set_ xn (.int .i64 (v : Int))
              rw [ints_set] at hs
              have hbk : bkL l l.length (v + 1) = (bkL l l.length v).set xn (v : Int) := by
                show (bkL l l.length v).set (l.getD v 0).toNat (v : Int) = _
                rw [HXE.out]
                rfl
              have hg := HGB.out
              exact ⟨⟨v + 1, by omega, by go_num, by rw [hbk]; exact Lib.hid hs, Lib.hid (GAv.out.far hg.1 _), Lib.hid (GYv.out.far hg.2.1 _), Lib.hid (RYv.out.setInt GBv.out _), Lib.hid (bw_set HBv.out hg.2.2 _)⟩, by simp [intOf]; omega⟩
            · obtain rfl : v = l.length := by omega
              have hbl := bkL_len l l.length l.length
              generalize bkL l l.length l.length = K at *
              have hrd := ints_reads GBv.out
              rw [hbl] at hrd
              have HRB := Lib.hid (rename_any l.length Ay Y.length cy Y (some ⟨gb, 0, none⟩) l.length l.length K wB (by have := HYl.out; omega) (by omega) RYv.out.tris hrd)
              rw [renL_ok HYF.out HPB.out, HYB.out] at HRB
              clear hrd hbl
              obtain ⟨y0, y1, _, _, _⟩ := soup_facts GYv.out
              go_wp2_with fail
              refine HRB.out.mono ?_
              rintro e w8 ⟨Az, cz, rfl, hr, hb⟩
              have GA8 := Lib.hid (blk_call GAv.out hb)
              have GY8 := Lib.hid (blk_call GYv.out hb)
              have HB8 := Lib.hid (bw_call HBv.out hb)
              have RY8 := Lib.hid (RYv.out.below hb)
              have RZ8 : Hid (LRow w8 0 Az cz T) := Lib.hid (LRow.base hr (Nat.zero_le _))
              clear hr hb GBv GAv GYv RYv HBv HRB s0 s1 y0 y1 HYB HPB
              obtain ⟨w9, hw9⟩ : ∃ w9, w9 = w8.alloc (.cells #[.int .i64 (l.length : Int), .slice Az T.length cz] 24) := ⟨_, rfl⟩
              have GZw9 : Hid (Blk w9 w8.heap.size 24 #[.int .i64 (l.length : Int), .slice Az T.length cz]) := by subst hw9; exact Lib.hid (Blk.new _ _ _)
              have GYw9 : Hid (Blk w9 gy 24 #[.int .i64 (l.length : Int), .slice Ay Y.length cy]) := by subst hw9; exact Lib.hid (GY8.out.alloc _)
              have GAw9 : Hid (Blk w9 ga 24 #[.int .i64 (l.length : Int), .slice A T.length c]) := by subst hw9; exact Lib.hid (GA8.out.alloc _)
              have RYw9 : Hid (LRow w9 0 Ay cy Y) := by subst hw9; exact Lib.hid (RY8.out.alloc _)
              have RZw9 : Hid (LRow w9 0 Az cz T) := by subst hw9; exact Lib.hid (RZ8.out.alloc _)
              have HBw9 : Hid (Below w.heap.size w w9) := by subst hw9; exact Lib.hid (bw_alloc HB8.out _)
              go_upto_region 32 with (fail)
              rw [← hw9]
              generalize w8.heap.size = gz at *
              clear hw9 GA8 GY8 HB8 RY8 RZ8
              have HCE : Hid (∀ (W : World) (A1 : Option Addr) (c1 : Nat) (hr : LRow W 0 A1 c1 Y), Calls Try.prog 20 #[.agg #[.int .i64 (l.length : Int), .slice A1 Y.length c1]] W (fun e w' => ∃ A c, e = .returned (.slice A E.length c) ∧ Below W.heap.size W w')) := Lib.hid fun W A1 c1 hr => by
                have h1 := edges_any l.length A1 Y.length c1 Y W (by have := HYl.out; omega) hr.tris
                refine h1.mono ?_
                rintro e w' ⟨A2, c2, rfl, _, hb⟩
                rw [HYE.out]
                exact ⟨A2, c2, rfl, hb⟩
              have hE6 := HEL.out
              refine wp_region_till (S := fun w' => w'.cell? ⟨ga, 0, none⟩ = some (.int .i64 (l.length : Int)) ∧ w'.cell? ⟨ga, 1, none⟩ = some (.slice A T.length c) ∧ w'.cell? ⟨gy, 0, none⟩ = some (.int .i64 (l.length : Int)) ∧ w'.cell? ⟨gy, 1, none⟩ = some (.slice Ay Y.length cy) ∧ w'.cell? ⟨gz, 0, none⟩ = some (.int .i64 (l.length : Int)) ∧ w'.cell? ⟨gz, 1, none⟩ = some (.slice Az T.length cz)) 16 (by kernel_rfl) ⟨(soup_facts GAw9.out.drew).1, (soup_facts GAw9.out.drew).2.1, (soup_facts GYw9.out.drew).1, (soup_facts GYw9.out.drew).2.1, (soup_facts GZw9.out.drew).1, (soup_facts GZw9.out.drew).2.1⟩ (fun hHeld => ?_)
              refine Till.take (i := 0) (v := ?vt1) rfl (by kernel_rfl) (by kernel_rfl) (by kernel_rfl) (by kernel_rfl) (fun _ _ _ h => h) (Or.inl ⟨by rfl, ?ht1⟩) (by assumption) ?restt1
              case ht1 => (intro w hSw; (try dsimp only at hSw); go_simp; try with_reducible rfl)
              (try simp only [Act.put, List.setIfInBounds_toArray, List.set_cons_zero, List.set_cons_succ])
              refine Till.take (i := 1) (v := ?vt2) rfl (by kernel_rfl) (by kernel_rfl) (by kernel_rfl) (by kernel_rfl) (fun _ _ _ h => h) (Or.inl ⟨by rfl, ?ht2⟩) (by assumption) ?restt2
              case ht2 => (intro w hSw; (try dsimp only at hSw); go_simp; try with_reducible rfl)
              (try simp only [Act.put, List.setIfInBounds_toArray, List.set_cons_zero, List.set_cons_succ])
              refine Till.take (i := 2) (v := ?vt3) rfl (by kernel_rfl) (by kernel_rfl) (by kernel_rfl) (by kernel_rfl) (fun _ _ _ h => h) (Or.inl ⟨by rfl, ?ht3⟩) (by assumption) ?restt3
              case ht3 => (intro w hSw; (try dsimp only at hSw); go_simp; try with_reducible rfl)
              (try simp only [Act.put, List.setIfInBounds_toArray, List.set_cons_zero, List.set_cons_succ])
              refine Till.take (i := 3) (v := ?vt4) rfl (by kernel_rfl) (by kernel_rfl) (by kernel_rfl) (by kernel_rfl) (fun _ _ _ h => h) (Or.inl ⟨by rfl, ?ht4⟩) (by assumption) ?restt4
              case ht4 => (intro w hSw; (try dsimp only at hSw); go_simp; try with_reducible rfl)
              (try simp only [Act.put, List.setIfInBounds_toArray, List.set_cons_zero, List.set_cons_succ])
              refine Till.take (i := 4) (v := ?vt5) rfl (by kernel_rfl) (by kernel_rfl) (by kernel_rfl) (by kernel_rfl) (fun _ _ _ h => h) (Or.inl ⟨by rfl, ?ht5⟩) (by assumption) ?restt5
              case ht5 => (intro w hSw; (try dsimp only at hSw); go_simp; try with_reducible rfl)
              (try simp only [Act.put, List.setIfInBounds_toArray, List.set_cons_zero, List.set_cons_succ])
              refine Till.ready (rs := [5]) (by kernel_rfl) (by simp) ?_
              refine TillEach.cons rfl (fun K hK => ?_) ?_
              · go_simp
                go_wp2_with (go_at_call 26; refine (HCS.out _ _ _ (RZw9.out.drew) (bw_drew HBw9.out)).mono ?_; rintro e v20 ⟨rfl, hb⟩)
                have GAv20 := Lib.hid (blk_call GAw9.out.drew hb)
                have GYv20 := Lib.hid (blk_call GYw9.out.drew hb)
                have GZv20 := Lib.hid (blk_call GZw9.out.drew hb)
                have RYv20 := Lib.hid (RYw9.out.drew.below hb)
                have RZv20 := Lib.hid (RZw9.out.drew.below hb)
                have HBv20 := Lib.hid (bw_call (bw_drew HBw9.out) hb)
                clear hb
                refine hK.out _ _ ?_ (fun hHeld => ?_)
                · exact ⟨(soup_facts GAv20.out).1, (soup_facts GAv20.out).2.1, (soup_facts GYv20.out).1, (soup_facts GYv20.out).2.1, (soup_facts GZv20.out).1, (soup_facts GZv20.out).2.1⟩
                clear hK K
                (try simp only [Act.put, List.setIfInBounds_toArray, List.set_cons_zero, List.set_cons_succ])
                refine Till.take (i := 6) (v := ?vt6) rfl (by kernel_rfl) (by kernel_rfl) (by kernel_rfl) (by kernel_rfl) (fun _ _ _ h => h) (Or.inl ⟨by rfl, ?ht6⟩) (by assumption) ?restt6
                case ht6 => (intro w hSw; (try dsimp only at hSw); go_simp; try with_reducible rfl)
                (try simp only [Act.put, List.setIfInBounds_toArray, List.set_cons_zero, List.set_cons_succ])
                refine Till.take (i := 7) (v := ?vt7) rfl (by kernel_rfl) (by kernel_rfl) (by kernel_rfl) (by kernel_rfl) (fun _ _ _ h => h) (Or.inl ⟨by rfl, ?ht7⟩) (by assumption) ?restt7
                case ht7 => (intro w hSw; (try dsimp only at hSw); go_simp; try with_reducible rfl)
                (try simp only [Act.put, List.setIfInBounds_toArray, List.set_cons_zero, List.set_cons_succ])
                refine Till.take (i := 8) (v := ?vt8) rfl (by kernel_rfl) (by kernel_rfl) (by kernel_rfl) (by kernel_rfl) (fun _ _ _ h => h) (Or.inl ⟨by rfl, ?ht8⟩) (by assumption) ?restt8
                case ht8 => (intro w hSw; (try dsimp only at hSw); go_simp; try with_reducible rfl)
                (try simp only [Act.put, List.setIfInBounds_toArray, List.set_cons_zero, List.set_cons_succ])
                refine Till.take (i := 11) (v := ?vt9) rfl (by kernel_rfl) (by kernel_rfl) (by kernel_rfl) (by kernel_rfl) (fun _ _ _ h => h) (Or.inl ⟨by rfl, ?ht9⟩) (by assumption) ?restt9
                case ht9 => (intro w hSw; (try dsimp only at hSw); go_simp; try with_reducible rfl)
                (try simp only [Act.put, List.setIfInBounds_toArray, List.set_cons_zero, List.set_cons_succ])
                refine Till.ready (rs := [9]) (by kernel_rfl) (by simp) ?_
                refine TillEach.cons rfl (fun K hK => ?_) ?_
                · go_simp
                  go_wp2_with (go_at_call 20; refine (HCE.out _ _ _ RYv20.out).mono ?_; rintro e v21 ⟨A3, c3, rfl, hb⟩)
                  have GAv21 := Lib.hid (blk_call GAv20.out hb)
                  have GYv21 := Lib.hid (blk_call GYv20.out hb)
                  have GZv21 := Lib.hid (blk_call GZv20.out hb)
                  have RYv21 := Lib.hid (RYv20.out.below hb)
                  have RZv21 := Lib.hid (RZv20.out.below hb)
                  have HBv21 := Lib.hid (bw_call HBv20.out hb)
                  clear hb
                  refine hK.out _ _ ?_ (fun hHeld => ?_)
                  · exact ⟨(soup_facts GAv21.out).1, (soup_facts GAv21.out).2.1, (soup_facts GYv21.out).1, (soup_facts GYv21.out).2.1, (soup_facts GZv21.out).1, (soup_facts GZv21.out).2.1⟩
                  clear hK K
                  (try simp only [Act.put, List.setIfInBounds_toArray, List.set_cons_zero, List.set_cons_succ])
                  refine Till.take (i := 10) (v := ?vt10) rfl (by kernel_rfl) (by kernel_rfl) (by kernel_rfl) (by kernel_rfl) (fun _ _ _ h => h) (Or.inl ⟨by rfl, ?ht10⟩) (by assumption) ?restt10
                  case ht10 => (intro w hSw; (try dsimp only at hSw); go_simp; try with_reducible rfl)
                  (try simp only [Act.put, List.setIfInBounds_toArray, List.set_cons_zero, List.set_cons_succ])
                  refine Till.ready (rs := [12]) (by kernel_rfl) (by simp) ?_
                  refine TillEach.cons rfl (fun K hK => ?_) ?_
                  · go_simp
                    go_wp2_with (go_at_call 20; refine (HCT.out HBv21.out).mono ?_; rintro e v22 ⟨A4, c4, rfl, _, hb⟩)
                    have GAv22 := Lib.hid (blk_call GAv21.out hb)
                    have GYv22 := Lib.hid (blk_call GYv21.out hb)
                    have GZv22 := Lib.hid (blk_call GZv21.out hb)
                    have RYv22 := Lib.hid (RYv21.out.below hb)
                    have RZv22 := Lib.hid (RZv21.out.below hb)
                    have HBv22 := Lib.hid (bw_call HBv21.out hb)
                    clear hb
                    refine hK.out _ _ ?_ (fun hHeld => ?_)
                    · exact ⟨(soup_facts GAv22.out).1, (soup_facts GAv22.out).2.1, (soup_facts GYv22.out).1, (soup_facts GYv22.out).2.1, (soup_facts GZv22.out).1, (soup_facts GZv22.out).2.1⟩
                    clear hK K
                    (try simp only [Act.put, List.setIfInBounds_toArray, List.set_cons_zero, List.set_cons_succ])
                    refine Till.take (i := 13) (v := ?vt11) rfl (by kernel_rfl) (by kernel_rfl) (by kernel_rfl) (by kernel_rfl) (fun _ _ _ h => h) (Or.inl ⟨by rfl, ?ht11⟩) (by assumption) ?restt11
                    case ht11 => (intro w hSw; (try dsimp only at hSw); go_simp; try with_reducible rfl)
                    (try simp only [Act.put, List.setIfInBounds_toArray, List.set_cons_zero, List.set_cons_succ])
                    refine Till.take (i := 14) (v := ?vt12) rfl (by kernel_rfl) (by kernel_rfl) (by kernel_rfl) (by kernel_rfl) (fun _ _ _ h => h) (Or.inl ⟨by rfl, ?ht12⟩) (by assumption) ?restt12
                    case ht12 => (intro w hSw; (try dsimp only at hSw); go_simp; try with_reducible rfl)
                    (try simp only [Act.put, List.setIfInBounds_toArray, List.set_cons_zero, List.set_cons_succ])
                    refine Till.take (i := 15) (v := ?vt13) rfl (by kernel_rfl) (by kernel_rfl) (by kernel_rfl) (by kernel_rfl) (fun _ _ _ h => h) (Or.inl ⟨by rfl, ?ht13⟩) (by assumption) ?restt13
                    case ht13 => (intro w hSw; (try dsimp only at hSw); go_simp; try with_reducible rfl)
                    (try simp only [Act.put, List.setIfInBounds_toArray, List.set_cons_zero, List.set_cons_succ])
                    refine Till.ready (rs := [16]) (by kernel_rfl) (by simp) ?_
                    refine TillEach.last rfl (fun K hK => ?_)
                    · go_simp
                      refine hK.out _ _ ?_
                      clear hK K
                      (try simp only [Act.put, List.setIfInBounds_toArray, List.set_cons_zero, List.set_cons_succ])
                      refine Till.done (by kernel_rfl) ?_ _
                      go_wp2_with fail
                      go_ret
                      exact ⟨rfl, HBv22.out⟩
                  exact TillEach.nil
                exact TillEach.nil
              exact TillEach.nil
        · have h := HRR.out
          rw [HRF.out hp] at h
          cases h
          go_wp2_with fail
          refine HRN.out.mono ?_
          rintro e w7 ⟨Ay, cy, rfl, hr, hb⟩
          have HB7 := Lib.hid (bw_call HB6.out hb)
          clear hr hb
          go_wp2_with fail
          go_ret
          exact ⟨rfl, bw_alloc HB7.out _⟩
end Go.Proofs.Ytmmjonpkpeanpaa
