/- FieldMaps, walked. -/
import Derived.Test.YtbdicndkkenbgaaGreatWake16
import Derived.Test.YtbdicndkkenbgaaGreatIsW15
import Derived.Test.YtbdicndkkenbgaaGreatAll16
import Derived.Test.YtbdicndkkenbgaaGreatList16
import Derived.Test.YtbdicndkkenbgaaGreatFldSet
import Derived.Test.YtbdicndkkenbgaaGreatFldSS
import Derived.Test.YtbdicndkkenbgaaGreatMaps16B
import Derived.Laws.EntriesVeiled
namespace Go.Proofs.YtbdicndkkenbgaaGreat
open Go.RowKit

set_option linter.unusedSimpArgs false
set_option linter.unusedVariables false
theorem own_up9 {w w' : World} {base : Nat} {e : TypeId} {size n : Nat} {v : Value} {xs : List Value} (h : w.ownsRow base e size v n xs) (hb : Below w.heap.size w w') : w'.ownsRow base e size v n xs := own_same h fun k hk => hb.block k (h.lt k hk).2
theorem OfM.pure {kf : Nat} {lb : Array Value} {w : World} {N : Nat} {V : Nat → Int} {U : Nat → Value} (h : ∀ c W, c < N → Below w.heap.size w W → Calls Tryz.prog kf (#[.int .i64 (V c)] ++ lb) W fun e W' => e = .returned (U c) ∧ Below W.heap.size W W') :
    OfM kf lb (fun _ => False) (fun _ _ => True) w N V U := fun c W hc _ hO => (h c W hc hO.below_).mono fun e W' ⟨he, hb⟩ => ⟨he, trivial, Only.of_below hb _⟩
theorem own_off {w : World} {base : Nat} {e : TypeId} {n c gr : Nat} {A : Option Addr} {xs : List Value} (h : w.ownsRow base e 1 (.slice A n c) n xs) (hn : 0 < n) (hd : ∀ k, A = some ⟨k, 0, none⟩ → k ≠ gr) (u : Value) : (w.setCell ⟨gr, 0, none⟩ u).ownsRow base e 1 (.slice A n c) n xs := by
  obtain ⟨k', rfl, _⟩ := own_pt h hn
  exact own_same h fun k hk => heap_setCell_other w ⟨gr, 0, none⟩ k u (fun e => hd k' rfl (by simp only [Value.ownBlock, Option.some.injEq] at hk; dsimp only at e hk; omega))
theorem FAt.onlyHi {w0 w w' : World} {tF tE : TypeId} {sz B gf g : Nat} {A : Option Addr} {c n : Nat} {xs : List Value} {F : Nat → Prop} (h : FAt w0 tF tE sz B gf g A c n xs) (hb : Below w0.heap.size w0 w) (ho : Only F w w') (hF : ∀ k, F k → w0.heap.size ≤ k) : FAt w' tF tE sz B gf g A c n xs :=
  h.below (Below.trans hb (ho.below hb.size fun k hk hf => by have := hF k hf; omega))
theorem valsL_map1 {α β : Type} [DecidableEq α] [DecidableEq β] {V : Nat → α} (φ : α → β) : ∀ L : List Nat, (∀ x, x ∈ valsL (fun i => φ (V i)) L ↔ ∃ y, y ∈ valsL V L ∧ φ y = x) ∧ (valsL (fun i => φ (V i)) L).length ≤ (valsL V L).length := fun L => by
  refine snocInd (P := fun L => (∀ x, x ∈ valsL (fun i => φ (V i)) L ↔ ∃ y, y ∈ valsL V L ∧ φ y = x) ∧ (valsL (fun i => φ (V i)) L).length ≤ (valsL V L).length) ⟨fun x => by simp [valsL], Nat.le_refl _⟩ (fun L c ih => ?_) L
  rw [valsL_snoc, valsL_snoc]
  obtain ⟨i1, i2⟩ := ih
  by_cases hm : V c ∈ valsL V L
  · have hm2 : φ (V c) ∈ valsL (fun i => φ (V i)) L := (i1 _).2 ⟨_, hm, rfl⟩
    rw [if_pos hm, if_pos hm2]
    exact ⟨i1, i2⟩
  · rw [if_neg hm]
    by_cases hm2 : φ (V c) ∈ valsL (fun i => φ (V i)) L
    · rw [if_pos hm2]
      refine ⟨fun x => ⟨fun hx => ?_, fun ⟨y, hy, e⟩ => ?_⟩, by rw [List.length_append]; omega⟩
      · obtain ⟨y, hy, e⟩ := (i1 x).1 hx
        exact ⟨y, by simp [hy], e⟩
      · rcases List.mem_append.1 hy with hy | hy
        · exact (i1 x).2 ⟨y, hy, e⟩
        · rw [List.mem_singleton.1 hy] at e
          rw [← e]; exact hm2
    · rw [if_neg hm2]
      refine ⟨fun x => ⟨fun hx => ?_, fun ⟨y, hy, e⟩ => ?_⟩, by rw [List.length_append, List.length_append]; simp only [List.length_singleton]; omega⟩
      · rcases List.mem_append.1 hx with hx | hx
        · obtain ⟨y, hy, e⟩ := (i1 x).1 hx
          exact ⟨y, by simp [hy], e⟩
        · exact ⟨V c, by simp, (List.mem_singleton.1 hx).symm⟩
      · rcases List.mem_append.1 hy with hy | hy
        · exact List.mem_append.2 (.inl ((i1 x).2 ⟨y, hy, e⟩))
        · rw [List.mem_singleton.1 hy] at e
          rw [← e]; simp
/-- One value stays one value. -/
theorem valsL_still {α β : Type} [DecidableEq α] [DecidableEq β] {V : Nat → α} (φ : α → β) {L : List Nat} (h : (valsL V L).length = 1) : (valsL (fun i => φ (V i)) L).length = 1 := by
  obtain ⟨i1, i2⟩ := valsL_map1 (V := V) φ L
  have h0 : (valsL (fun i => φ (V i)) L).length ≠ 0 := fun e => by
    have hn : valsL (fun i => φ (V i)) L = [] := List.eq_nil_of_length_eq_zero e
    cases hv : valsL V L with
    | nil => rw [hv] at h; cases h
    | cons y t =>
      have := (i1 (φ y)).2 ⟨y, by rw [hv]; simp, rfl⟩
      rw [hn] at this
      cases this
  omega
attribute [local irreducible] Blk LRow World.alloc World.setCell World.cell? World.frozen? MapV
set_option maxRecDepth 100000 in
set_option maxHeartbeats 8000000 in
theorem mapsLaw_any (N : Int) (A : Option Addr) (n c : Nat) (T : List Tri) (Al : Option Addr) (nl cl : Nat) (l : List Int) (by_ b : Nat) (w : World) (hy8 : by_ < 256) (hb8 : b < 256) (hnl : l.length = nl) (hnl2 : nl ≤ 9223372036854775807) (ht : TrisAt w w.heap.size A n T) (hl : Reads w w.heap.size 1 Al nl (ZL l)) :
    Calls Tryz.prog 6 #[.agg #[.int .i64 N, .slice A n c], .slice Al nl cl, .int .u8 (by_ : Int), .int .u8 (b : Int)] w (BoolPost w true) := by
  obtain rfl : n = T.length := ht.len.symm
  subst hnl
  have HT := Lib.hid ht
  have HRL := Lib.hid hl
  clear ht hl
  obtain ⟨V, hV⟩ : ∃ V, V = ((w.alloc (.cells #[.int .i64 N, .slice A T.length c] 24)).alloc (.cells #[.slice Al l.length cl] 46)).alloc (.cells #[.int .u8 (b : Int)] 5) := ⟨_, rfl⟩
  have GA0 : Hid (Blk V w.heap.size 24 #[.int .i64 N, .slice A T.length c]) := by subst hV; exact Lib.hid (((Blk.new _ _ _).alloc _).alloc _)
  have GL0 : Hid (Blk V (w.heap.size + 1) 46 #[.slice Al l.length cl]) := by subst hV; exact Lib.hid ((blk_new1 _ _ _ _).alloc _)
  have GM0 : Hid (Blk V (w.heap.size + 1 + 1) 5 #[.int .u8 (b : Int)]) := by subst hV; exact Lib.hid (Blk.new_ (by rw [World.size_alloc, World.size_alloc]) _ _)
  have HB0 : Hid (Below w.heap.size w V) := by subst hV; exact Lib.hid (bw_alloc (bw_alloc (bw_alloc (Below.refl _ _) _) _) _)
  go_enter Tryz.func6, Tryz.ntmps6
  go_upto_region 1 with (fail)
  rw [← hV]
  clear hV
  obtain ⟨ga, hga⟩ : ∃ g, g = w.heap.size := ⟨_, rfl⟩
  obtain ⟨gl, hgl⟩ : ∃ g, g = w.heap.size + 1 := ⟨_, rfl⟩
  obtain ⟨gm, hgm⟩ : ∃ g, g = w.heap.size + 1 + 1 := ⟨_, rfl⟩
  rw [← hgm] at GM0 ⊢
  rw [← hgl] at GL0 ⊢
  rw [← hga] at GA0
  simp only [← hga]
  clear hga hgl hgm
  go_wp2_with fail
  refine (awake_any V).mono ?_
  rintro e w1 ⟨rfl, hb⟩
  have GA1 := Lib.hid (blk_call GA0.out hb)
  have GL1 := Lib.hid (blk_call GL0.out hb)
  have GM1 := Lib.hid (blk_call GM0.out hb)
  have HB1 := Lib.hid (bw_call HB0.out hb)
  clear hb HB0 GA0 GL0 GM0
  obtain ⟨s0, s1, _, _, _⟩ := soup_facts GA1.out
  go_wp2_with fail
  refine (table12_any N A c T w1 ((HT.out.below HB1.out).more HB1.out.size)).mono ?_
  rintro e w2 (⟨rfl, hb, hno⟩ | ⟨g, m, rfl, hT40, hck, rfl, htab, hb⟩)
  · have GA2 := Lib.hid (blk_call GA1.out hb)
    have HB2 := Lib.hid (bw_call HB1.out hb)
    clear hb GL1 GM1 GA1 HB1 s0 s1
    obtain ⟨s0, s1, _, _, _⟩ := soup_facts GA2.out
    by_cases hT40 : 40 < T.length
    · have hi : (40 : Int) < (T.length : Int) := by omega
      go_wp2_with fail
      go_ret
      exact ⟨rfl, HB2.out⟩
    have hi : ¬ (40 : Int) < (T.length : Int) := by omega
    have hck := hno.resolve_left hT40
    have HIS := Lib.hid (is15_any N A c T w2 (by omega) ((HT.out.below HB2.out).more HB2.out.size))
    rw [decide_eq_false hck] at HIS
    clear hno hck
    go_wp2_with fail
    refine HIS.out.mono ?_
    rintro e w4 ⟨rfl, hb⟩
    go_wp2_with fail
    go_ret
    exact ⟨rfl, bw_call HB2.out hb⟩
  have GA2 := Lib.hid (blk_call GA1.out hb)
  have GL2 := Lib.hid (blk_call GL1.out hb)
  have GM2 := Lib.hid (blk_call GM1.out hb)
  have HB2 := Lib.hid (bw_call HB1.out hb)
  have HT2 := Lib.hid htab
  clear hb GL1 GM1 GA1 HB1 s0 s1 htab hck
  have HRW : Hid (∀ W, Below w2.heap.size w2 W → Reads W W.heap.size 1 Al l.length (ZL l)) := Lib.hid fun W h => (HRL.out.below (bw_call HB2.out h)).more (bw_call HB2.out h).size
  obtain ⟨n3, hn3⟩ : ∃ n3, n3 = 3 * T.length := ⟨_, rfl⟩
  have HN3 := Lib.hid hn3
  have hn120 : n3 ≤ 120 := by omega
  clear hn3
  go_wp2_with fail
  refine (newI_pure 33 #[.pointer (some ⟨gl, 0, none⟩)] (enters_of Tryz.func33 (by kernel_rfl) rfl) g m T (fun k => valN l k) w2 (by omega) HT2.out
    (fun k W hk hW => mapsF1_any gl Al cl l k W (by omega) ((hW.cell (p := ⟨gl, 0, none⟩) GL2.out.lt).trans (GL2.out.cell 0)) (HRW.out W hW))).mono ?_
  rintro e w3 ⟨gf, Af, cf, rfl, hf, hb⟩
  rw [← HN3.out] at hf
  have HF3 : Hid (FAt w3 91 3 1 w.heap.size gf g Af cf n3 ((List.range n3).flatMap fun i => cellsI (valN l i))) := Lib.hid (hf.base HB2.out.size)
  have GA3 := Lib.hid (blk_call GA2.out hb)
  have GL3 := Lib.hid (blk_call GL2.out hb)
  have GM3 := Lib.hid (blk_call GM2.out hb)
  have HT3 := Lib.hid (HT2.out.below hb)
  have HB3 := Lib.hid (bw_call HB2.out hb)
  clear hf hb GA2 GL2 GM2 HRW HB2 HT2
  obtain ⟨nn, hnn⟩ : ∃ nn, Int.tmod (by_ : Int) 5 = nn := ⟨_, rfl⟩
  have hn5 : 0 ≤ nn ∧ nn < 5 := by rw [← hnn]; exact ⟨Int.tmod_nonneg _ (by omega), Int.tmod_lt_of_pos _ (by omega)⟩
  have hcv : IntKind.i64.wrap (by_ : Int) = (by_ : Int) := IntWalk.i64_in _ (by omega)
  have hwn : IntKind.i64.wrap nn = nn := IntWalk.i64_in _ (by omega)
  have hw1 : IntKind.i64.wrap (1 + nn) = 1 + nn := IntWalk.i64_in _ (by omega)
  go_upto_region 11 with (fail)
  obtain ⟨w4, hw4⟩ : ∃ w4, w4 = (((w3.alloc (.cells #[.int .i64 (1 + nn)] 3)).alloc (.cells #[.func (.func 34) #[] #[.pointer (some ⟨w3.heap.size, 0, none⟩)]] 37)).alloc (.cells #[.func (.func 35) #[] #[.pointer (some ⟨gm, 0, none⟩)]] 63)).alloc (.cells #[.int .i64 0] 3) := ⟨_, rfl⟩
  have GN4 : Hid (Blk w4 w3.heap.size 3 #[.int .i64 (1 + nn)]) := by subst hw4; exact Lib.hid ((((Blk.new _ _ _).alloc _).alloc _).alloc _)
  have GO4 : Hid (Blk w4 (w3.heap.size + 1) 37 #[.func (.func 34) #[] #[.pointer (some ⟨w3.heap.size, 0, none⟩)]]) := by subst hw4; exact Lib.hid (((Blk.new_ (by rw [World.size_alloc]) _ _).alloc _).alloc _)
  have GT4 : Hid (Blk w4 (w3.heap.size + 1 + 1) 63 #[.func (.func 35) #[] #[.pointer (some ⟨gm, 0, none⟩)]]) := by subst hw4; exact Lib.hid ((Blk.new_ (by rw [World.size_alloc, World.size_alloc]) _ _).alloc _)
  have GC4 : Hid (Blk w4 (w3.heap.size + 1 + 1 + 1) 3 #[.int .i64 0]) := by subst hw4; exact Lib.hid (Blk.new_ (by rw [World.size_alloc, World.size_alloc, World.size_alloc]) _ _)
  have H34 : Hid (Below w3.heap.size w3 w4) := by subst hw4; exact Lib.hid (bw_alloc (bw_alloc (bw_alloc (bw_alloc (Below.refl _ _) _) _) _) _)
  rw [← hw4]
  clear hw4
  obtain ⟨bn, hbn⟩ : ∃ x, x = w3.heap.size := ⟨_, rfl⟩
  obtain ⟨bo, hbo⟩ : ∃ x, x = w3.heap.size + 1 := ⟨_, rfl⟩
  obtain ⟨bt, hbt⟩ : ∃ x, x = w3.heap.size + 1 + 1 := ⟨_, rfl⟩
  obtain ⟨ba, hba⟩ : ∃ x, x = w3.heap.size + 1 + 1 + 1 := ⟨_, rfl⟩
  have HQ : Hid (bn ≠ ba ∧ bo ≠ ba ∧ bt ≠ ba ∧ w3.heap.size ≤ ba ∧ w.heap.size ≤ w3.heap.size) := Lib.hid (by have := HB3.out.size; omega)
  rw [← hba] at GC4 ⊢
  rw [← hbt] at GT4 ⊢
  rw [← hbo] at GO4 ⊢
  rw [← hbn] at GO4 GN4
  simp only [← hbn]
  clear hbn hbo hbt hba hnn hcv hwn hw1
  obtain ⟨n, hn⟩ : ∃ n, 1 + nn = n := ⟨_, rfl⟩
  have hn1 : 0 < n ∧ n ≤ 5 := by omega
  rw [hn] at GN4 ⊢
  clear hn hn5
  go_wp2_with fail
  refine (mapI_any 37 #[.pointer (some ⟨ba, 0, none⟩), .pointer (some ⟨bo, 0, none⟩)] (enters_of Tryz.func37 (by kernel_rfl) rfl) gf g n3 w.heap.size Af cf (valN l) (fun c => Int.tmod (valN l c) n) (fun x => x = ba) (fun c W => Blk W ba 3 #[.int .i64 (c : Int)]) w4 (by omega)
    (fun W ho => HF3.out.onlyHi H34.out ho (fun k hk => hk ▸ HQ.out.2.2.2.1)) (fun k hk => hk ▸ GC4.out.lt) (fun c W W' h hb => h.below hb GC4.out.lt) GC4.out
    (fun c W hc hJ ho => (maps4_any ba bo bn n (valN l c) c W hn1.1 hn1.2 (by omega) hJ (GO4.out.only ho (fun e => HQ.out.2.1 e)) (GN4.out.only ho (fun e => HQ.out.1 e)) HQ.out.2.1 HQ.out.1).mono fun e W' h => ⟨h.1, h.2.1, h.2.2⟩)).mono ?_
  rintro e w5 ⟨gg, Ag, cg, rfl, hf, hj, hon⟩
  have HG5 : Hid (FAt w5 91 3 1 w4.heap.size gg g Ag cg n3 ((List.range n3).flatMap fun i => cellsI ((fun c => Int.tmod (valN l c) n) i))) := Lib.hid hf
  have H35 : Below w3.heap.size w3 w5 := Below.trans H34.out (hon.below H34.out.size (fun k hk e => by have := HQ.out; omega))
  have HFL : Hid (gf < w4.heap.size ∧ w.heap.size ≤ w4.heap.size ∧ ∀ gr, Af = some ⟨gr, 0, none⟩ → 0 < n3 → gr < w4.heap.size) := Lib.hid ⟨Nat.lt_of_lt_of_le HF3.out.b.lt H34.out.size, Nat.le_trans HB3.out.size H34.out.size, fun gr hg hn => by
    obtain ⟨gr', hg', _, hlt, _, _⟩ := own_pt HF3.out.r hn
    rw [hg'] at hg
    cases hg
    exact Nat.lt_of_lt_of_le hlt H34.out.size⟩
  have HC5 := Lib.hid hj
  have GO5 := Lib.hid (GO4.out.only hon (fun e => HQ.out.2.1 e))
  have GN5 := Lib.hid (GN4.out.only hon (fun e => HQ.out.1 e))
  have GT5 := Lib.hid (GT4.out.only hon (fun e => HQ.out.2.2.1 e))
  have HF5 := Lib.hid (HF3.out.below H35)
  have GA5 := Lib.hid (blk_call GA3.out H35)
  have GL5 := Lib.hid (blk_call GL3.out H35)
  have GM5 := Lib.hid (blk_call GM3.out H35)
  have HT5 := Lib.hid (HT3.out.below H35)
  have HB5 := Lib.hid (bw_call HB3.out H35)
  clear hf hj H34 H35 hon GC4 GO4 GN4 GT4 HF3 GA3 GL3 GM3 HT3 HB3 HQ
  have q0 := GT5.out.cell 0
  simp at q0
  go_wp2_with fail
  obtain ⟨BG, hBG⟩ : ∃ BG, BG = w4.heap.size := ⟨_, rfl⟩
  rw [← hBG] at HG5 HFL
  clear hBG
  refine (mapS_any 35 #[.pointer (some ⟨gm, 0, none⟩)] (enters_of Tryz.func35 (by kernel_rfl) rfl) gg g n3 BG Ag cg (fun c => Int.tmod (valN l c) n) (fun c => strOf b (Int.tmod (valN l c) n)) (fun _ => False) (fun _ _ => True) w5 (by omega)
    (fun W ho => HG5.out.below ho.below_) (fun _ hf => hf.elim) (fun _ _ _ _ _ => trivial) trivial
    (OfM.pure fun c W hc hW => mapsTwo_any gm b (Int.tmod (valN l c) n) W hb8 ((hW.cell (p := ⟨gm, 0, none⟩) GM5.out.lt).trans (GM5.out.cell 0)))).mono ?_
  rintro e w6 ⟨gh, Ah, ch, rfl, hf, _, hon⟩
  have hb := hon.below_
  obtain ⟨BH, hBH⟩ : ∃ BH, BH = w5.heap.size := ⟨_, rfl⟩
  rw [← hBH] at hf
  have HH6 : Hid (FAt w6 99 9 1 BH gh g Ah ch n3 ((List.range n3).flatMap fun i => cellsS ((fun c => strOf b (Int.tmod (valN l c) n)) i))) := Lib.hid hf
  have HG6 := Lib.hid (HG5.out.below hb)
  have HF6 := Lib.hid (HF5.out.below hb)
  have GC6 := Lib.hid (blk_call HC5.out hb)
  have GO6 := Lib.hid (blk_call GO5.out hb)
  have GN6 := Lib.hid (blk_call GN5.out hb)
  have GT6 := Lib.hid (blk_call GT5.out hb)
  have GA6 := Lib.hid (blk_call GA5.out hb)
  have GL6 := Lib.hid (blk_call GL5.out hb)
  have GM6 := Lib.hid (blk_call GM5.out hb)
  have HT6 := Lib.hid (HT5.out.below hb)
  have HB6 := Lib.hid (bw_call HB5.out hb)
  clear hf hb hon hBH HG5 HF5 HC5 GO5 GN5 GT5 GA5 GL5 GM5 HT5 HB5 q0
  go_wp2_with fail
  refine (mapS_any 39 #[.pointer (some ⟨bt, 0, none⟩), .pointer (some ⟨bo, 0, none⟩)] (enters_of Tryz.func39 (by kernel_rfl) rfl) gf g n3 w.heap.size Af cf (valN l) (fun c => strOf b (Int.tmod (valN l c) n)) (fun _ => False) (fun _ _ => True) w6 (by omega)
    (fun W ho => HF6.out.below ho.below_) (fun _ hf => hf.elim) (fun _ _ _ _ _ => trivial) trivial
    (OfM.pure fun c W hc hW => maps5_any bt bo bn gm b n (valN l c) W hn1.1 hn1.2 hb8 (blk_call GT6.out hW) (blk_call GO6.out hW) (blk_call GN6.out hW) (blk_call GM6.out hW))).mono ?_
  rintro e w7 ⟨gk, Ak, ck, rfl, hf, _, hon⟩
  have hb := hon.below_
  obtain ⟨BK, hBK⟩ : ∃ BK, BK = w6.heap.size := ⟨_, rfl⟩
  rw [← hBK] at hf
  have HK7 : Hid (FAt w7 99 9 1 BK gk g Ak ck n3 ((List.range n3).flatMap fun i => cellsS ((fun c => strOf b (Int.tmod (valN l c) n)) i))) := Lib.hid hf
  have HH7 := Lib.hid (HH6.out.below hb)
  have HG7 := Lib.hid (HG6.out.below hb)
  have HF7 := Lib.hid (HF6.out.below hb)
  have GC7 := Lib.hid (blk_call GC6.out hb)
  have GO7 := Lib.hid (blk_call GO6.out hb)
  have GN7 := Lib.hid (blk_call GN6.out hb)
  have GT7 := Lib.hid (blk_call GT6.out hb)
  have GA7 := Lib.hid (blk_call GA6.out hb)
  have GL7 := Lib.hid (blk_call GL6.out hb)
  have GM7 := Lib.hid (blk_call GM6.out hb)
  have HT7 := Lib.hid (HT6.out.below hb)
  have HB7 := Lib.hid (bw_call HB6.out hb)
  clear hf hb hon hBK HH6 HG6 HF6 GC6 GO6 GN6 GT6 GA6 GL6 GM6 HT6 HB6
  obtain ⟨s0, s1, _, _, _⟩ := soup_facts GA7.out
  have q0 := GL7.out.cell 0
  simp at q0
  have hlm : ∀ V : Nat → Int, ((List.range n3).map V).length = n3 := fun V => by simp
  go_wp2_with fail
  refine (list_any (m : Int) A c T Al cl l w7 (by omega) ((HRL.out.below HB7.out).more HB7.out.size)).mono ?_
  rintro e w8 ⟨Aw, cw, rfl, hown, hb⟩
  rw [← HN3.out, hlm] at hown
  rw [← HN3.out, hlm]
  have HW8 := Lib.hid hown
  have HDF : Hid (∀ gr, Ag = some ⟨gr, 0, none⟩ → 0 < n3 → w.heap.size ≤ gr ∧ gf ≠ gr ∧ (∀ k, Af = some ⟨k, 0, none⟩ → k ≠ gr) ∧ (∀ k, Aw = some ⟨k, 0, none⟩ → k ≠ gr)) := Lib.hid fun gr hg hn => by
    obtain ⟨gr', hg', hb', hlt, _, _⟩ := own_pt HG7.out.r hn
    rw [hg'] at hg
    cases hg
    have h1 := HFL.out
    refine ⟨by omega, by omega, fun k hk => by have := h1.2.2 k hk hn; omega, fun k hk => ?_⟩
    obtain ⟨k', hk', hb2, _, _, _⟩ := own_pt hown hn
    rw [hk'] at hk
    cases hk
    omega
  have HK8 := Lib.hid (HK7.out.below hb)
  have HH8 := Lib.hid (HH7.out.below hb)
  have HG8 := Lib.hid (HG7.out.below hb)
  have HF8 := Lib.hid (HF7.out.below hb)
  have GC8 := Lib.hid (blk_call GC7.out hb)
  have GO8 := Lib.hid (blk_call GO7.out hb)
  have GN8 := Lib.hid (blk_call GN7.out hb)
  have GT8 := Lib.hid (blk_call GT7.out hb)
  have GA8 := Lib.hid (blk_call GA7.out hb)
  have GM8 := Lib.hid (blk_call GM7.out hb)
  have HT8 := Lib.hid (HT7.out.below hb)
  have HB8 := Lib.hid (bw_call HB7.out hb)
  clear hown hb HK7 HH7 HG7 HF7 GC7 GO7 GN7 GT7 GA7 GL7 GM7 HT7 HB7 s0 s1 q0
  have q0 := GC8.out.cell 0
  simp at q0
  go_wp2_with fail
  refine (allF_any gf g w.heap.size n3 Af cf (valN l) w8 (by omega) HF8.out).mono ?_
  rintro e w9 ⟨Aq, cq, rfl, hown, hb⟩
  rw [hlm] at hown
  rw [hlm]
  have HQ9 := Lib.hid (Reads.of_own hown)
  have HW9 := Lib.hid (own_up9 HW8.out hb)
  have HK9 := Lib.hid (HK8.out.below hb)
  have HH9 := Lib.hid (HH8.out.below hb)
  have HG9 := Lib.hid (HG8.out.below hb)
  have HF9 := Lib.hid (HF8.out.below hb)
  have GO9 := Lib.hid (blk_call GO8.out hb)
  have GN9 := Lib.hid (blk_call GN8.out hb)
  have GT9 := Lib.hid (blk_call GT8.out hb)
  have GA9 := Lib.hid (blk_call GA8.out hb)
  have GM9 := Lib.hid (blk_call GM8.out hb)
  have HT9 := Lib.hid (HT8.out.below hb)
  have HB9 := Lib.hid (bw_call HB8.out hb)
  clear hown hb HK8 HH8 HG8 HF8 GC8 GO8 GN8 GT8 GA8 GM8 HT8 HB8 HW8 q0
  go_wp2_with fail
  refine (refInts_any ((List.range n3).map (valN l)) Aq Aw n3 cq cw w9 (by omega) (by rw [← cellsI_zl]; exact HQ9.out) (by rw [← cellsI_zl]; exact Reads.of_own HW9.out)).mono ?_
  rintro e w10 ⟨rfl, hb⟩
  have HWA := Lib.hid (own_mono (own_up9 HW9.out hb) (Nat.zero_le _))
  have HKA := Lib.hid (HK9.out.below hb)
  have HHA := Lib.hid (HH9.out.below hb)
  have HGA := Lib.hid (HG9.out.below hb)
  have HFA := Lib.hid (HF9.out.below hb)
  have GOA := Lib.hid (blk_call GO9.out hb)
  have GNA := Lib.hid (blk_call GN9.out hb)
  have GTA := Lib.hid (blk_call GT9.out hb)
  have GAA := Lib.hid (blk_call GA9.out hb)
  have GMA := Lib.hid (blk_call GM9.out hb)
  have HTA := Lib.hid (HT9.out.below hb)
  have HBA := Lib.hid (bw_call HB9.out hb)
  clear hb HK9 HH9 HG9 HF9 GO9 GN9 GT9 GA9 GM9 HT9 HB9 HW9 HQ9
  go_wp2_with fail
  go_loopw [19] (fun kv wr => ∃ k : Nat, k ≤ n3 ∧ kv = .int .i64 (k : Int) ∧ Hid (wr.ownsRow 0 3 1 (.slice Aw n3 cw) n3 (((List.range n3).map (valN l)).flatMap cellsI)) ∧ Hid (FAt wr 99 9 1 BK gk g Ak ck n3 ((List.range n3).flatMap fun i => cellsS ((fun c => strOf b (Int.tmod (valN l c) n)) i))) ∧ Hid (FAt wr 99 9 1 BH gh g Ah ch n3 ((List.range n3).flatMap fun i => cellsS ((fun c => strOf b (Int.tmod (valN l c) n)) i))) ∧ Hid (FAt wr 91 3 1 BG gg g Ag cg n3 ((List.range n3).flatMap fun i => cellsI ((fun c => Int.tmod (valN l c) n) i))) ∧ Hid (FAt wr 91 3 1 w.heap.size gf g Af cf n3 ((List.range n3).flatMap fun i => cellsI (valN l i))) ∧ Hid (Blk wr bo 37 #[.func (.func 34) #[] #[.pointer (some ⟨bn, 0, none⟩)]]) ∧ Hid (Blk wr bn 3 #[.int .i64 n]) ∧ Hid (Blk wr bt 63 #[.func (.func 35) #[] #[.pointer (some ⟨gm, 0, none⟩)]]) ∧ Hid (Blk wr ga 24 #[.int .i64 (m : Int), .slice A T.length c]) ∧ Hid (Blk wr gm 5 #[.int .u8 (b : Int)]) ∧ Hid (TabN wr g m T) ∧ Hid (Below w.heap.size w wr)) (fun kv _ => n3 - (intOf kv).toNat)
  case atStart => exact ⟨0, by omega, rfl, HWA, HKA, HHA, HGA, HFA, GOA, GNA, GTA, GAA, GMA, HTA, HBA⟩
  case round =>
    obtain ⟨k, hk, rfl, HOWwB, HKwB, HHwB, HGwB, HFwB, GOwB, GNwB, GTwB, GAwB, GMwB, HTwB, HBwB⟩ := hrel
    obtain ⟨wB, hwB⟩ : ∃ wB : World, wB = wr := ⟨_, rfl⟩
    rw [← hwB] at HOWwB HKwB HHwB HGwB HFwB GOwB GNwB GTwB GAwB GMwB HTwB HBwB ⊢
    clear hwB HWA HKA HHA HGA HFA GOA GNA GTA GAA GMA HTA HBA
    by_cases hlt : k < n3
    · have hki : (k : Int) < (n3 : Int) := by omega
      go_wp2_with fail
      refine (atI_any gg g n3 BG Ag cg (fun c => Int.tmod (valN l c) n) (k : Int) wB (by omega) HGwB.out).mono ?_
      rintro e w' ⟨rfl, hw⟩
      replace hw := hw.symm
      subst hw
      rw [if_pos (by omega), show (k : Int).toNat = k from rfl]
      go_wp2_with fail
      refine (atS_any gh g n3 BH Ah ch (fun c => strOf b (Int.tmod (valN l c) n)) (k : Int) wB (by omega) HHwB.out).mono ?_
      rintro e w' ⟨rfl, hw⟩
      replace hw := hw.symm
      subst hw
      rw [if_pos (by omega), show (k : Int).toNat = k from rfl]
      go_wp2_with fail
      refine (atS_any gk g n3 BK Ak ck (fun c => strOf b (Int.tmod (valN l c) n)) (k : Int) wB (by omega) HKwB.out).mono ?_
      rintro e w' ⟨rfl, hw⟩
      replace hw := hw.symm
      subst hw
      rw [if_pos (by omega), show (k : Int).toNat = k from rfl]
      go_upto_region 23 with (fail)
      obtain ⟨ad, hA, hac⟩ := readCI (Reads.of_own HOWwB.out) (show ((List.range n3).map (valN l))[k]? = some (valN l k) by simp [hlt])
      have CQwB : Hid (CellQ wB (ad.add k) (.int .i64 (valN l k))) := Lib.hid ⟨hac, World.block_lt_of_cell? _ _ hac⟩
      subst hA
      clear hac
      refine wp_region_held_drew (S := fun w' => w'.cell? ⟨bo, 0, none⟩ = some (.func (.func 34) #[] #[.pointer (some ⟨bn, 0, none⟩)]) ∧ w'.cell? ⟨bt, 0, none⟩ = some (.func (.func 35) #[] #[.pointer (some ⟨gm, 0, none⟩)]) ∧ w'.cell? ⟨bn, 0, none⟩ = some (.int .i64 n) ∧ w'.cell? ⟨gm, 0, none⟩ = some (.int .u8 (b : Int)) ∧ w'.cell? (ad.add k) = some (.int .i64 (valN l k))) (by kernel_rfl) ⟨(GOwB.out.drew.cell 0), (GTwB.out.drew.cell 0), (GNwB.out.drew.cell 0), (GMwB.out.drew.cell 0), (CQwB.out.drew.c)⟩ (fun hHeld => ?_)
      refine held_take (i := 0) (v := ?v1) rfl (by kernel_rfl) (by kernel_rfl) (by kernel_rfl) (fun _ _ _ h => h) (Or.inl ⟨by rfl, ?hy1⟩) (by assumption) ?rest1
      case hy1 => (intro w hSw; (try dsimp only at hSw); go_simp; try with_reducible rfl)
      (try simp only [Act.put, List.setIfInBounds_toArray, List.set_cons_zero, List.set_cons_succ])
      refine held_take (i := 1) (v := ?v2) rfl (by kernel_rfl) (by kernel_rfl) (by kernel_rfl) (fun _ _ _ h => h) (Or.inl ⟨by rfl, ?hy2⟩) (by assumption) ?rest2
      case hy2 => (intro w hSw; (try dsimp only at hSw); go_simp; try with_reducible rfl)
      (try simp only [Act.put, List.setIfInBounds_toArray, List.set_cons_zero, List.set_cons_succ])
      refine held_take (i := 2) (v := ?v3) rfl (by kernel_rfl) (by kernel_rfl) (by kernel_rfl) (fun _ _ _ h => h) (Or.inl ⟨by rfl, ?hy3⟩) (by assumption) ?rest3
      case hy3 => (intro w hSw; (try dsimp only at hSw); go_simp; try with_reducible rfl)
      (try simp only [Act.put, List.setIfInBounds_toArray, List.set_cons_zero, List.set_cons_succ])
      refine held_take (i := 3) (v := ?v4) rfl (by kernel_rfl) (by kernel_rfl) (by kernel_rfl) (fun _ _ _ h => h) (Or.inl ⟨by rfl, ?hy4⟩) (by assumption) ?rest4
      case hy4 => (intro w hSw; (try dsimp only at hSw); go_simp; try with_reducible rfl)
      (try simp only [Act.put, List.setIfInBounds_toArray, List.set_cons_zero, List.set_cons_succ])
      refine held_take (i := 4) (v := ?v5) rfl (by kernel_rfl) (by kernel_rfl) (by kernel_rfl) (fun _ _ _ h => h) (Or.inl ⟨by rfl, ?hy5⟩) (by assumption) ?rest5
      case hy5 => (intro w hSw; (try dsimp only at hSw); go_simp; try with_reducible rfl)
      (try simp only [Act.put, List.setIfInBounds_toArray, List.set_cons_zero, List.set_cons_succ])
      refine held_take (i := 5) (v := ?v6) rfl (by kernel_rfl) (by kernel_rfl) (by kernel_rfl) (fun _ _ _ h => h) (Or.inl ⟨by rfl, ?hy6⟩) (by assumption) ?rest6
      case hy6 => (intro w hSw; (try dsimp only at hSw); go_simp; try with_reducible rfl)
      (try simp only [Act.put, List.setIfInBounds_toArray, List.set_cons_zero, List.set_cons_succ])
      refine wpAnyH_ready (rs := [6]) (by kernel_rfl) (by simp) ?_
      refine held_cons rfl (fun K hK => ?_) ?_
      · go_simp
        go_wp2_with (go_at_call 34; refine (((mapsOne_any bn n (valN l k) wB.drew hn1.1 hn1.2 (GNwB.out.drew.cell 0)).mono fun e w' h => is_int h)).mono ?_; rintro e v11 ⟨rfl, hb⟩)
        have GOv11 := Lib.hid (blk_call GOwB.out.drew hb)
        have GTv11 := Lib.hid (blk_call GTwB.out.drew hb)
        have GNv11 := Lib.hid (blk_call GNwB.out.drew hb)
        have GMv11 := Lib.hid (blk_call GMwB.out.drew hb)
        have GAv11 := Lib.hid (blk_call GAwB.out.drew hb)
        have CQv11 := Lib.hid (CQwB.out.drew.below hb)
        have HOWv11 := Lib.hid (own_up9 HOWwB.out.drew hb)
        have HKv11 := Lib.hid (HKwB.out.drew.below hb)
        have HHv11 := Lib.hid (HHwB.out.drew.below hb)
        have HGv11 := Lib.hid (HGwB.out.drew.below hb)
        have HFv11 := Lib.hid (HFwB.out.drew.below hb)
        have HTv11 := Lib.hid (HTwB.out.drew.below hb)
        have HBv11 := Lib.hid (bw_call (bw_drew HBwB.out) hb)
        clear hb
        refine hK.out _ _ ?_ (fun hHeld => ?_)
        · exact ⟨(GOv11.out.cell 0), (GTv11.out.cell 0), (GNv11.out.cell 0), (GMv11.out.cell 0), (CQv11.out.c)⟩
        clear hK K
        (try simp only [Act.put, List.setIfInBounds_toArray, List.set_cons_zero, List.set_cons_succ])
        refine held_take (i := 7) (v := ?v7) rfl (by kernel_rfl) (by kernel_rfl) (by kernel_rfl) (fun _ _ _ h => h) (Or.inl ⟨by rfl, ?hy7⟩) (by assumption) ?rest7
        case hy7 => (intro w hSw; (try dsimp only at hSw); go_simp; try with_reducible rfl)
        (try simp only [Act.put, List.setIfInBounds_toArray, List.set_cons_zero, List.set_cons_succ])
        refine held_take (i := 8) (v := ?v8) rfl (by kernel_rfl) (by kernel_rfl) (by kernel_rfl) (fun _ _ _ h => h) (Or.inl ⟨by rfl, ?hy8⟩) (by assumption) ?rest8
        case hy8 => (intro w hSw; (try dsimp only at hSw); go_simp; try with_reducible rfl)
        (try simp only [Act.put, List.setIfInBounds_toArray, List.set_cons_zero, List.set_cons_succ])
        refine held_take (i := 9) (v := ?v9) rfl (by kernel_rfl) (by kernel_rfl) (by kernel_rfl) (fun _ _ _ h => h) (Or.inl ⟨by rfl, ?hy9⟩) (by assumption) ?rest9
        case hy9 => (intro w hSw; (try dsimp only at hSw); go_simp; try with_reducible rfl)
        (try simp only [Act.put, List.setIfInBounds_toArray, List.set_cons_zero, List.set_cons_succ])
        refine held_take (i := 10) (v := ?v10) rfl (by kernel_rfl) (by kernel_rfl) (by kernel_rfl) (fun _ _ _ h => h) (Or.inl ⟨by rfl, ?hy10⟩) (by assumption) ?rest10
        case hy10 => (intro w hSw; (try dsimp only at hSw); go_simp; try with_reducible rfl)
        (try simp only [Act.put, List.setIfInBounds_toArray, List.set_cons_zero, List.set_cons_succ])
        refine held_take (i := 11) (v := ?v11) rfl (by kernel_rfl) (by kernel_rfl) (by kernel_rfl) (fun _ _ _ h => h) (Or.inl ⟨by rfl, ?hy11⟩) (by assumption) ?rest11
        case hy11 => (intro w hSw; (try dsimp only at hSw); go_simp; try with_reducible rfl)
        (try simp only [Act.put, List.setIfInBounds_toArray, List.set_cons_zero, List.set_cons_succ])
        refine held_take (i := 12) (v := ?v12) rfl (by kernel_rfl) (by kernel_rfl) (by kernel_rfl) (fun _ _ _ h => h) (Or.inl ⟨by rfl, ?hy12⟩) (by assumption) ?rest12
        case hy12 => (intro w hSw; (try dsimp only at hSw); go_simp; try with_reducible rfl)
        (try simp only [Act.put, List.setIfInBounds_toArray, List.set_cons_zero, List.set_cons_succ])
        refine held_take (i := 13) (v := ?v13) rfl (by kernel_rfl) (by kernel_rfl) (by kernel_rfl) (fun _ _ _ h => h) (Or.inl ⟨by rfl, ?hy13⟩) (by assumption) ?rest13
        case hy13 => (intro w hSw; (try dsimp only at hSw); go_simp; try with_reducible rfl)
        (try simp only [Act.put, List.setIfInBounds_toArray, List.set_cons_zero, List.set_cons_succ])
        refine held_take (i := 14) (v := ?v14) rfl (by kernel_rfl) (by kernel_rfl) (by kernel_rfl) (fun _ _ _ h => h) (Or.inl ⟨by rfl, ?hy14⟩) (by assumption) ?rest14
        case hy14 => (intro w hSw; (try dsimp only at hSw); go_simp; try with_reducible rfl)
        (try simp only [Act.put, List.setIfInBounds_toArray, List.set_cons_zero, List.set_cons_succ])
        refine held_take (i := 15) (v := ?v15) rfl (by kernel_rfl) (by kernel_rfl) (by kernel_rfl) (fun _ _ _ h => h) (Or.inl ⟨by rfl, ?hy15⟩) (by assumption) ?rest15
        case hy15 => (intro w hSw; (try dsimp only at hSw); go_simp; try with_reducible rfl)
        (try simp only [Act.put, List.setIfInBounds_toArray, List.set_cons_zero, List.set_cons_succ])
        refine held_take (i := 16) (v := ?v16) rfl (by kernel_rfl) (by kernel_rfl) (by kernel_rfl) (fun _ _ _ h => h) (Or.inl ⟨by rfl, ?hy16⟩) (by assumption) ?rest16
        case hy16 => (intro w hSw; (try dsimp only at hSw); go_simp; try with_reducible rfl)
        (try simp only [Act.put, List.setIfInBounds_toArray, List.set_cons_zero, List.set_cons_succ])
        refine wpAnyH_ready (rs := [17]) (by kernel_rfl) (by simp) ?_
        refine held_cons rfl (fun K hK => ?_) ?_
        · go_simp
          go_wp2_with (go_at_call 35; refine (mapsTwo_any gm b (Int.tmod (valN l k) n) v11 hb8 (GMv11.out.cell 0)).mono ?_; rintro e v12 ⟨rfl, hb⟩)
          have GOv12 := Lib.hid (blk_call GOv11.out hb)
          have GTv12 := Lib.hid (blk_call GTv11.out hb)
          have GNv12 := Lib.hid (blk_call GNv11.out hb)
          have GMv12 := Lib.hid (blk_call GMv11.out hb)
          have GAv12 := Lib.hid (blk_call GAv11.out hb)
          have CQv12 := Lib.hid (CQv11.out.below hb)
          have HOWv12 := Lib.hid (own_up9 HOWv11.out hb)
          have HKv12 := Lib.hid (HKv11.out.below hb)
          have HHv12 := Lib.hid (HHv11.out.below hb)
          have HGv12 := Lib.hid (HGv11.out.below hb)
          have HFv12 := Lib.hid (HFv11.out.below hb)
          have HTv12 := Lib.hid (HTv11.out.below hb)
          have HBv12 := Lib.hid (bw_call HBv11.out hb)
          clear hb GOv11 GTv11 GNv11 GMv11 GAv11 CQv11 HOWv11 HKv11 HHv11 HGv11 HFv11 HTv11 HBv11
          refine hK.out _ _ ?_ (fun hHeld => ?_)
          · exact ⟨(GOv12.out.cell 0), (GTv12.out.cell 0), (GNv12.out.cell 0), (GMv12.out.cell 0), (CQv12.out.c)⟩
          clear hK K
          (try simp only [Act.put, List.setIfInBounds_toArray, List.set_cons_zero, List.set_cons_succ])
          refine held_take (i := 18) (v := ?v17) rfl (by kernel_rfl) (by kernel_rfl) (by kernel_rfl) (fun _ _ _ h => h) (Or.inl ⟨by rfl, ?hy17⟩) (by assumption) ?rest17
          case hy17 => (intro w hSw; (try dsimp only at hSw); go_simp; try with_reducible rfl)
          (try simp only [Act.put, List.setIfInBounds_toArray, List.set_cons_zero, List.set_cons_succ])
          refine held_take (i := 19) (v := ?v18) rfl (by kernel_rfl) (by kernel_rfl) (by kernel_rfl) (fun _ _ _ h => h) (Or.inl ⟨by rfl, ?hy18⟩) (by assumption) ?rest18
          case hy18 => (intro w hSw; (try dsimp only at hSw); go_simp; try with_reducible rfl)
          (try simp only [Act.put, List.setIfInBounds_toArray, List.set_cons_zero, List.set_cons_succ])
          refine wpAnyH_done (by kernel_rfl) ?_ _
          go_wp2_with fail
          exact ⟨⟨k + 1, by omega, by go_num, HOWv12, HKv12, HHv12, HGv12, HFv12, GOv12, GNv12, GTv12, GAv12, GMv12, HTv12, HBv12⟩, by simp [intOf]; omega⟩
        exact AllReadyH.nil
      exact AllReadyH.nil
    · obtain rfl : n3 = k := by omega
      go_wp2_with fail
      go_loopw [26] (fun kv wr => ∃ v : Nat, v ≤ m ∧ kv = .int .i64 (v : Int) ∧ Hid (wr.ownsRow 0 3 1 (.slice Aw n3 cw) n3 (((List.range n3).map (valN l)).flatMap cellsI)) ∧ Hid (FAt wr 91 3 1 w.heap.size gf g Af cf n3 ((List.range n3).flatMap fun i => cellsI (valN l i))) ∧ Hid (FAt wr 91 3 1 BG gg g Ag cg n3 ((List.range n3).flatMap fun i => cellsI ((fun c => Int.tmod (valN l c) n) i))) ∧ Hid (FAt wr 99 9 1 BH gh g Ah ch n3 ((List.range n3).flatMap fun i => cellsS ((fun c => strOf b (Int.tmod (valN l c) n)) i))) ∧ Hid (Blk wr ga 24 #[.int .i64 (m : Int), .slice A T.length c]) ∧ Hid (TabN wr g m T) ∧ Hid (Below w.heap.size w wr)) (fun kv _ => m - (intOf kv).toNat)
      case atStart => exact ⟨0, by omega, rfl, HOWwB, HFwB, HGwB, HHwB, GAwB, HTwB, HBwB⟩
      case round =>
        obtain ⟨v, hv, rfl, HOWwD, HFwD, HGwD, HHwD, GAwD, HTwD, HBwD⟩ := hrel
        obtain ⟨wD, hwD⟩ : ∃ wD : World, wD = wr := ⟨_, rfl⟩
        rw [← hwD] at HOWwD HFwD HGwD HHwD GAwD HTwD HBwD ⊢
        clear hwD HOWwB HKwB HHwB HGwB HFwB GOwB GNwB GTwB GAwB GMwB HTwB HBwB
        obtain ⟨s0, s1, _, _, _⟩ := soup_facts GAwD.out
        by_cases hlt : v < m
        · have hvi : (v : Int) < (m : Int) := by omega
          have hmx := HTwD.out.s.m1
          obtain ⟨L, hRL⟩ := ringL_ex HTwD.out.s (v : Int)
          have HRL3 := Lib.hid hRL
          clear hRL
          obtain ⟨bf, hbf⟩ : ∃ x, decide ((valsL (valN l) L).length = 1) = x := ⟨_, rfl⟩
          obtain ⟨bg, hbg⟩ : ∃ x, decide ((valsL (fun c => Int.tmod (valN l c) n) L).length = 1) = x := ⟨_, rfl⟩
          obtain ⟨bh, hbh⟩ : ∃ x, decide ((valsL (fun c => strOf b (Int.tmod (valN l c) n)) L).length = 1) = x := ⟨_, rfl⟩
          have h1 : bf = true → bg = true := fun h => by rw [← hbg]; rw [← hbf] at h; exact decide_eq_true (valsL_still (fun x => Int.tmod x n) (of_decide_eq_true h))
          have h2 : bg = true → bh = true := fun h => by rw [← hbh]; rw [← hbg] at h; exact decide_eq_true (valsL_still (fun x => strOf b x) (of_decide_eq_true h))
          have SF : Hid (∀ W, FAt W 91 3 1 w.heap.size gf g Af cf n3 ((List.range n3).flatMap fun i => cellsI (valN l i)) → TabN W g m T → Calls Tryz.prog 29 #[.pointer (some ⟨gf, 0, none⟩), .int .i64 (v : Int)] W (BoolPost W bf)) := Lib.hid fun W h1 h2 => by
            have := smoothI_any gf g m w.heap.size T Af cf (valN l) v L W (by omega) (by rw [← HN3.out]; exact h1) h2 HRL3.out
            rw [hbf] at this; exact this
          have SG : Hid (∀ W, FAt W 91 3 1 BG gg g Ag cg n3 ((List.range n3).flatMap fun i => cellsI ((fun c => Int.tmod (valN l c) n) i)) → TabN W g m T → Calls Tryz.prog 29 #[.pointer (some ⟨gg, 0, none⟩), .int .i64 (v : Int)] W (BoolPost W bg)) := Lib.hid fun W h1 h2 => by
            have := smoothI_any gg g m BG T Ag cg (fun c => Int.tmod (valN l c) n) v L W (by omega) (by rw [← HN3.out]; exact h1) h2 HRL3.out
            rw [hbg] at this; exact this
          have SH : Hid (∀ W, FAt W 99 9 1 BH gh g Ah ch n3 ((List.range n3).flatMap fun i => cellsS ((fun c => strOf b (Int.tmod (valN l c) n)) i)) → TabN W g m T → Calls Tryz.prog 41 #[.pointer (some ⟨gh, 0, none⟩), .int .i64 (v : Int)] W (BoolPost W bh)) := Lib.hid fun W h1 h2 => by
            have := smoothS_any gh g m BH T Ah ch (fun c => strOf b (Int.tmod (valN l c) n)) v L W (by omega) (by rw [← HN3.out]; exact h1) h2 HRL3.out
            rw [hbh] at this; exact this
          clear hbf hbg hbh HRL3
          cases bf
          · cases bg
            · clear h1 h2
              go_wp2_with fail
              refine (SF.out _ HFwD.out HTwD.out).mono ?_
              rintro e u0 ⟨rfl, hb⟩
              have HFu0 := Lib.hid (HFwD.out.below hb)
              have HGu0 := Lib.hid (HGwD.out.below hb)
              have HHu0 := Lib.hid (HHwD.out.below hb)
              have HTu0 := Lib.hid (HTwD.out.below hb)
              have HOWu0 := Lib.hid (own_up9 HOWwD.out hb)
              have GAu0 := Lib.hid (blk_call GAwD.out hb)
              have HBu0 := Lib.hid (bw_call HBwD.out hb)
              clear hb HFwD HGwD HHwD HTwD HOWwD GAwD HBwD
              go_wp2_with fail
              refine (SG.out _ HGu0.out HTu0.out).mono ?_
              rintro e u1 ⟨rfl, hb⟩
              have HFu1 := Lib.hid (HFu0.out.below hb)
              have HGu1 := Lib.hid (HGu0.out.below hb)
              have HHu1 := Lib.hid (HHu0.out.below hb)
              have HTu1 := Lib.hid (HTu0.out.below hb)
              have HOWu1 := Lib.hid (own_up9 HOWu0.out hb)
              have GAu1 := Lib.hid (blk_call GAu0.out hb)
              have HBu1 := Lib.hid (bw_call HBu0.out hb)
              clear hb HFu0 HGu0 HHu0 HTu0 HOWu0 GAu0 HBu0
              go_wp2_with fail
              go_roundw
              case rel => exact ⟨v + 1, by omega, by go_num, HOWu1, HFu1, HGu1, HHu1, GAu1, HTu1, HBu1⟩
              case measure => simp [intOf]; omega
            · obtain rfl := h2 rfl
              clear h1 h2
              go_wp2_with fail
              refine (SF.out _ HFwD.out HTwD.out).mono ?_
              rintro e u0 ⟨rfl, hb⟩
              have HFu0 := Lib.hid (HFwD.out.below hb)
              have HGu0 := Lib.hid (HGwD.out.below hb)
              have HHu0 := Lib.hid (HHwD.out.below hb)
              have HTu0 := Lib.hid (HTwD.out.below hb)
              have HOWu0 := Lib.hid (own_up9 HOWwD.out hb)
              have GAu0 := Lib.hid (blk_call GAwD.out hb)
              have HBu0 := Lib.hid (bw_call HBwD.out hb)
              clear hb HFwD HGwD HHwD HTwD HOWwD GAwD HBwD
              go_wp2_with fail
              refine (SG.out _ HGu0.out HTu0.out).mono ?_
              rintro e u1 ⟨rfl, hb⟩
              have HFu1 := Lib.hid (HFu0.out.below hb)
              have HGu1 := Lib.hid (HGu0.out.below hb)
              have HHu1 := Lib.hid (HHu0.out.below hb)
              have HTu1 := Lib.hid (HTu0.out.below hb)
              have HOWu1 := Lib.hid (own_up9 HOWu0.out hb)
              have GAu1 := Lib.hid (blk_call GAu0.out hb)
              have HBu1 := Lib.hid (bw_call HBu0.out hb)
              clear hb HFu0 HGu0 HHu0 HTu0 HOWu0 GAu0 HBu0
              go_wp2_with fail
              refine (SH.out _ HHu1.out HTu1.out).mono ?_
              rintro e u2 ⟨rfl, hb⟩
              have HFu2 := Lib.hid (HFu1.out.below hb)
              have HGu2 := Lib.hid (HGu1.out.below hb)
              have HHu2 := Lib.hid (HHu1.out.below hb)
              have HTu2 := Lib.hid (HTu1.out.below hb)
              have HOWu2 := Lib.hid (own_up9 HOWu1.out hb)
              have GAu2 := Lib.hid (blk_call GAu1.out hb)
              have HBu2 := Lib.hid (bw_call HBu1.out hb)
              clear hb HFu1 HGu1 HHu1 HTu1 HOWu1 GAu1 HBu1
              go_wp2_with fail
              go_roundw
              case rel => exact ⟨v + 1, by omega, by go_num, HOWu2, HFu2, HGu2, HHu2, GAu2, HTu2, HBu2⟩
              case measure => simp [intOf]; omega
          · obtain rfl := h1 rfl
            obtain rfl := h2 rfl
            clear h1 h2
            go_wp2_with fail
            refine (SF.out _ HFwD.out HTwD.out).mono ?_
            rintro e u0 ⟨rfl, hb⟩
            have HFu0 := Lib.hid (HFwD.out.below hb)
            have HGu0 := Lib.hid (HGwD.out.below hb)
            have HHu0 := Lib.hid (HHwD.out.below hb)
            have HTu0 := Lib.hid (HTwD.out.below hb)
            have HOWu0 := Lib.hid (own_up9 HOWwD.out hb)
            have GAu0 := Lib.hid (blk_call GAwD.out hb)
            have HBu0 := Lib.hid (bw_call HBwD.out hb)
            clear hb HFwD HGwD HHwD HTwD HOWwD GAwD HBwD
            go_wp2_with fail
            refine (SG.out _ HGu0.out HTu0.out).mono ?_
            rintro e u1 ⟨rfl, hb⟩
            have HFu1 := Lib.hid (HFu0.out.below hb)
            have HGu1 := Lib.hid (HGu0.out.below hb)
            have HHu1 := Lib.hid (HHu0.out.below hb)
            have HTu1 := Lib.hid (HTu0.out.below hb)
            have HOWu1 := Lib.hid (own_up9 HOWu0.out hb)
            have GAu1 := Lib.hid (blk_call GAu0.out hb)
            have HBu1 := Lib.hid (bw_call HBu0.out hb)
            clear hb HFu0 HGu0 HHu0 HTu0 HOWu0 GAu0 HBu0
            go_wp2_with fail
            refine (SG.out _ HGu1.out HTu1.out).mono ?_
            rintro e u2 ⟨rfl, hb⟩
            have HFu2 := Lib.hid (HFu1.out.below hb)
            have HGu2 := Lib.hid (HGu1.out.below hb)
            have HHu2 := Lib.hid (HHu1.out.below hb)
            have HTu2 := Lib.hid (HTu1.out.below hb)
            have HOWu2 := Lib.hid (own_up9 HOWu1.out hb)
            have GAu2 := Lib.hid (blk_call GAu1.out hb)
            have HBu2 := Lib.hid (bw_call HBu1.out hb)
            clear hb HFu1 HGu1 HHu1 HTu1 HOWu1 GAu1 HBu1
            go_wp2_with fail
            refine (SH.out _ HHu2.out HTu2.out).mono ?_
            rintro e u3 ⟨rfl, hb⟩
            have HFu3 := Lib.hid (HFu2.out.below hb)
            have HGu3 := Lib.hid (HGu2.out.below hb)
            have HHu3 := Lib.hid (HHu2.out.below hb)
            have HTu3 := Lib.hid (HTu2.out.below hb)
            have HOWu3 := Lib.hid (own_up9 HOWu2.out hb)
            have GAu3 := Lib.hid (blk_call GAu2.out hb)
            have HBu3 := Lib.hid (bw_call HBu2.out hb)
            clear hb HFu2 HGu2 HHu2 HTu2 HOWu2 GAu2 HBu2
            go_wp2_with fail
            go_roundw
            case rel => exact ⟨v + 1, by omega, by go_num, HOWu3, HFu3, HGu3, HHu3, GAu3, HTu3, HBu3⟩
            case measure => simp [intOf]; omega
        · obtain rfl : m = v := by omega
          go_wp2_with fail
          rcases Nat.eq_zero_or_pos n3 with hn0 | hn0
          · have hsa : Hid (Calls Tryz.prog 31 #[.pointer (some ⟨gg, 0, none⟩), .int .i64 0, .int .i64 77] wD (IsPost wD (.int .i64 2))) := Lib.hid (setI_out gg g n3 BG Ag cg _ 0 77 wD (by omega) (.inr (by omega)) HGwD.out)
            refine hsa.out.mono ?_
            rintro e w' ⟨rfl, hw⟩
            replace hw := hw.symm
            subst hw
            clear hsa hn0 s0 s1
            go_wp2_with fail
            refine (allF_any gf g w.heap.size n3 Af cf (valN l) wD (by omega) HFwD.out).mono ?_
            rintro e x1 ⟨Aq, cq, rfl, hown, hb⟩
            rw [hlm] at hown
            rw [hlm]
            have HQ8 := Lib.hid (Reads.of_own hown)
            have HW8 := Lib.hid (own_up9 HOWwD.out hb)
            have HB8 := Lib.hid (bw_call HBwD.out hb)
            clear hown hb HOWwD HBwD HFwD
            go_wp2_with fail
            refine (refInts_any ((List.range n3).map (valN l)) Aq Aw n3 cq cw x1 (by omega) (by rw [← cellsI_zl]; exact HQ8.out) (by rw [← cellsI_zl]; exact Reads.of_own HW8.out)).mono ?_
            rintro e x2 ⟨rfl, hb⟩
            have HB9 := Lib.hid (bw_call HB8.out hb)
            clear hb HB8 HW8 HQ8
            go_wp2_with fail
            go_ret
            exact ⟨rfl, HB9.out⟩
          · obtain ⟨gr, rfl, _, _, _, _⟩ := own_pt HGwD.out.r hn0
            obtain ⟨d1, d2, d3, d4⟩ := HDF.out gr rfl hn0
            refine (setI_in gg g n3 BG gr cg _ 0 77 wD (by omega) hn0 HGwD.out).mono ?_
            rintro e wE ⟨rfl, rfl⟩
            have HFwE : Hid (FAt (wD.setCell ⟨gr, 0, none⟩ (.int .i64 77)) 91 3 1 w.heap.size gf g Af cf n3 ((List.range n3).flatMap fun i => cellsI (valN l i))) :=
              Lib.hid ⟨HFwD.out.b.far (p := ⟨gr, 0, none⟩) d2 _, own_off HFwD.out.r hn0 d3 _, HFwD.out.g0⟩
            have HOWwE := Lib.hid (own_off HOWwD.out hn0 d4 (.int .i64 77))
            have HBwE := Lib.hid (HBwD.out.setCell (p := ⟨gr, 0, none⟩) d1 (.int .i64 77))
            generalize wD.setCell ⟨gr, 0, none⟩ (.int .i64 77) = wE at *
            clear HFwD HGwD HHwD HOWwD GAwD HTwD HBwD s0 s1 d1 d2 d3 d4 hn0 HDF HFL
            go_wp2_with fail
            refine (allF_any gf g w.heap.size n3 Af cf (valN l) wE (by omega) HFwE.out).mono ?_
            rintro e x1 ⟨Aq, cq, rfl, hown, hb⟩
            rw [hlm] at hown
            rw [hlm]
            have HQ8 := Lib.hid (Reads.of_own hown)
            have HW8 := Lib.hid (own_up9 HOWwE.out hb)
            have HB8 := Lib.hid (bw_call HBwE.out hb)
            clear hown hb HOWwE HBwE HFwE
            go_wp2_with fail
            refine (refInts_any ((List.range n3).map (valN l)) Aq Aw n3 cq cw x1 (by omega) (by rw [← cellsI_zl]; exact HQ8.out) (by rw [← cellsI_zl]; exact Reads.of_own HW8.out)).mono ?_
            rintro e x2 ⟨rfl, hb⟩
            have HB9 := Lib.hid (bw_call HB8.out hb)
            clear hb HB8 HW8 HQ8
            go_wp2_with fail
            go_ret
            exact ⟨rfl, HB9.out⟩
end Go.Proofs.YtbdicndkkenbgaaGreat
