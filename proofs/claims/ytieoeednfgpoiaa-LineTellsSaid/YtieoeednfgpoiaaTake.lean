/- What an inbox is in memory; the contract of Take. No condition. -/
import Derived.Test.YtieoeednfgpoiaaSend
namespace Go.Proofs.Ytieoeednfgpoiaa
open Go.RowKit


/-- What an inbox has taken: number and bytes; the greatest number. -/
structure IS where
  took : List (Int × List UInt8)
  last : Int

def IS.has (t : IS) (x : Int) : Prop := ∃ p ∈ t.took, p.1 = x
instance (t : IS) (x : Int) : Decidable (t.has x) := by unfold IS.has; infer_instance
def IS.take (t : IS) (x : Int) (d : List UInt8) : IS := if x < 0 ∨ t.has x then t else ⟨t.took ++ [(x, d)], max t.last x⟩

def TookIs (w : World) (base : Nat) (l : List (Int × List UInt8)) (fm : Int → Option Value) : Prop :=
  ∀ x, (∀ p ∈ l, p.1 = x → ∃ A c, fm x = some (.slice A p.2.length c) ∧ w.ownsRow base 5 1 (.slice A p.2.length c) p.2.length (B8 p.2)) ∧ ((∀ p ∈ l, p.1 ≠ x) → fm x = none)

/-- An inbox in memory. ob: its map's block. -/
structure InAt (w : World) (base g : Nat) (ob : Option Nat) (fm : Int → Option Value) (t : IS) : Prop where
  g1 : base ≤ g
  blk : Blk w g 48 #[.map ob, .int .i64 t.last]
  map : (ob = none ∧ t.took = []) ∨ ∃ b, ob = some b ∧ base ≤ b ∧ MapI Try.prog 3 w b t.took.length fm
  took : TookIs w base t.took fm

section
variable {w w' : World} {base g : Nat} {ob : Option Nat} {fm : Int → Option Value} {t : IS}
theorem TookIs.same {l : List (Int × List UInt8)} (h : TookIs w base l fm) (hk : ∀ k cs, Blk w k 5 cs → w'.heap[k]? = w.heap[k]?) : TookIs w' base l fm := fun x => by
  obtain ⟨h1, h2⟩ := h x
  refine ⟨fun p hp hx => ?_, h2⟩
  obtain ⟨A, c, e, ho⟩ := h1 p hp hx
  refine ⟨A, c, e, own_same ho fun k hk' => ?_⟩
  obtain ⟨cs, hb⟩ := own_blk ho hk'
  exact hk k cs hb
theorem InAt.only {F : Nat → Prop} (h : InAt w base g ob fm t) (ho : Only F w w') (hF : ∀ k, F k → k ≠ g ∧ ob ≠ some k ∧ ∀ cs, ¬ Blk w k 5 cs) : InAt w' base g ob fm t :=
  ⟨h.g1, h.blk.only ho fun e => (hF _ e).1 rfl, by
    rcases h.map with h1 | ⟨b, rfl, hb, hm⟩
    · exact .inl h1
    · exact .inr ⟨b, rfl, hb, hm.only ho fun e => (hF _ e).2.1 rfl⟩, h.took.same fun k cs hb => ho.block k hb.lt fun e => (hF k e).2.2 cs hb⟩
theorem InAt.below (h : InAt w base g ob fm t) (hb : Below w.heap.size w w') : InAt w' base g ob fm t := h.only (Only.of_below hb fun _ => False) fun _ e => e.elim
theorem InAt.drewN (h : InAt w base g ob fm t) (n : Nat) : InAt (w.drewN n) base g ob fm t := h.only ((Only.refl (fun _ => False) w).drewN n) fun _ e => e.elim

theorem tookIs_put {l : List (Int × List UInt8)} {x : Int} {d : List UInt8} {A : Option Addr} {c : Nat} (h : TookIs w base l fm) (hd : w.ownsRow base 5 1 (.slice A d.length c) d.length (B8 d)) (hn : ∀ p ∈ l, p.1 ≠ x) :
    TookIs w base (l ++ [(x, d)]) (fun y => if y = x then some (.slice A d.length c) else fm y) := by
  intro y
  obtain ⟨h1, h2⟩ := h y
  refine ⟨fun p hp hx => ?_, fun ha => ?_⟩
  · rcases List.mem_append.1 hp with hp | hp
    · have hne : ¬ y = x := by rw [← hx]; exact hn p hp
      simp only [if_neg hne]
      exact h1 p hp hx
    · obtain rfl : p = (x, d) := by simpa using hp
      have hx' : y = x := hx.symm
      simp only [if_pos hx']
      exact ⟨A, c, rfl, hd⟩
  · have hne : ¬ y = x := fun e => ha (x, d) (by simp) e.symm
    simp only [if_neg hne]
    exact h2 fun p hp => ha p (List.mem_append_left _ hp)
end

set_option maxHeartbeats 400000 in
theorem take_nil (x : Value) (a : Value) (w : World) : Calls Try.prog 21 #[.pointer none, .agg #[a, x]] w fun e w' => e = .returned (.tuple #[]) ∧ Below w.heap.size w w' := by
  go_enter Try.func21, Try.ntmps21
  go_wp2
  refine bodyPost_ret (results_none rfl _ _ _) rfl ?_
  exact ⟨rfl, (Below.refl _ _).alloc (Nat.le_refl _) _⟩

def TakePost (base g : Nat) (ob : Option Nat) (t : IS) (x : Int) (d : List UInt8) (w : World) (e : Ending) (w' : World) : Prop :=
  e = .returned (.tuple #[]) ∧ ∃ ob' fm', InAt w' base g ob' fm' (t.take x d) ∧ Only (fun k => k = g ∨ ob = some k) w w' ∧ (ob' = ob ∨ ∀ k, ob' = some k → w.heap.size ≤ k)

def MapThere (base g pb : Nat) (ob : Option Nat) (t : IS) (w : World) (q : Array Value) (wc : World) : Prop :=
  ∃ b fm, InAt wc base g (some b) fm t ∧ Blk wc pb 42 q ∧ Only (fun k => k = g ∨ ob = some k) w wc ∧ (ob = some b ∨ w.heap.size ≤ b)

theorem TM.three0 {bw : Nat} {W w : World} (h : TM bw W w) {g pb : Nat} (h1 : g ≠ bw) (h2 : pb ≠ bw) {x y z : Value} (c6 : W.cell? ⟨g, 0, none⟩ = some x) (p0 : W.cell? ⟨pb, 0, none⟩ = some y) (p1 : W.cell? ⟨pb, 1, none⟩ = some z) :
    w.cell? ⟨g, 0, none⟩ = some x ∧ w.cell? ⟨pb, 0, none⟩ = some y ∧ w.cell? ⟨pb, 1, none⟩ = some z ∧ TM bw W w :=
  ⟨(Only.cell h (p := ⟨g, 0, none⟩) (World.block_lt_of_cell? W _ c6) h1).trans c6, (Only.cell h (p := ⟨pb, 0, none⟩) (World.block_lt_of_cell? W _ p0) h2).trans p0,
    (Only.cell h (p := ⟨pb, 1, none⟩) (World.block_lt_of_cell? W _ p1) h2).trans p1, h⟩
theorem TM.ofB {bw : Nat} {W w : World} (h : TB W w) : TM bw W w := Only.of_below h _

/-- Behind the map's store. -/
def TakeMid (base g b : Nat) (t : IS) (x : Int) (d : List UInt8) (W w : World) : Prop :=
  ∃ fm, Blk w g 48 #[.map (some b), .int .i64 t.last] ∧ MapI Try.prog 3 w b (t.took.length + 1) fm ∧ TookIs w base (t.took ++ [(x, d)]) fm ∧ Only (fun k => k = b) W w

theorem ob_of {ob : Option Nat} {b N : Nat} (h : ob = some b ∨ N ≤ b) : some b = ob ∨ ∀ k, some b = some k → N ≤ k := by
  rcases h with h | h
  · exact .inl h.symm
  · exact .inr fun k e => by injection e with e; omega

theorem take_fin {base g b : Nat} {ob : Option Nat} {t : IS} {x u : Int} {d : List UInt8} {w W2 wx : World} {fm1 fm3 : Int → Option Value} (hu : u = max t.last x) (hx0 : ¬ x < 0) (hin : ¬ t.has x) (ho1 : ob = some b ∨ w.heap.size ≤ b)
    (o2 : Only (fun k => k = g ∨ ob = some k) w W2) (h2 : InAt W2 base g (some b) fm1 t) (b3 : Blk wx g 48 #[.map (some b), .int .i64 t.last]) (m3 : MapI Try.prog 3 wx b (t.took.length + 1) fm3) (t3 : TookIs wx base (t.took ++ [(x, d)]) fm3)
    (o3 : Only (fun k => k = b) W2 wx) (hbb : base ≤ b) : TakePost base g ob t x d w (.returned (.tuple #[])) (wx.setCell ⟨g, 1, none⟩ (.int .i64 u)).drew := by
  have hne : g ≠ b := fun e => m3.ne_blk b3 e.symm
  have b4 := b3.set_ 1 (.int .i64 u)
  refine ⟨rfl, some b, fm3, ⟨h2.g1, ?_, .inr ⟨b, rfl, hbb, ?_⟩, ?_⟩, ?_, ob_of ho1⟩
  · have e : t.take x d = ⟨t.took ++ [(x, d)], u⟩ := by
      unfold IS.take
      rw [if_neg (by rintro (h | h); exact hx0 h; exact hin h), hu]
    rw [e]
    refine Blk.drew ?_
    simpa using b4
  · have e : (t.take x d).took.length = t.took.length + 1 := by
      unfold IS.take
      rw [if_neg (by rintro (h | h); exact hx0 h; exact hin h)]
      simp
    rw [e]
    exact (m3.setCell (b3.cell 1) _).drew
  · have e : (t.take x d).took = t.took ++ [(x, d)] := by
      unfold IS.take
      rw [if_neg (by rintro (h | h); exact hx0 h; exact hin h)]
    rw [e]
    exact t3.same fun k cs hb => Below.heap_setCell _ _ _ _ (hb.ne_ b3 (by decide))
  · refine ((o2.trans_ o3 fun k hk e => ?_).setCell (.inl (.inl rfl)) _).drew
    have e' : k = b := e
    subst e'
    rcases ho1 with e1 | e1
    · exact .inr e1
    · omega

theorem run_eql_map_nil' (b : Option Nat) : ∀ w, Sem.run Try.prog (binOp .eql 46 (.map b) (.map none)) w = .ok (.bool b.isNone) w := by
  intro w
  cases b <;> kernel_rfl

set_option maxRecDepth 100000 in
set_option maxHeartbeats 1000000 in
theorem take_any (g base : Nat) (ob : Option Nat) (fm : Int → Option Value) (t : IS) (x : Int) (A : Option Addr) (n c : Nat) (d : List UInt8) (w : World) (h : InAt w base g ob fm t) (hdl : d.length = n)
    (hr : ∀ W, Only (fun k => k = g ∨ ob = some k) w W → Reads W W.heap.size 1 A n (B8 d))
    (hx1 : -9223372036854775808 ≤ x) (hx2 : x ≤ 9223372036854775807) (hd : n ≤ 100000000) (hl : t.took.length ≤ 1000000) :
    Calls Try.prog 21 #[.pointer (some ⟨g, 0, none⟩), .agg #[.int .i64 x, .slice A n c]] w (TakePost base g ob t x d w) := by
  have c0 := h.blk.cell 0
  have f0 := h.blk.frozen 0
  simp at c0
  have hg := h.blk.lt
  have hbase : base ≤ w.heap.size := Nat.le_of_lt (Nat.lt_of_le_of_lt h.g1 hg)
  have H := Lib.hid h
  have HR := Lib.hid hr
  clear h hr
  have hmm := @run_makeMap Try.prog
  by_cases hx0 : x < 0
  · go_enter Try.func21, Try.ntmps21
    go_wp2
    refine bodyPost_ret (results_none rfl _ _ _) rfl ?_
    refine ⟨rfl, ob, fm, ?_, (Only.refl _ _).alloc _, .inl rfl⟩
    unfold IS.take
    rw [if_pos (.inl hx0)]
    exact H.out.below ((Below.refl _ _).alloc (Nat.le_refl _) _)
  · go_enter Try.func21, Try.ntmps21
    have hq := run_eql_map_nil'
    go_upto_if 17 with (fail)
    go_cut [] (fun wc => MapThere base g w.heap.size ob t w #[.int .i64 x, .slice A n c] wc)
    case first =>
      cases ob with
      | none =>
        go_wp2_with (fail)
        go_meet
        have ht : t.took = [] := by
          rcases H.out.map with ⟨_, e⟩ | ⟨b, e, _⟩
          · exact e
          · cases e
        refine ⟨w.heap.size + 1, fun _ => none, ⟨H.out.g1, ?_, .inr ⟨_, rfl, by omega, ?_⟩, ?_⟩, ?_, ?_, .inr (by omega)⟩
        · have := ((H.out.blk.set_ 0 (.map (some (w.heap.size + 1)))).alloc (.cells #[.int .i64 x, .slice A n c] 42)).alloc (.map #[] 0)
          simpa using this
        · rw [ht]; exact MapI.made_ Try.prog 3 (by simp)
        · rw [ht]; exact fun y => ⟨fun p hp => by simp at hp, fun _ => rfl⟩
        · exact (Blk.new_ (by simp) _ _).alloc _
        · exact (((Only.refl _ w).setCell (p := ⟨g, 0, none⟩) (.inl (.inl rfl)) _).alloc _).alloc _
      | some b =>
        go_wp2_with (fail)
        go_meet
        exact ⟨b, fm, H.out.below ((Below.refl _ _).alloc (Nat.le_refl _) _), Blk.new _ _ _, (Only.refl _ _).alloc _, .inl rfl⟩
    case rest =>
      obtain ⟨b, fm1, h1, hp1, o1, ho1⟩ := hcut
      have hxw : (Lit.int .i64 x).wf = true := WalkArith.wf_i64 (by omega)
      obtain ⟨b', hb', hbb, hm⟩ : ∃ b', some b = some b' ∧ base ≤ b' ∧ MapI Try.prog 3 wc b' t.took.length fm1 := by
        rcases h1.map with ⟨e, _⟩ | h'
        · cases e
        · exact h'
      obtain rfl : b = b' := by injection hb'
      have hlook0 := fun n => (hm.drewN n).look (x := x) (z := .slice none 0 0) Try.underlying3 Try.underlying46 (by kernel_rfl) hxw true
      have c1 := h1.blk.cell 0
      have c2 := h1.blk.cell 1
      have p0 := hp1.cell 0
      have p1 := hp1.cell 1
      have f1 := h1.blk.frozen 0
      have f2 := h1.blk.frozen 1
      simp at c1 c2 p0 p1
      have hgc := h1.blk.lt
      have H1 := Lib.hid h1
      have P1 := Lib.hid hp1
      have O1 := Lib.hid o1
      have HO1 := Lib.hid ho1
      have HM := Lib.hid hm
      clear h1 hp1 o1 ho1 hm c0 f0 hq hmm
      by_cases hin : t.has x
      · have hlook : ∃ v, ∀ n, Sem.run Try.prog (Instr.lookup 46 (.map (some b)) (.int .i64 x) true) (wc.drewN n) = .ok (.tuple #[v, .bool true]) (wc.drewN n) := by
          obtain ⟨p, hp, hpx⟩ := hin
          obtain ⟨A', c', e, _⟩ := (H1.out.took x).1 p hp hpx
          refine ⟨.slice A' p.2.length c', fun n => ?_⟩
          rw [hlook0 n, e]; rfl
        obtain ⟨v, hlook⟩ := hlook
        clear hlook0
        go_upto_region 4 with (fail)
        go_quiet (fail)
        go_wp2
        refine bodyPost_end (results_none rfl _ _ _) rfl ?_
        refine ⟨rfl, some b, fm1, ?_, O1.out.drewN _, ob_of HO1.out⟩
        unfold IS.take
        rw [if_pos (.inr hin)]
        exact H1.out.drewN _
      · have hno : fm1 x = none := (H1.out.took x).2 fun p hp e => hin ⟨p, hp, e⟩
        have hlook : ∀ n, Sem.run Try.prog (Instr.lookup 46 (.map (some b)) (.int .i64 x) true) (wc.drewN n) = .ok (.tuple #[.slice none 0 0, .bool false]) (wc.drewN n) := by
          intro n
          rw [hlook0 n, hno]; rfl
        clear hlook0
        have HNO := Lib.hid hno
        have HIN := Lib.hid hin
        clear hno hin
        go_upto_region 4 with (fail)
        go_quiet (fail)
        go_upto_region 6 with (fail)
        generalize hnq : wc.drewN _ = W2
        have h2 : InAt W2 base g (some b) fm1 t := hnq ▸ H1.out.drewN _
        have p2 : Blk W2 w.heap.size 42 #[.int .i64 x, .slice A n c] := hnq ▸ P1.out.drewN _
        have o2 : Only (fun k => k = g ∨ ob = some k) w W2 := hnq ▸ O1.out.drewN _
        have m2 : MapI Try.prog 3 W2 b t.took.length fm1 := hnq ▸ HM.out.drewN _
        clear hnq c1 c2 p0 p1 f1 f2 hlook
        have c1 := h2.blk.cell 0
        have c2 := h2.blk.cell 1
        have p0 := p2.cell 0
        have p1 := p2.cell 1
        have f2 := h2.blk.frozen 1
        simp at c1 c2 p0 p1
        have hclone : ∀ W', TB W2 W' → Calls Try.prog 25 #[.slice A n c] W' fun e w' => ∃ A c, e = .returned (.slice A n c) ∧ w'.ownsRow W2.heap.size 5 1 (.slice A n c) n (B8 d) ∧ Below W'.heap.size W' w' := by
          intro W' hT
          have hr : Reads W2 W2.heap.size 1 A n (B8 d) := HR.out W2 o2
          refine (clone_any A n c _ W' ((hr.below hT).more (Below.size hT)) (B8_oneCell _) (by omega)).mono fun e w' ⟨dv, he, hd, hb, _⟩ => ?_
          obtain ⟨A, c, rfl, _⟩ := own_form hd
          exact ⟨A, c, he, own_mono hd (Below.size hT), hb⟩
        have hst : ∀ W' v, TB W2 W' → ∃ es' ck', (Instr.mapUpdate 46 (.map (some b)) (.int .i64 x) v).run Try.prog W' = .ok () (ChangeMaps.setBlock W' b (.map es' ck')) ∧
            MapI Try.prog 3 (ChangeMaps.setBlock W' b (.map es' ck')) b (t.took.length + 1) (fun y => if y = x then some v else fm1 y) := by
          intro W' v hT
          obtain ⟨es', ck', a1, a2⟩ := (m2.below hT m2.lt).store Try.underlying3 Try.underlying46 (by simp only [maxLen]; omega) hxw v
          rw [HNO.out] at a2
          exact ⟨es', ck', a1, a2⟩
        have hbase2 : base ≤ W2.heap.size := Nat.le_trans hbase o2.size
        have hgb : g ≠ b := fun e => m2.ne_blk h2.blk e.symm
        have hpb : w.heap.size ≠ b := fun e => m2.ne_blk p2 e.symm
        have HC := Lib.hid hclone
        have HST := Lib.hid hst
        have HGB := Lib.hid hgb
        have HPB := Lib.hid hpb
        have H2 := Lib.hid h2
        have O2 := Lib.hid o2
        have M2 := Lib.hid m2
        have TM2 := TM.refl b W2
        have TB2 := TB.refl W2
        clear hclone hst hgb hpb h2 o2 m2 hxw p2
        go_cut [] (fun wx => TakeMid base g b t x d W2 wx)
        case first =>
          go_region_held3 (fun w' => w'.cell? ⟨g, 0, none⟩ = some (.map (some b)) ∧ w'.cell? ⟨w.heap.size, 0, none⟩ = some (.int .i64 x) ∧ w'.cell? ⟨w.heap.size, 1, none⟩ = some (.slice A n c) ∧ TM b W2 w')
            (first | exact TM.three0 (TM.drew TM2) HGB.out HPB.out c1 p0 p1 | exact TM.three0 (TM.ofB (TB.call (TB.drew TB2) hb3)) HGB.out HPB.out c1 p0 p1 | exact TM.three0 (TM.setb (TM.ofB (TB.call (TB.drew TB2) hb3)) _) HGB.out HPB.out c1 p0 p1)
            (first | (go_at_call 25; refine (HC.out _ (TB.drew TB2)).mono ?_; rintro e w3 ⟨A3, cap3, rfl, hd3, hb3⟩; obtain ⟨es3, ck3, hst3, hm3⟩ := HST.out w3 (.slice A3 n cap3) (TB.call (TB.drew TB2) hb3)))
          go_wp2_with fail
          go_meet
          have b23 : Below W2.heap.size W2 w3 := TB.call (TB.drew TB2) hb3
          have hne : ∀ k cs tt, Blk w3 k tt cs → k ≠ b := fun k cs tt hb e => (M2.out.below b23 M2.out.lt).ne_blk hb e.symm
          subst hdl
          refine ⟨fun y => if y = x then some (.slice A3 d.length cap3) else fm1 y, ?_, hm3, ?_, ?_⟩
          · exact (H2.out.below b23).blk.setBlock HGB.out _
          · have tk := tookIs_put (H2.out.below b23).took (own_mono hd3 hbase2) (fun p hp e => HIN.out ⟨p, hp, e⟩)
            exact tk.same fun k cs hb => heap_setBlock_ne _ _ _ (hne k cs 5 hb)
          · exact (Only.of_below b23 (fun k => k = b)).setBlock (.inl rfl) _
        case rest =>
          obtain ⟨fm3, b3, m3, tk3, o3⟩ := hcut
          have c1' := b3.cell 1
          have f1' := b3.frozen 1
          have p0' := (o3.cell (p := ⟨w.heap.size, 0, none⟩) (World.block_lt_of_cell? W2 _ p0) HPB.out).trans p0
          simp at c1'
          have B3 := Lib.hid b3
          have M3 := Lib.hid m3
          have T3 := Lib.hid tk3
          have O3 := Lib.hid o3
          clear b3 m3 tk3 o3 c1 c2 p0 p1 f2
          by_cases hlt : t.last < x
          · go_upto_region 7 with (fail)
            go_region
            all_goals go_wp2
            refine bodyPost_end (results_none rfl _ _ _) rfl ?_
            exact take_fin (by omega) (by omega) HIN.out HO1.out O2.out H2.out B3.out M3.out T3.out O3.out (by omega)
          · go_upto_region 7 with (fail)
            go_region
            all_goals go_wp2
            refine bodyPost_end (results_none rfl _ _ _) rfl ?_
            exact take_fin (by omega) (by omega) HIN.out HO1.out O2.out H2.out B3.out M3.out T3.out O3.out (by omega)
end Go.Proofs.Ytieoeednfgpoiaa
