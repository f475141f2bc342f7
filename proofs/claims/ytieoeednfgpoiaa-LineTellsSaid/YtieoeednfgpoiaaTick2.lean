/- The contract of Tick, and where the bytes that wait lie behind it. No condition. -/
import Derived.Test.YtieoeednfgpoiaaTick
namespace Go.Proofs.Ytieoeednfgpoiaa
open Go.RowKit

/-- What waits lies where it did, or in a new block. -/
def Newer (w : World) (wv wv' : Value) : Prop := wv'.ownBlock = wv.ownBlock ∨ ∀ k, wv'.ownBlock = some k → w.heap.size ≤ k
def PutIs2 (base g bl bw : Nat) (wv : Value) (s : LS) (w w' : World) : Prop := ∃ wv' fw, LineAt w' base g bl bw wv' fw s.put ∧ TickOnly g bw w w' ∧ Newer w wv wv'
def TickPost2 (base g bl bw : Nat) (wv : Value) (s : LS) (w : World) (e : Ending) (w' : World) : Prop :=
  ∃ v wv' fw', e = .returned v ∧ LineAt w' base g bl bw wv' fw' s.tick ∧ OutIs w' base v s.out ∧ TickOnly g bw w w' ∧ Newer w wv wv'
set_option maxHeartbeats 1000000 in
set_option maxRecDepth 100000 in
theorem tick_any2 (g bl bw base : Nat) (wv : Value) (fw : Int → Option Value) (s : LS) (w : World) (h : LineAt w base g bl bw wv fw s) (ok : s.Ok) :
    Calls Try.prog 16 #[.pointer (some ⟨g, 0, none⟩)] w (TickPost2 base g bl bw wv s w) := by
  obtain ⟨i5, hi5, _, hz5, _⟩ := info_parts u8_info
  obtain ⟨c0, c1, c2, c3, c4, c5, c6, ff⟩ := h.cells
  have f2 := ff 2
  have hnow := ok.now2
  have hnow1 := ok.now1
  have H := Lib.hid h
  have OK := Lib.hid ok
  clear h ok c0 c1 c3 c4 c5 c6 ff
  go_enter Try.func16, Try.ntmps16
  go_wp2
  have h1 : LineAt (w.setCell ⟨g, 2, none⟩ (.int .i64 (s.now + 1))) base g bl bw wv fw { s with now := s.now + 1 } :=
    H.out.setg 2 _ rfl rfl rfl H.out.wait H.out.wayIs
  have o1 : TickOnly g bw w (w.setCell ⟨g, 2, none⟩ (.int .i64 (s.now + 1))) := (Only.refl _ _).setCell (.inl (.inl rfl)) _
  generalize w.setCell ⟨g, 2, none⟩ (.int .i64 (s.now + 1)) = W1 at *
  clear c2 f2
  obtain ⟨c0, c1, c2, c3, c4, c5, c6, ff⟩ := h1.cells
  simp only at c0 c1 c2 c3
  obtain ⟨wa, wcap, hwv, hwc⟩ := own_form H.out.wait
  obtain ⟨m, hm, hm0, hmw⟩ : ∃ m : Nat, (if (s.wait.length : Int) < s.rate then (s.wait.length : Int) else s.rate) = (m : Int) ∧ m = s.len ∧ m ≤ s.wait.length := by
    refine ⟨s.len, ?_, rfl, Nat.min_le_right _ _⟩
    unfold LS.len
    have := OK.out.rate1
    split <;> omega
  have hwl := OK.out.wait
  have hr1 := OK.out.rate1
  rw [hwv] at c5
  have HM := Lib.hid hm0
  have HV := Lib.hid hwv
  have H1 := Lib.hid h1
  have O1 := Lib.hid o1
  have HMM := Lib.hid hm
  have f3 := ff 3
  have f5 := ff 5
  clear hm0 hwv h1 o1 hm ff
  go_quiet (fail)
  rw [HMM.out]
  go_upto_if 27 with (fail)
  clear c0 c1 c2 c3 c4 c5 c6 f3 f5
  go_cut [] (fun wc => PutIs2 base g bl bw wv s w wc)
  case first =>
    by_cases hm0 : 0 < m
    · have hn0 : (0 : Int) < (m : Int) := by omega
      have hx2 := OK.out.next2
      have hx1 := OK.out.next1
      have hd1 := OK.out.delay1
      have hd2 := OK.out.delay2
      have hc1 := (H1.out.drewN nq).cells
      have b0 : W1.heap.size = (W1.drewN nq).heap.size := rfl
      have l2 := H1.out.drewN nq
      have o2 : TickOnly g bw w (W1.drewN nq) := O1.out.drewN nq
      generalize W1.drewN nq = W2 at *
      obtain ⟨c0, c1, c2, c3, c4, c5, c6, ff⟩ := hc1
      simp only at c0 c1 c2 c3
      rw [HV.out] at c5
      have L2 := Lib.hid l2
      have O2 := Lib.hid o2
      clear l2 o2 b0 hm0
      have TB0 := TB.refl W2
      have i1 : (0 : Int) ≤ (m : Int) := by omega
      have i2 : (m : Int) ≤ (wcap : Int) := by omega
      have hclone : ∀ W', TB W2 W' → Calls Try.prog 25 #[.slice wa m wcap] W' fun e w' => ∃ A c, e = .returned (.slice A m c) ∧ w'.ownsRow W2.heap.size 5 1 (.slice A m c) m (B8 (s.wait.take m)) ∧ Below W'.heap.size W' w' := by
        intro W' hT
        have hr : Reads W2 W2.heap.size 1 wa m (B8 (s.wait.take m)) := by
          have := (Reads.of_own (c := wcap) (HV.out ▸ L2.out.wait)).take hmw
          rwa [Nat.mul_one, B8_take] at this
        refine (clone_any wa m wcap _ W' ((hr.below hT).more (Below.size hT)) (B8_oneCell _) (by omega)).mono fun e w' ⟨dv, he, hd, hb, _⟩ => ?_
        obtain ⟨A, c, rfl, _⟩ := own_form hd
        refine ⟨A, c, he, ⟨hd.1, ?_⟩, hb⟩
        rcases hd.2 with h0 | ⟨gg, cap, cur, a0, a1, a2⟩
        · exact .inl h0
        · exact .inr ⟨gg, cap, cur, a0, Nat.le_trans (Below.size hT) a1, a2⟩
      have HC := Lib.hid hclone
      clear hclone
      go_upto_region 6 with (fail)
      go_cut [4] (fun s4 wx => PkBox W2 m s.next (s.wait.take m) s4 wx)
      case first =>
        go_region_held3 (fun w' => w'.cell? ⟨g, 3, none⟩ = some (.int .i64 s.next) ∧ w'.cell? ⟨g, 5, none⟩ = some (.slice wa s.wait.length wcap) ∧ TB W2 w')
          (first | exact TB.two (TB.drew TB0) c3 c5 | exact TB.two (TB.alloc (TB.of3 (by assumption)) _) c3 c5 | exact TB.two (TB.call (TB.of3 (by assumption)) (by assumption)) c3 c5 | exact TB.two (TB.alloc (TB.call (TB.drew TB0) hbd) _) c3 c5 | exact TB.two (TB.set (TB.set (TB.of3 (by assumption)) (Nat.le_refl _) _) (Nat.le_refl _) _) c3 c5)
          (first | (go_at_call 25; refine (HC.out _ ?_).mono ?_; (refine TB.of3 (by assumption)); rintro e w' ⟨dA, dc, rfl, hdv, hbd⟩; (try obtain ⟨z0, y0, q0⟩ := below_new hbd 0 rfl); (try obtain ⟨z1, y1, _⟩ := below_new hbd 1 rfl)))
        all_goals (go_wp2_with fail; go_meet)
        · exact ⟨_, dA, dc, rfl, Below.size (TB.call (TB.drew TB0) hbd), Blk.new _ _ _, hdv.alloc _, TB.alloc (TB.call (TB.drew TB0) hbd) _⟩
        · have b : Blk _ W2.heap.size 42 _ := (Blk.new W2 42 #[.int .i64 0, .slice none 0 0]).drew.below hbd (by simp)
          have b2 := (b.set_ 0 (.int .i64 s.next)).set_ 1 (.slice dA m dc)
          refine ⟨_, dA, dc, rfl, Nat.le_refl _, by simpa using b2, ?_, TB.set (TB.set (TB.call (TB.alloc (TB.drew TB0) _) hbd) (Nat.le_refl _) _) (Nat.le_refl _) _⟩
          refine own_same hdv fun k hk => ?_
          obtain ⟨cs, hb⟩ := own_blk hdv hk
          have hne : k ≠ W2.heap.size := hb.ne_ b (by decide)
          rw [Below.heap_setCell _ _ _ _ hne, Below.heap_setCell _ _ _ _ hne]
      case rest =>
        obtain ⟨pb, dA, dc, rfl, hpb, hpk, hdv, htb⟩ := hcut
        have l3 : LineAt wc base g bl bw wv fw { s with now := s.now + 1 } := L2.out.below htb
        have o3 : TickOnly g bw w wc := O2.out.trans (Only.of_below htb _)
        obtain ⟨c0, c1, c2, c3, c4, c5, c6, ff⟩ := l3.cells
        simp only at c0 c1 c2 c3
        rw [HV.out] at c5
        have f3 := ff 3
        have L3 := Lib.hid l3
        have O3 := Lib.hid o3
        have HPK := Lib.hid hpk
        have HDV := Lib.hid hdv
        have HPB := Lib.hid hpb
        clear l3 o3 hpk hdv hpb htb ff TB0 HC
        obtain ⟨A', hA'⟩ : ∃ A', A' = if wcap = m then wa else wa.map (·.add (m * 1)) := ⟨_, rfl⟩
        have hsl : ∀ wx, (Instr.slice 35 (.slice wa s.wait.length wcap) (some (.int .i64 m)) none none).run Try.prog wx = .ok (.slice A' (s.wait.length - m) (wcap - m)) wx := by
          intro wx
          have := run_slice_from (P := Try.prog) Try.underlying35 hi5 wa s.wait.length wcap m hmw wx
          rw [hz5] at this
          rw [hA']; exact this
        have HA := Lib.hid hA'
        clear hA'
        go_upto_region 8 with (fail)
        have l4 : LineAt (wc.setCell ⟨g, 3, none⟩ (.int .i64 (s.next + 1))) base g bl bw wv fw { s with now := s.now + 1, next := s.next + 1 } := L3.out.setg 3 _ rfl rfl rfl L3.out.wait L3.out.wayIs
        have o4 : TickOnly g bw w (wc.setCell ⟨g, 3, none⟩ (.int .i64 (s.next + 1))) := O3.out.setCell (.inl (.inl rfl)) _
        have hgp : pb ≠ g := HPK.out.ne_ L3.out.blk (by decide)
        have p4 : Blk (wc.setCell ⟨g, 3, none⟩ (.int .i64 (s.next + 1))) pb 42 #[.int .i64 s.next, .slice dA m dc] := HPK.out.far hgp _
        have d4 : (wc.setCell ⟨g, 3, none⟩ (.int .i64 (s.next + 1))).ownsRow W2.heap.size 5 1 (.slice dA m dc) m (B8 (s.wait.take m)) := own_same HDV.out fun k hk => by
          obtain ⟨cs, hb⟩ := own_blk HDV.out hk
          exact Below.heap_setCell _ _ _ _ (hb.ne_ L3.out.blk (by decide))
        generalize wc.setCell ⟨g, 3, none⟩ (.int .i64 (s.next + 1)) = W4 at *
        clear c0 c1 c2 c3 c4 c5 c6 f3
        obtain ⟨c0, c1, c2, c3, c4, c5, c6, ff⟩ := l4.cells
        simp only at c0 c1 c2 c3
        rw [HV.out] at c5
        have hclone2 : Calls Try.prog 25 #[.slice A' (s.wait.length - m) (wcap - m)] W4 fun e w' => ∃ A c, e = .returned (.slice A (s.wait.length - m) c) ∧ w'.ownsRow W4.heap.size 5 1 (.slice A (s.wait.length - m) c) (s.wait.length - m) (B8 (s.wait.drop m)) ∧ Below W4.heap.size W4 w' := by
          have hr : Reads W4 W4.heap.size 1 A' (s.wait.length - m) (B8 (s.wait.drop m)) := by
            have := (Reads.of_own (c := wcap) (HV.out ▸ l4.wait)).cut hmw hwc
            rw [← HA.out, Nat.mul_one, B8_drop] at this
            exact this
          refine (clone_any A' _ _ _ W4 hr (B8_oneCell _) (by omega)).mono fun e w' ⟨dv, he, hd, hb, _⟩ => ?_
          obtain ⟨A, c, rfl, _⟩ := own_form hd
          exact ⟨A, c, he, hd, hb⟩
        have L4 := Lib.hid l4
        have O4 := Lib.hid o4
        have P4 := Lib.hid p4
        have D4 := Lib.hid d4
        have HC := Lib.hid hclone2
        have HGP := Lib.hid hgp
        clear l4 o4 p4 d4 hclone2 hgp HDV HPK L3 O3 ff
        go_wp2_with fail
        refine HC.out.mono ?_
        rintro e w5 ⟨A5, cap5, rfl, hd5, hb5⟩
        have l5 : LineAt w5 base g bl bw wv fw { s with now := s.now + 1, next := s.next + 1 } := L4.out.below hb5
        have hg5 : g < W4.heap.size := L4.out.blk.lt
        have c5' := (hb5.cell (p := ⟨g, 5, none⟩) hg5).trans c5
        have f5' := l5.cells.f 5
        have L5 := Lib.hid l5
        have B5 := Lib.hid hb5
        have D5 := Lib.hid hd5
        have HNW : Hid (∀ k, (Value.slice A5 (s.wait.length - m) cap5).ownBlock = some k → w.heap.size ≤ k) := Lib.hid fun k hk => Nat.le_trans O4.out.size (D5.out.lt k hk).1
        clear l5 hb5 hd5 c0 c1 c2 c3 c4 c5 c6 hsl
        go_upto_region 9 with (fail)
        have hbase : base ≤ W4.heap.size := Nat.le_of_lt (Nat.lt_of_le_of_lt L4.out.g1 L4.out.blk.lt)
        have l6 : LineAt (w5.setCell ⟨g, 5, none⟩ (.slice A5 (s.wait.length - m) cap5)) base g bl bw (.slice A5 (s.wait.length - m) cap5) fw { s with now := s.now + 1, next := s.next + 1, wait := s.wait.drop m } := by
          refine L5.out.setg 5 _ rfl rfl rfl (by simpa using own_mono D5.out hbase) ((L4.out.wayIs.imp fun p _ v hP => (hP.re fun k hk => (D5.out.lt k hk).1)).imp fun p _ v hP => hP.below B5.out)
        have o6 : TickOnly g bw w (w5.setCell ⟨g, 5, none⟩ (.slice A5 (s.wait.length - m) cap5)) := (O4.out.trans (Only.of_below B5.out _)).setCell (.inl (.inl rfl)) _
        have p6 : Blk (w5.setCell ⟨g, 5, none⟩ (.slice A5 (s.wait.length - m) cap5)) pb 42 #[.int .i64 s.next, .slice dA m dc] := (P4.out.below B5.out P4.out.lt).far HGP.out _
        have d6 : (w5.setCell ⟨g, 5, none⟩ (.slice A5 (s.wait.length - m) cap5)).ownsRow base 5 1 (.slice dA m dc) m (B8 (s.wait.take m)) := by
          refine own_mono (b := W2.heap.size) (own_same D4.out fun k hk => ?_) (Nat.le_of_lt (Nat.lt_of_le_of_lt L2.out.g1 L2.out.blk.lt))
          obtain ⟨cs, hb⟩ := own_blk D4.out hk
          rw [Below.heap_setCell _ _ _ _ (hb.ne_ L4.out.blk (by decide))]
          exact B5.out.block k hb.lt
        have q6 : ∀ k, (Value.slice dA m dc).ownBlock = some k → (Value.slice A5 (s.wait.length - m) cap5).ownBlock ≠ some k := fun k hk hk' => by
          have := (D4.out.lt k hk).2
          have := (D5.out.lt k hk').1
          omega
        generalize w5.setCell ⟨g, 5, none⟩ (.slice A5 (s.wait.length - m) cap5) = W6 at *
        clear c5' f5'
        obtain ⟨c0, c1, c2, c3, c4, c5, c6, ff⟩ := l6.cells
        have p0 := p6.cell 0
        have p1 := p6.cell 1
        simp at p0 p1
        simp only at c0 c1 c2 c3
        have hxw : (Lit.int .i64 s.next).wf = true := WalkArith.wf_i64 (by omega)
        have hlook0 := fun n => (l6.lost.drewN n).look (x := s.next) Try.underlying3 Try.underlying54 (zero_bool _) hxw false
        have L6 := Lib.hid l6
        have O6 := Lib.hid o6
        have P6 := Lib.hid p6
        have D6 := Lib.hid d6
        have Q6 := Lib.hid q6
        clear l6 o6 p6 d6 q6 hbase ff hxw
        by_cases hin : s.next ∈ s.lost
        · have hlook : ∀ n, Sem.run Try.prog (Instr.lookup 54 (Value.map (some bl)) (Value.int .i64 s.next) false) (W6.drewN n) = .ok (.bool true) (W6.drewN n) := fun n => by rw [hlook0 n]; simp [lostF, hin]
          have Hin := Lib.hid hin
          clear hlook0 hin
          go_quiet (fail)
          go_wp2_with (fail)
          go_meet
          have hne : s.wait ≠ [] := by intro e; rw [e] at hmw; simp at hmw; omega
          refine ⟨.slice A5 (s.wait.length - m) cap5, fw, ?_, O6.out.drewN _, .inr HNW.out⟩
          rw [put_lost s hne Hin.out, ← HM.out]
          exact L6.out.drewN _
        · have hlook : ∀ n, Sem.run Try.prog (Instr.lookup 54 (Value.map (some bl)) (Value.int .i64 s.next) false) (W6.drewN n) = .ok (.bool false) (W6.drewN n) := fun n => by rw [hlook0 n]; simp [lostF, hin]
          have Hin := Lib.hid hin
          clear hlook0 hin
          go_quiet (fail)
          go_upto_region 10 with (fail)
          go_quiet (fail)
          go_upto_region 11 with (fail)
          generalize hnq : (W6.drewN _).drewN _ = W7
          have l7 : LineAt W7 base g bl bw (.slice A5 (s.wait.length - m) cap5) fw { s with now := s.now + 1, next := s.next + 1, wait := s.wait.drop m } := hnq ▸ (L6.out.drewN _).drewN _
          have o7 : TickOnly g bw w W7 := hnq ▸ (O6.out.drewN _).drewN _
          have p7 : Blk W7 pb 42 #[.int .i64 s.next, .slice dA m dc] := hnq ▸ (P6.out.drewN _).drewN _
          have d7 : W7.ownsRow base 5 1 (.slice dA m dc) m (B8 (s.wait.take m)) := hnq ▸ D6.out
          clear hnq c0 c1 c2 c3 c4 c5 c6 p0 p1 hlook
          obtain ⟨c0, c1, c2, c3, c4, c5, c6, ff⟩ := l7.cells
          have p0 := p7.cell 0
          have p1 := p7.cell 1
          simp at p0 p1
          have haw : (Lit.int .i64 (s.now + 1 + s.delay)).wf = true := WalkArith.wf_i64 (by omega)
          have hnone : fw (s.now + 1 + s.delay) = none := ((l7.wayIs _).2 fun p hp => by have := OK.out.way p hp; omega)
          have hlk : ∀ W', W'.heap[bw]? = W7.heap[bw]? → Sem.run Try.prog (Instr.lookup 61 (.map (some bw)) (.int .i64 (s.now + 1 + s.delay)) false) W' = .ok (.slice none 0 0) W' := by
            intro W' hW
            have := (l7.way.same hW).look (x := s.now + 1 + s.delay) Try.underlying3 Try.underlying61 (zero_pks _) haw false
            rw [hnone] at this
            exact this
          have hl0 := hlk W7.drew rfl
          have hl1 := fun o => hlk ((W7.alloc o).drew) (Below.heap_alloc _ _ _ l7.way.lt)
          have hrd : Reads ((W7.alloc (.cells #[.int .i64 s.next, .slice dA m dc] 42)).drew) (W7.heap.size + 1) 2 (some ⟨W7.heap.size, 0, none⟩) 1 [.int .i64 s.next, .slice dA m dc] := by
            refine ⟨rfl, fun _ => ⟨_, rfl, by simp, fun j u hj => ?_⟩⟩
            have b := (Blk.new W7 42 #[.int .i64 s.next, .slice dA m dc]).drew
            match j, hj with
            | 0, hj => simp at hj; subst hj; exact b.cell 0
            | 1, hj => simp at hj; subst hj; exact b.cell 1
          have HRD := Lib.hid hrd
          have HLT := Lib.hid l7.way.lt
          have hgb : g ≠ bw := fun e => l7.way.ne_blk l7.blk e.symm
          have hpbb : pb ≠ bw := fun e => l7.way.ne_blk p7 e.symm
          have hst7 : ∀ W' v, W'.heap[bw]? = W7.heap[bw]? → ∃ es' ck', (Instr.mapUpdate 61 (.map (some bw)) (.int .i64 (s.now + 1 + s.delay)) v).run Try.prog W' = .ok () (ChangeMaps.setBlock W' bw (.map es' ck')) ∧
              MapI Try.prog 3 (ChangeMaps.setBlock W' bw (.map es' ck')) bw (s.way.length + 1) (fun y => if y = s.now + 1 + s.delay then some v else fw y) := by
            intro W' v hW
            obtain ⟨es', ck', a1, a2⟩ := (l7.way.same hW).store Try.underlying3 Try.underlying61 (by have := OK.out.short; simp only [maxLen]; omega) haw v
            rw [hnone] at a2
            exact ⟨es', ck', a1, a2⟩
          have HST := Lib.hid hst7
          have HGB := Lib.hid hgb
          have HPBB := Lib.hid hpbb
          have L7 := Lib.hid l7
          have O7 := Lib.hid o7
          have P7 := Lib.hid p7
          have D7 := Lib.hid d7
          have HAW := Lib.hid haw
          have HNONE := Lib.hid hnone
          have TB7 := TB.refl W7
          clear hlk hrd l7 o7 p7 d7 haw hnone ff c0 c1 c2 c3 c4 c5 hst7 hgb hpbb
          have TM7 := TM.refl bw W7
          obtain ⟨i0, hi0, hz0, hz1, hz2⟩ := info_parts pk_info
          go_region_held3 (fun w' => w'.cell? ⟨g, 6, none⟩ = some (.map (some bw)) ∧ w'.cell? ⟨pb, 0, none⟩ = some (.int .i64 s.next) ∧ w'.cell? ⟨pb, 1, none⟩ = some (.slice dA m dc) ∧ TM bw W7 w')
            (first | exact TM.three (TM.drew (TM.alloc TM7 _)) HGB.out HPBB.out c6 p0 p1 | exact TM.three (TM.drew TM7) HGB.out HPBB.out c6 p0 p1 | exact TM.three (TM.alloc (TM.of4 (by assumption)) _) HGB.out HPBB.out c6 p0 p1 | exact TM.three (TM.grow (TM.alloc (TM.drew TM7) _) hg8) HGB.out HPBB.out c6 p0 p1 | exact TM.three (TM.setb (TM.of4 (by assumption)) _) HGB.out HPBB.out c6 p0 p1)
            (first | (refine step_append_any _ (by rfl) (.tmp 84) (.tmp 86) _ (by rfl) W7.heap.size 42 i0 _ 2 32 Try.underlying37 hi0 hz0 hz1 hz2 rfl (by omega) (.slice none 0 0) 0 [] (by rfl) (World.ownsRow_nil _ _ _ _) (W7.heap.size + 1) (some ⟨W7.heap.size, 0, none⟩) 1 1 [.int .i64 s.next, .slice dA m dc] (by rfl) HRD.out (by simp [Value.oneCell']) (by simp only [maxLen]; omega) (by omega) (by simp) ?_; intro v8 w8 hown8 hg8 hat8; obtain ⟨es8, ck8, hst8, hm8⟩ := HST.out w8 v8 (grown_keep hg8 HLT.out)))
          all_goals (go_wp2_with fail; go_meet)
          all_goals
            have b78 : Below W7.heap.size W7 w8 := ((Below.refl _ _).alloc (Nat.le_refl _) _).drew.grown hg8 (by simp) (fun k hk => by simp [Value.ownBlock] at hk)
            have hne : s.wait ≠ [] := by intro e; rw [e] at hmw; simp at hmw; omega
            have l8 := L7.out.below b78
            have hpk8 : PackAt w8 base (.slice A5 (s.wait.length - m) cap5) v8 s.pk := by
              refine ⟨.slice dA m dc, own_mono hown8 (Nat.le_of_lt (Nat.lt_of_le_of_lt L7.out.g1 L7.out.blk.lt)), ?_, ?_⟩
              · have e : s.pk.data.length = m := by show (s.wait.take s.len).length = m; rw [← HM.out, List.length_take]; omega
                rw [e]
                have e2 : s.pk.data = s.wait.take m := by show s.wait.take s.len = _; rw [← HM.out]
                rw [e2]
                exact own_same D7.out fun k hk => b78.block k (D7.out.lt k hk).2
              · cases hd : (Value.slice dA m dc).ownBlock with
                | none => exact .inl rfl
                | some k => exact .inr fun e => Q6.out k hd e.symm
            refine ⟨.slice A5 (s.wait.length - m) cap5, fun y => if y = s.now + 1 + s.delay then some v8 else fw y, ?_, ((O7.out.trans (Only.of_below b78 _)).setBlock (.inl (.inr rfl)) _), .inr HNW.out⟩
            rw [put_way s hne Hin.out, ← HM.out]
            have wi := (way_put l8.wayIs hpk8 (fun q hq e => by have := OK.out.way q hq; have e' : q.at_ = s.now + 1 + s.delay := e; omega))
            exact l8.setw hm8 (by simp) wi
    · have hm0' : m = 0 := by omega
      have HZ := Lib.hid hm0'
      have hle : ¬ (0 : Int) < (m : Int) := by omega
      clear hm0' hm0
      go_wp2_with (fail)
      go_meet
      have hne : s.wait = [] := by
        have e := HM.out
        rw [HZ.out] at e
        unfold LS.len at e
        have := List.length_eq_zero_iff (l := s.wait)
        exact this.1 (by omega)
      exact ⟨wv, fw, by rw [put_none s hne]; exact H1.out.drewN _, O1.out.drewN _, .inl rfl⟩
  case rest =>
    obtain ⟨wv1, fw1, l1, o1, n1⟩ := hcut
    have HN1 := Lib.hid n1
    clear n1
    obtain ⟨hpn, hpl, hpr⟩ := put_ok s OK.out
    have HPR := Lib.hid hpr
    obtain ⟨c0, c1, c2, c3, c4, c5, c6, ff⟩ := l1.cells
    rw [hpn] at c2
    have haw : (Lit.int .i64 (s.now + 1)).wf = true := WalkArith.wf_i64 (by omega)
    have hlook0 := fun n => (l1.way.drewN n).look (x := s.now + 1) Try.underlying3 Try.underlying61 (zero_pks _) haw false
    obtain ⟨v, hv⟩ : ∃ v, v = (fw1 (s.now + 1)).getD (.slice none 0 0) := ⟨_, rfl⟩
    have hlook : ∀ n, Sem.run Try.prog (Instr.lookup 61 (.map (some bw)) (.int .i64 (s.now + 1)) false) (wc.drewN n) = .ok v (wc.drewN n) := fun n => by rw [hlook0 n, hv]; rfl
    have HV1 := Lib.hid hv
    have L1 := Lib.hid l1
    have O1' := Lib.hid o1
    have HPN := Lib.hid hpn
    clear hv l1 o1 hpn hlook0 c0 c1 c3 c4 c5 ff hpl hpr
    go_upto_region 12 with (fail)
    go_quiet (fail)
    go_upto_region 13 with (fail)
    generalize hnq : wc.drewN _ = W2
    have l2 : LineAt W2 base g bl bw wv1 fw1 s.put := hnq ▸ L1.out.drewN _
    have o2 : TickOnly g bw w W2 := hnq ▸ O1'.out.drewN _
    clear hnq c2 c6 hlook
    obtain ⟨c0, c1, c2, c3, c4, c5, c6, ff⟩ := l2.cells
    rw [HPN.out] at c2
    obtain ⟨es, ck, hdel, hm2⟩ := l2.way.drew.drop (x := s.now + 1) Try.underlying3 Try.underlying61 haw 0
    have L2 := Lib.hid l2
    have O2 := Lib.hid o2
    have HM2 := Lib.hid hm2
    clear l2 o2 hm2 c0 c1 c3 c4 c5 ff haw
    go_region
    have l3 : LineAt (ChangeMaps.setBlock W2.drew bw (.map es ck)) base g bl bw wv1 (fun y => if y = s.now + 1 then none else fw1 y) s.tick := by
      refine L2.out.drew.setw HM2.out ?_ (way_drop L2.out.drew.wayIs)
      rcases filter_at (s.now + 1) s.put.way HPR.out with ⟨_, e2, e3⟩ | ⟨p, hp, hpx, _, e2⟩
      · rw [(L2.out.wayIs _).2 e3]
        show s.put.way.length = _
        rw [e2]
      · obtain ⟨u, hu, _⟩ := (L2.out.wayIs _).1 p hp hpx
        rw [hu]
        show s.put.way.length - 1 = _
        omega
    have o3 : TickOnly g bw w (ChangeMaps.setBlock W2.drew bw (.map es ck)) := O2.out.drew.setBlock (.inl (.inr rfl)) _
    have hne : ∀ {k t cs}, Blk W2 k t cs → k ≠ bw := fun hb e => L2.out.way.ne_blk hb e.symm
    have hout : OutIs (ChangeMaps.setBlock W2.drew bw (.map es ck)) base v s.out ∧ ∃ A n c, v = .slice A n c ∧ n ≤ 1 := by
      rcases filter_at (s.now + 1) s.put.way HPR.out with ⟨e1, _, e3⟩ | ⟨p, hp, hpx, e1, _⟩
      · have e4 := (L2.out.wayIs _).2 e3
        refine ⟨.inl ⟨e1, by rw [HV1.out, e4]; rfl⟩, none, 0, 0, by rw [HV1.out, e4]; rfl, by omega⟩
      · obtain ⟨u, hu, hP⟩ := (L2.out.wayIs _).1 p hp hpx
        have hvu : v = u := by rw [HV1.out, hu]; rfl
        have hP' : PackAt W2 base (.slice none 0 0) u p := hP.re fun k hk => by simp [Value.ownBlock] at hk
        refine ⟨.inr ⟨p, e1, hvu ▸ hP'.same fun k t cs hb _ _ => heap_setBlock_ne _ _ _ (hne hb)⟩, ?_⟩
        obtain ⟨dv, hd, _⟩ := hP
        obtain ⟨A, c, rfl, _⟩ := own_form hd
        exact ⟨A, 1, c, hvu, Nat.le_refl _⟩
    generalize ChangeMaps.setBlock W2.drew bw (.map es ck) = W3 at *
    obtain ⟨hout, A, n, c, hvs, hn1⟩ := hout
    have L3 := Lib.hid l3
    have O3 := Lib.hid o3
    have HO := Lib.hid hout
    clear l3 o3 hout hne hdel
    rw [hvs]
    rw [hvs] at HO
    have HVS := Lib.hid hvs
    clear hvs
    rcases (by omega : n = 0 ∨ n = 1) with h01 | h01
    · subst h01
      go_wp2_with (go_at_call 26; refine (sort0 _ _ _ _).mono ?_; rintro e w' ⟨rfl, rfl⟩)
      go_ret
      exact ⟨_, wv1, _, rfl, L3.out, HO.out, O3.out, HN1.out⟩
    · subst h01
      go_wp2_with (go_at_call 26; refine (sort1 _ _ _ _).mono ?_; rintro e w' ⟨rfl, rfl⟩)
      go_ret
      exact ⟨_, wv1, _, rfl, L3.out, HO.out, O3.out, HN1.out⟩
end Go.Proofs.Ytieoeednfgpoiaa
