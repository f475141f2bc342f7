/- LineTells, walked. No condition. -/
import Derived.Test.YtieoeednfgpoiaaSentW
import Derived.Test.YtieoeednfgpoiaaTick2
import Derived.Test.YtieoeednfgpoiaaSend2
import Derived.Test.YtieoeednfgpoiaaHeldL
import Derived.Test.YtieoeednfgpoiaaCome
namespace Go.Proofs.Ytieoeednfgpoiaa
open Go.RowKit

set_option linter.unusedSimpArgs false
set_option linter.unusedVariables false
set_option maxHeartbeats 4000000 in
theorem refFits_any (rate delay : Int) (A : Option Addr) (n c : Nat) (lost : List Int) (w : World) (hn : n ≤ 9223372036854775807) (hr : Reads w w.heap.size 1 A n (lost.map (Value.int .i64))) :
    Calls Try.prog 13 #[.int .i64 rate, .int .i64 delay, .slice A n c] w fun e w' => e = .returned (.int .i64 (errNew rate delay lost)) ∧ ∃ q, w' = w.drewN q := by
  have HR := Lib.hid hr
  have HL : Hid (lost.length = n) := by have := hr.1; simp at this; exact this
  clear hr
  by_cases h2 : ¬ (1 ≤ rate ∧ rate ≤ 65536 ∧ 0 ≤ delay ∧ delay ≤ 1000)
  · have e : errNew rate delay lost = 2 := by unfold errNew; rw [if_pos h2]
    rw [e]
    clear e
    go_enter Try.func13, Try.ntmps13
    go_wp2_with fail
    all_goals (go_ret; exact ⟨rfl, 0, rfl⟩)
  · by_cases h7 : 1000 < n
    · have e : errNew rate delay lost = 7 := by unfold errNew; rw [if_neg h2, if_pos (by have := HL.out; omega)]
      rw [e]
      clear e
      obtain ⟨h3, h4, h5, h6⟩ := Classical.not_not.1 h2
      clear h2
      have h7' : (1000 : Int) < (n : Int) := by omega
      go_enter Try.func13, Try.ntmps13
      go_wp2_with fail
      go_ret
      exact ⟨rfl, 0, rfl⟩
    · have HE : Hid (errNew rate delay lost = if lost.Nodup ∧ ∀ x ∈ lost, 0 ≤ x then 0 else 1) := by
        refine Lib.hid ?_
        unfold errNew; rw [if_neg h2, if_neg (by have := HL.out; omega)]
      obtain ⟨h3, h4, h5, h6⟩ := Classical.not_not.1 h2
      clear h2
      go_enter Try.func13, Try.ntmps13
      go_wp2_with fail
      go_loopw [7] (fun iv wr => ∃ k q : Nat, k ≤ n ∧ iv = .int .i64 k ∧ Hid ((lost.take k).Nodup ∧ ∀ x ∈ lost.take k, 0 ≤ x) ∧ wr = w.drewN q) (fun iv _ => n - (intOf iv).toNat)
      case atStart => exact ⟨0, 0, by omega, rfl, Lib.hid ⟨by simp, by simp⟩, rfl⟩
      case round =>
        obtain ⟨k, q, hk, rfl, HX, rfl⟩ := hrel
        by_cases hlt : k < n
        · obtain ⟨ad, u, rfl, had, hu, hc⟩ := HR.out.at_ hlt
          have hkl : k < lost.length := by rw [HL.out]; exact hlt
          obtain ⟨z, hz⟩ : ∃ z, lost[k]? = some z := ⟨_, List.getElem?_eq_getElem hkl⟩
          have hux : u = .int .i64 z := by simp [List.getElem?_map, hz] at hu; exact hu.symm
          subst hux
          have HZ := Lib.hid hz
          clear hu hz
          have hlk : lost[k] = z := by have := HZ.out; rw [List.getElem?_eq_getElem hkl] at this; exact Option.some.inj this
          have htk : lost.take (k + 1) = lost.take k ++ [z] := by rw [take_snoc_int lost k hkl, hlk]
          have HTK := Lib.hid htk
          have hmz := Lib.hid (List.mem_of_getElem? HZ.out)
          clear hlk htk
          by_cases hz0 : z < 0
          · go_wp2_with fail
            go_ret
            refine ⟨?_, q, rfl⟩
            rw [HE.out, if_neg (fun h => by have := h.2 z hmz.out; omega)]; rfl
          · go_wp2_with fail
            go_loopw [8] (fun iv wr => ∃ j q : Nat, j ≤ k ∧ iv = .int .i64 j ∧ Hid (z ∉ lost.take j) ∧ wr = w.drewN q) (fun iv _ => k - (intOf iv).toNat)
            case atStart => exact ⟨0, q, by omega, rfl, Lib.hid (by simp), rfl⟩
            case round =>
              obtain ⟨j, q2, hj, rfl, HJ, rfl⟩ := hrel
              by_cases hjk : j < k
              · obtain ⟨ad2, u2, e2, had2, hu2, hc2⟩ := HR.out.at_ (show j < n by omega)
                injection e2 with e2
                subst e2
                have hjl : j < lost.length := by omega
                obtain ⟨y, hy⟩ : ∃ y, lost[j]? = some y := ⟨_, List.getElem?_eq_getElem hjl⟩
                have hux : u2 = .int .i64 y := by simp [List.getElem?_map, hy] at hu2; exact hu2.symm
                subst hux
                have hlj : lost[j] = y := by rw [List.getElem?_eq_getElem hjl] at hy; exact Option.some.inj hy
                have HTJ := Lib.hid (show lost.take (j + 1) = lost.take j ++ [y] by rw [take_snoc_int lost j hjl, hlj])
                have HY := Lib.hid hy
                clear hu2 hy hlj
                by_cases hzy : z = y
                · subst hzy
                  go_upto_region 13 with (fail)
                  go_quiet (fail)
                  go_wp2_with fail
                  go_ret
                  refine ⟨?_, _, World.drewN_drewN _ _ _⟩
                  rw [HE.out, if_neg]
                  · rfl
                  · rintro ⟨hnd, _⟩
                    have h1 : (lost.take (k + 1)).Nodup := hnd.sublist (List.take_sublist _ _)
                    rw [HTK.out, List.nodup_append] at h1
                    have h2 : z ∈ lost.take k := List.mem_iff_getElem?.2 ⟨j, by rw [List.getElem?_take_of_lt hjk]; exact HY.out⟩
                    exact h1.2.2 z h2 z (by simp) rfl
                · have hne : (z == y) = false := by rw [beq_eq_false_iff_ne]; exact hzy
                  go_upto_region 13 with (fail)
                  go_quiet (fail)
                  go_wp2_with fail
                  go_roundw
                  case rel =>
                    refine ⟨j + 1, _, by omega, by go_num, Lib.hid ?_, rfl⟩
                    rw [HTJ.out, List.mem_append]
                    rintro (h | h)
                    · exact HJ.out h
                    · simp at h; exact hzy h
                  case measure => simp [intOf]; omega
              · obtain rfl : j = k := by omega
                go_wp2_with fail
                go_roundw
                case rel =>
                  refine ⟨j + 1, q2, by omega, by go_num, Lib.hid ?_, rfl⟩
                  rw [HTK.out]
                  refine ⟨?_, ?_⟩
                  · rw [List.nodup_append]
                    exact ⟨HX.out.1, by simp, fun a ha b hb => by simp at hb; subst hb; rintro rfl; exact HJ.out ha⟩
                  · intro x hx
                    rcases List.mem_append.1 hx with h | h
                    · exact HX.out.2 x h
                    · simp at h; omega
                case measure => simp [intOf]; omega
        · obtain rfl : k = n := by omega
          go_wp2_with fail
          go_ret
          have et : lost.take k = lost := List.take_of_length_le (by rw [HL.out]; exact Nat.le_refl _)
          have := HX.out
          rw [et] at this
          rw [HE.out, if_pos this]
          exact ⟨rfl, q, rfl⟩
/-- A line stays one, whatever happens to a block that isn't its own. -/
theorem line_own {w0 w1 w2 : World} {base g bl bw go : Nat} {wv wv' : Value} {fw : Int → Option Value} {s s' : LS} (h0 : LineAt w0 base g bl bw wv fw s) (h1 : LineAt w1 base g bl bw wv' fw s') (hway : s'.way = s.way)
    (hU : ∀ k, k < w0.heap.size → k ≠ g → wv.ownBlock ≠ some k → w1.heap[k]? = w0.heap[k]?) (hat : wv'.ownBlock = wv.ownBlock ∨ ∀ k, wv'.ownBlock = some k → w0.heap.size ≤ k) (ho : Only (fun k => k = go) w1 w2) (hgo : w0.heap.size ≤ go) (hs : go < w1.heap.size) (hne : wv'.ownBlock ≠ some go) : LineAt w2 base g bl bw wv' fw s' := by
  have hz : w0.heap.size ≤ w1.heap.size := by omega
  have hg := h0.blk.lt
  have hbl := h0.lost.lt
  have hbw := h0.way.lt
  have hU2 : ∀ k, k < w0.heap.size → k ≠ g → wv.ownBlock ≠ some k → w2.heap[k]? = w0.heap[k]? := fun k hk h h' => (ho.block k (by omega) (by omega)).trans (hU k hk h h')
  refine ⟨h1.g1, h1.bl1, h1.bw1, h1.ne, h1.blk.only ho (by omega), h1.lost.only ho (by omega), own_same h1.wait fun k hk => ho.block k (h1.wait.lt k hk).2 (fun e => hne (e ▸ hk)), h1.way.only ho (by omega), ?_⟩
  rw [hway]
  refine h0.wayIs.imp fun p _ v hP => ?_
  obtain ⟨dv, a1, a2, a3⟩ := hP
  refine ⟨dv, own_same a1 fun k hk => ?_, own_same a2 fun k hk => ?_, ?_⟩
  · obtain ⟨cs, hb⟩ := own_blk a1 hk
    refine hU2 k hb.lt (hb.ne_ h0.blk (by decide)) fun e => ?_
    obtain ⟨ds, hd⟩ := own_blk h0.wait e
    exact hb.ne_ hd (by decide) rfl
  · obtain ⟨cs, hb⟩ := own_blk a2 hk
    refine hU2 k hb.lt (hb.ne_ h0.blk (by decide)) fun e => ?_
    rcases a3 with a3 | a3
    · rw [a3] at hk; cases hk
    · exact a3 (hk.trans e.symm)
  · rcases a3 with a3 | a3
    · exact .inl a3
    · rcases hat with e | e
      · rw [e]; exact .inr a3
      · cases hd : dv.ownBlock with
        | none => exact .inl rfl
        | some k =>
          refine .inr fun e' => ?_
          have h1 := e k e'.symm
          have h2 := (a2.lt k hd).2
          omega
set_option maxRecDepth 100000 in
set_option maxHeartbeats 4000000 in
theorem tells_great (rate delay : Int) (A A2 : Option Addr) (n c n2 c2 more : Nat) (lost : List Int) (bs : List (List UInt8)) (w : World) (hp : PlanIn w lost A n) (hr : RowsAt w w.heap.size A2 n2 bs)
    (hn : n ≤ 9223372036854775807) (hn2 : n2 ≤ 9223372036854775807) (hbl : ∀ b ∈ bs, b.length ≤ 9223372036854775807) (hg : greatB bs n = true) :
    Calls Try.prog 3 #[.agg #[.int .i64 rate, .int .i64 delay, .slice A n c], .slice A2 n2 c2, .int .u8 (more : Int)] w (True_ w) := by
  have HP := Lib.hid hp
  have HR := Lib.hid hr
  have HBL := Lib.hid hbl
  have HG := Lib.hid hg
  clear hp hr hbl hg
  go_enter Try.func3, Try.ntmps3
  go_wp2_with fail
  refine (awake_any _).mono ?_
  rintro e w2 ⟨rfl, hb⟩
  have b2 := (Blk.new w 24 #[.int .i64 rate, .int .i64 delay, .slice A n c]).below hb (by simp)
  have hbe : Below w.heap.size w w2 := ((Below.refl _ _).alloc (Nat.le_refl _) (.cells #[.int .i64 rate, .int .i64 delay, .slice A n c] 24)).trans (hb.mono (by simp))
  have c0 := b2.cell 0
  have c1 := b2.cell 1
  have c2' := b2.cell 2
  simp at c0 c1 c2'
  have HB := Lib.hid hbe
  have B2 := Lib.hid b2
  clear hb b2 hbe
  go_wp2_with fail
  have hgr := great_any A2 A n2 c2 n c w.heap.size bs w2 (HR.out.below HB.out) hn2 hn HBL.out
  rw [HG.out] at hgr
  refine hgr.mono ?_
  rintro e w' ⟨rfl, rfl⟩
  clear hgr
  go_wp2_with fail
  refine (awake_any _).mono ?_
  rintro e w3 ⟨rfl, hb⟩
  go_wp2_with fail
  go_ret
  exact ⟨rfl, HB.out.trans (hb.mono HB.out.size)⟩
set_option maxRecDepth 100000 in
set_option maxHeartbeats 4000000 in
theorem tells_bad (rate delay : Int) (A A2 : Option Addr) (n c n2 c2 more : Nat) (lost : List Int) (bs : List (List UInt8)) (w : World) (hp : PlanIn w lost A n) (hr : RowsAt w w.heap.size A2 n2 bs)
    (hg : greatB bs n = false) (he : errNew rate delay lost ≠ 0) :
    Calls Try.prog 3 #[.agg #[.int .i64 rate, .int .i64 delay, .slice A n c], .slice A2 n2 c2, .int .u8 (more : Int)] w (True_ w) := by
  obtain ⟨g1, g2, hbl⟩ := great_no hg
  have hn2 : n2 ≤ 30 := by have := hr.1; omega
  have HP := Lib.hid hp
  have HR := Lib.hid hr
  have HBL := Lib.hid hbl
  have HG := Lib.hid hg
  have HE := Lib.hid he
  clear hp hr hbl hg he
  go_enter Try.func3, Try.ntmps3
  go_wp2_with fail
  refine (awake_any _).mono ?_
  rintro e w2 ⟨rfl, hb⟩
  have b2 := (Blk.new w 24 #[.int .i64 rate, .int .i64 delay, .slice A n c]).below hb (by simp)
  have hbe : Below w.heap.size w w2 := ((Below.refl _ _).alloc (Nat.le_refl _) (.cells #[.int .i64 rate, .int .i64 delay, .slice A n c] 24)).trans (hb.mono (by simp))
  have c0 := b2.cell 0
  have c1 := b2.cell 1
  have c2' := b2.cell 2
  simp at c0 c1 c2'
  have HB := Lib.hid hbe
  have B2 := Lib.hid b2
  clear hb b2 hbe
  go_wp2_with fail
  have hgr := great_any A2 A n2 c2 n c w.heap.size bs w2 (HR.out.below HB.out) (by omega) (by omega) (fun b hb => by have := HBL.out b hb; omega)
  rw [HG.out] at hgr
  refine hgr.mono ?_
  rintro e w' ⟨rfl, rfl⟩
  clear hgr
  go_wp2_with fail
  refine (new_any rate delay A n c lost w2 (by omega) ((HP.out.reads.below HB.out).more HB.out.size) HP.out.wf).mono ?_
  rintro e w3 hN
  rcases hN with ⟨h0, rfl, hb3⟩ | ⟨h0, _⟩
  · have hne : (errNew rate delay lost != 0) = true := by rw [bne_iff_ne]; exact h0
    have HB3 := Lib.hid (bw_call HB.out hb3)
    have B3 := Lib.hid (B2.out.below hb3 B2.out.lt)
    clear h0 hb3 c0 c1 c2'
    have c0 := B3.out.cell 0
    have c1 := B3.out.cell 1
    have c2' := B3.out.cell 2
    simp at c0 c1 c2'
    have HF := Lib.hid (refFits_any rate delay A n c lost w3 (by omega) ((HP.out.reads.below HB3.out).more HB3.out.size))
    generalize errNew rate delay lost = er at *
    go_wp2_with fail
    refine HF.out.mono ?_
    rintro e w4 ⟨rfl, q, hq⟩
    have HB4 : Hid (Below w.heap.size w w4) := by subst hq; exact Lib.hid (below_drewN HB3.out q)
    clear hq HF
    go_wp2_with fail
    go_ret
    exact ⟨rfl, HB4.out⟩
  · exact absurd h0 HE.out
theorem own_pt {w : World} {base : Nat} {e : TypeId} {n c k : Nat} {A : Option Addr} {xs : List Value} (h : w.ownsRow base e 1 (.slice A n c) n xs) (hk : k < n) :
    ∃ gr, A = some ⟨gr, 0, none⟩ ∧ base ≤ gr ∧ gr < w.heap.size ∧ (∃ u, w.cell? ⟨gr, k, none⟩ = some u) ∧ w.frozen? ⟨gr, k, none⟩ = false := by
  obtain ⟨g, cap, hv, hb, hlt⟩ := h.form (by omega)
  injection hv with hA _ hc
  subst hA hc
  refine ⟨g, rfl, hb, hlt, ?_, h.frozenAt k⟩
  have h1 := h.cellAt k (by omega)
  have hl : k < xs.length := by have := h.1; omega
  exact ⟨xs[k], h1.trans (List.getElem?_eq_getElem hl)⟩
theorem RowIs.keep {w w' : World} {base : Nat} {A : Option Addr} {c : Nat} {ps : List PR} (h : RowIs w base A c ps) (h1 : ∀ k cs, Blk w k 40 cs → w'.heap[k]? = w.heap[k]?) (h2 : ∀ p ∈ ps, ∀ k, (Value.slice p.A p.data.length p.c).ownBlock = some k → ∀ cs, Blk w k 5 cs → w'.heap[k]? = w.heap[k]?) : RowIs w' base A c ps :=
  ⟨own_same h.row fun k hk => by
    obtain ⟨cs, hb⟩ := own_blk h.row hk
    exact h1 k cs hb, fun p hp => own_same (h.data p hp) fun k hk => by
    obtain ⟨cs, hb⟩ := own_blk (h.data p hp) hk
    exact h2 p hp k hk cs hb⟩
def flN (bs : List (List UInt8)) (k : Nat) : Nat := (bs.take k).flatten.length
/-- What waits lies apart from the packets' bytes. -/
def Apart (ps : List PR) (wv : Value) : Prop := ∀ p ∈ ps, ∀ j, (Value.slice p.A p.data.length p.c).ownBlock = some j → wv.ownBlock ≠ some j
theorem flat_le {bs : List (List UInt8)} (h : ∀ b ∈ bs, b.length ≤ 120) (h2 : bs.length ≤ 30) (k : Nat) : (bs.take k).flatten.length ≤ 3600 := by
  have : ∀ l : List (List UInt8), (∀ b ∈ l, b.length ≤ 120) → l.flatten.length ≤ l.length * 120 := by
    intro l
    induction l with
    | nil => intro _; simp
    | cons b l ih =>
      intro hb
      have := ih fun b' hb' => hb b' (by simp [hb'])
      have := hb b (by simp)
      rw [List.flatten_cons, List.length_append, List.length_cons]
      omega
  have h4 := this (bs.take k) fun b hb => h b (List.mem_of_mem_take hb)
  have h5 : (bs.take k).length ≤ bs.length := by rw [List.length_take]; omega
  omega
theorem st_ok {r d : Nat} {lost : List Int} {bs : List (List UInt8)} (he : errNew r d lost = 0) (hf : ∀ k, (bs.take k).flatten.length ≤ 3600) : ∀ k, k ≤ 1000 → (stK r d lost bs k).Ok ∧ ((stK r d lost bs k).send (bs.getD k [])).Ok := fun k => by
  have hs : ∀ k, (stK r d lost bs k).Ok → ((stK r d lost bs k).send (bs.getD k [])).Ok := fun k h => send_ok h _ (by
    rw [(st_eq k).1]
    have h1 := sent_sum (r := r) (d := d) (lost := lost) (bs := bs) k
    have h2 := hf (k + 1)
    rw [take_flat, List.length_append] at h2
    dsimp only
    omega)
  induction k with
  | zero => exact fun _ => ⟨start_ok he, hs 0 (start_ok he)⟩
  | succ k ih =>
    intro hk
    have h := ih (by omega)
    have h2 : (stK r d lost bs (k + 1)).Ok := tick_ok _ h.2 (by have := (st_eq (r := r) (d := d) (lost := lost) (bs := bs) k).1; rw [this]; show (k : Int) < 1000000; omega)
    exact ⟨h2, hs _ h2⟩
theorem blk_call {w w' : World} {g : Nat} {t : TypeId} {cs : Array Value} (h : Blk w g t cs) (hb : Below w.heap.size w w') : Blk w' g t cs := h.below hb h.lt
/-- The packets that come at a tick, of those that are left to look at. -/
def gotP (ps : List PR) (i now : Nat) : List Pk := (((ps.drop i).map PR.rp).filter (fun p => decide (p.at_ = (now : Int)))).map RP.pk
def goneP (left : Nat) (ps : List PR) (i : Nat) : Nat := goneL left ((ps.take i).map PR.rp)
def comP (d now : Nat) (ps : List PR) (i : Nat) : Bool := comingL d now ((ps.take i).map PR.rp)
def GotIs (w : World) (base : Nat) (l : List Pk) (v : Value) : Prop := (l = [] ∧ ∃ A c, v = .slice A 0 c) ∨ ∃ p, l = [p] ∧ PackAt w base (.slice none 0 0) v p
theorem GotIs.below {w w' : World} {base : Nat} {l : List Pk} {v : Value} (h : GotIs w base l v) (hb : Below w.heap.size w w') : GotIs w' base l v := by
  rcases h with h | ⟨p, h1, h2⟩
  · exact .inl h
  · exact .inr ⟨p, h1, h2.below hb⟩
theorem GotIs.drew {w : World} {base : Nat} {l : List Pk} {v : Value} (h : GotIs w base l v) : GotIs w.drew base l v := h.below (bw_drew (Below.refl w.heap.size w))
theorem gotP_step {ps : List PR} {i now : Nat} {p : PR} (h : ps[i]? = some p) : gotP ps i now = if p.at_ = (now : Int) then ⟨p.at_, p.seq, p.data⟩ :: gotP ps (i + 1) now else gotP ps (i + 1) now := by
  obtain ⟨hl, he⟩ := List.getElem?_eq_some_iff.1 h
  unfold gotP
  rw [List.drop_eq_getElem_cons hl, he, List.map_cons, List.filter_cons]
  have e : (PR.rp p).at_ = p.at_ := rfl
  rw [e]
  by_cases hx : p.at_ = (now : Int)
  · rw [if_pos hx, if_pos (decide_eq_true hx)]; rfl
  · rw [if_neg hx, if_neg (by rw [decide_eq_true_eq]; exact hx)]
theorem take_map_snoc {ps : List PR} {i : Nat} {p : PR} (h : ps[i]? = some p) : (ps.take (i + 1)).map PR.rp = (ps.take i).map PR.rp ++ [PR.rp p] := by
  obtain ⟨hl, he⟩ := List.getElem?_eq_some_iff.1 h
  rw [List.take_succ_eq_append_getElem hl, he, List.map_append]; rfl
theorem goneP_step {left : Nat} {ps : List PR} {i : Nat} {p : PR} (h : ps[i]? = some p) : goneP left ps (i + 1) = if p.seq < (left : Int) then goneP left ps i + p.data.length else goneP left ps i := by
  unfold goneP
  rw [take_map_snoc h, goneL_snoc]; rfl
theorem comP_step {d now : Nat} {ps : List PR} {i : Nat} {p : PR} (h : ps[i]? = some p) : comP d now ps (i + 1) = (comP d now ps i || (decide ((now : Int) < p.at_) && decide (p.at_ - (d : Int) ≤ (now : Int)))) := by
  unfold comP
  rw [take_map_snoc h, comingL_snoc]; rfl
theorem gone_le (left : Nat) : ∀ l : List RP, goneL left l ≤ sizes l
  | [] => Nat.le_refl _
  | p :: l => by
    have ih := gone_le left l
    unfold goneL sizes at *
    rw [List.filter_cons]
    split
    · simp only [List.map_cons, List.sum_cons]; omega
    · simp only [List.map_cons, List.sum_cons]; omega
theorem sizes_take (l : List RP) (i : Nat) : sizes (l.take i) ≤ sizes l := by
  have := sizes_append (l.take i) (l.drop i)
  rw [List.take_append_drop] at this
  omega
theorem sizes_mem (l : List RP) (p : RP) (h : p ∈ l) : p.data.length ≤ sizes l := by
  obtain ⟨a, b, rfl⟩ := List.append_of_mem h
  rw [show a ++ p :: b = (a ++ [p]) ++ b by simp, sizes_append, sizes_snoc]
  omega
theorem flat3 (ps : List PR) : ∀ (k : Nat) (p : PR), ps[k]? = some p → (ps.flatMap PR.cells)[k * 3]? = some (.int .i64 p.seq) ∧ (ps.flatMap PR.cells)[k * 3 + 1]? = some (.int .i64 p.at_) ∧ (ps.flatMap PR.cells)[k * 3 + 2]? = some (.slice p.A p.data.length p.c) := by
  induction ps with
  | nil => intro k p h; simp at h
  | cons q ps ih =>
    intro k p h
    cases k with
    | zero => simp at h; subst h; exact ⟨rfl, rfl, rfl⟩
    | succ k =>
      have := ih k p (by simpa using h)
      rw [show (k + 1) * 3 = k * 3 + 3 by omega]
      exact this
theorem RowIs.at_ {w : World} {base i : Nat} {A : Option Addr} {c : Nat} {ps : List PR} {p : PR} (h : RowIs w base A c ps) (hp : ps[i]? = some p) :
    ∃ gr, w.cell? ⟨gr, i * 3, none⟩ = some (.int .i64 p.seq) ∧ w.cell? ⟨gr, i * 3 + 1, none⟩ = some (.int .i64 p.at_) ∧ w.cell? ⟨gr, i * 3 + 2, none⟩ = some (.slice p.A p.data.length p.c) ∧ A = some ⟨gr, 0, none⟩ := by
  have hl := (List.getElem?_eq_some_iff.1 hp).1
  obtain ⟨g, cap, hv, hb, hlt⟩ := h.row.form (by omega)
  injection hv with hA _ hc
  subst hA hc
  obtain ⟨h1, h2, h3⟩ := flat3 ps i p hp
  have e : ∀ j, (⟨g, j, none⟩ : Addr) = (⟨g, 0, none⟩ : Addr).add j := fun j => by simp [Addr.add]
  exact ⟨g, by rw [e]; exact h.row.cells (g := g) rfl _ _ h1, by rw [e]; exact h.row.cells (g := g) rfl _ _ h2, by rw [e]; exact h.row.cells (g := g) rfl _ _ h3, rfl⟩
set_option maxRecDepth 100000 in
set_option maxHeartbeats 4000000 in
theorem left_any (r d : Nat) (A A2 Aa : Option Addr) (n c n2 c2 na ca : Nat) (lost : List Int) (bs : List (List UInt8)) (now : Nat) (w : World) (hr1 : 1 ≤ r) (hr2 : r ≤ 65536) (hd : d ≤ 1000) (hn : n ≤ 1000) (hl : Reads w w.heap.size 1 A n (lost.map (Value.int .i64))) (hr : RowsAt w w.heap.size A2 n2 bs)
    (hn2 : n2 ≤ 30) (hbs : ∀ b ∈ bs, b.length ≤ 120) (ht : now ≤ 60) :
    Calls Try.prog 17 #[.slice Aa na ca, .slice A2 n2 c2, .agg #[.int .i64 (r : Int), .int .i64 (d : Int), .slice A n c], .int .i64 (now : Int)] w fun e w' => e = .returned (.int .i64 ((sentK r d lost bs now).1.length : Int)) ∧ Below w.heap.size w w' := by
  obtain ⟨V, hV⟩ : ∃ V, V = w.alloc (.cells #[.int .i64 (r : Int), .int .i64 (d : Int), .slice A n c] 24) := ⟨_, rfl⟩
  have hb : Below w.heap.size w V := by rw [hV]; exact bw_alloc (Below.refl _ _) _
  have GB : Blk V w.heap.size 24 #[.int .i64 (r : Int), .int .i64 (d : Int), .slice A n c] := by rw [hV]; exact Blk.new _ _ _
  have HV := Lib.hid hV
  have HB := Lib.hid hb
  have HS := Lib.hid (sent_any r d A A2 n c n2 c2 lost bs now V hr1 hr2 hd hn ((hl.below hb).more hb.size) ((hr.below hb).more_ hb.size) hn2 hbs ht)
  have c0 := GB.cell 0
  have c1 := GB.cell 1
  have c2' := GB.cell 2
  simp at c0 c1 c2'
  clear hl hr hbs hb GB hV
  go_enter Try.func17, Try.ntmps17
  go_upto_region 1 with (fail)
  rw [← HV.out]
  clear HV
  go_wp2_with fail
  refine HS.out.mono ?_
  rintro e w5 ⟨Ab, cb, ps, rfl, _, hps, hb5⟩
  have hle : ps.length = (sentK r d lost bs now).1.length := by rw [← hps, List.length_map]
  have HLE := Lib.hid hle
  have HB5 := Lib.hid (bw_call HB.out hb5)
  clear hle hps hb5 HS
  go_wp2_with fail
  go_ret
  exact ⟨by rw [HLE.out]; rfl, HB5.out⟩
attribute [local irreducible] Blk World.alloc World.setCell World.cell? World.frozen?
set_option maxRecDepth 100000 in
set_option maxHeartbeats 8000000 in
theorem tells_main (r d : Nat) (A A2 : Option Addr) (n c n2 c2 more : Nat) (lost : List Int) (bs : List (List UInt8)) (w : World) (hp : PlanIn w lost A n) (hr : RowsAt w w.heap.size A2 n2 bs) (hm : more < 256)
    (hg : greatB bs n = false) (he : errNew r d lost = 0) :
    Calls Try.prog 3 #[.agg #[.int .i64 r, .int .i64 d, .slice A n c], .slice A2 n2 c2, .int .u8 (more : Int)] w (True_ w) := by
  obtain ⟨i0, hi0, hz0, hz1, hz2⟩ := info_parts u8_info
  obtain ⟨g1, g2, hbl⟩ := great_no hg
  have hn2 : n2 ≤ 30 := by have := hr.1; omega
  have hok := start_ok he
  have hr1 : 1 ≤ r := by have := hok.rate1; have e : (LS.start r d lost).rate = r := rfl; omega
  have hr2 : r ≤ 65536 := by have := hok.rate2; have e : (LS.start r d lost).rate = r := rfl; omega
  have hd2 : d ≤ 1000 := by have := hok.delay2; have e : (LS.start r d lost).delay = d := rfl; omega
  have HP := Lib.hid hp
  have HR := Lib.hid hr
  have HBL := Lib.hid hbl
  have HG := Lib.hid hg
  have HE := Lib.hid he
  have HLEN : Hid (bs.length = n2) := Lib.hid hr.1
  have HFL : Hid (∀ k, flN bs k ≤ 3600) := Lib.hid (flat_le hbl (by have := hr.1; omega))
  have HRW : Hid (∀ W, Below w.heap.size w W → RowsAt W W.heap.size A2 n2 bs) := Lib.hid fun W h => (hr.below h).more_ h.size
  clear hp hr hbl hg he hok
  go_enter Try.func3, Try.ntmps3
  go_wp2_with fail
  refine (awake_any _).mono ?_
  rintro e w2 ⟨rfl, hb⟩
  have b2 := (Blk.new w 24 #[.int .i64 (r : Int), .int .i64 (d : Int), .slice A n c]).below hb (by simp)
  have hbe : Below w.heap.size w w2 := ((Below.refl _ _).alloc (Nat.le_refl _) (.cells #[.int .i64 (r : Int), .int .i64 (d : Int), .slice A n c] 24)).trans (hb.mono (by simp))
  have c0 := b2.cell 0
  have c1 := b2.cell 1
  have c2' := b2.cell 2
  simp at c0 c1 c2'
  have HB := Lib.hid hbe
  have B2 := Lib.hid b2
  clear hb b2 hbe
  go_wp2_with fail
  have hgr := great_any A2 A n2 c2 n c w.heap.size bs w2 (HR.out.below HB.out) (by omega) (by omega) (fun b hb => by have := HBL.out b hb; omega)
  rw [HG.out] at hgr
  refine hgr.mono ?_
  rintro e w' ⟨rfl, rfl⟩
  clear hgr
  go_wp2_with fail
  refine (new_any r d A n c lost w2 (by omega) ((HP.out.reads.below HB.out).more HB.out.size) HP.out.wf).mono ?_
  rintro e w3 hN
  rcases hN with ⟨h0, _⟩ | ⟨_, hb3, g, bl, bw, rfl, h2, h3, h4, h5, h6, h7, h8⟩
  · exact absurd HE.out h0
  have HL3 := Lib.hid (start_at (base := w2.heap.size) h2 h3 h4 h5 h6 h7 h8)
  have HB3 := Lib.hid (bw_call HB.out hb3)
  have HC3 := Lib.hid hb3
  have B3 := Lib.hid (B2.out.below hb3 B2.out.lt)
  clear h2 h3 h4 h5 h6 h7 h8 hb3 c0 c1 c2'
  have c0 := B3.out.cell 0
  have c1 := B3.out.cell 1
  have c2' := B3.out.cell 2
  simp at c0 c1 c2'
  have HF : Hid (Calls Try.prog 13 #[.int .i64 r, .int .i64 d, .slice A n c] w3 fun e w' => e = .returned (.int .i64 0) ∧ ∃ q, w' = w3.drewN q) := by
    have := refFits_any r d A n c lost w3 (by omega) ((HP.out.reads.below HB3.out).more HB3.out.size)
    rw [HE.out] at this
    exact Lib.hid this
  go_wp2_with fail
  refine HF.out.mono ?_
  rintro e w4 ⟨rfl, q, hq⟩
  have HL4 : Hid (LineAt w4 w2.heap.size g bl bw (.slice none 0 0) (fun _ => none) (LS.start r d lost)) := by subst hq; exact Lib.hid (HL3.out.drewN q)
  have HB4 : Hid (Below w.heap.size w w4) := by subst hq; exact Lib.hid (below_drewN HB3.out q)
  have HC4 : Hid (Below w2.heap.size w2 w4) := by subst hq; exact Lib.hid (below_drewN HC3.out q)
  have B4 : Hid (Blk w4 w.heap.size 24 #[.int .i64 r, .int .i64 d, .slice A n c]) := by subst hq; exact Lib.hid (B3.out.drewN q)
  clear hq HF HL3 HB3 HC3 B3 c0 c1 c2'
  have c0 := B4.out.cell 0
  have c1 := B4.out.cell 1
  have c2' := B4.out.cell 2
  simp at c0 c1 c2'
  obtain ⟨ex, hex⟩ : ∃ ex : Nat, Int.tmod (more : Int) 30 = (ex : Int) ∧ ex < 30 := by
    have h1 := Int.tmod_nonneg 30 (show (0 : Int) ≤ (more : Int) by omega)
    have h2 := Int.tmod_lt_of_pos (more : Int) (show (0 : Int) < 30 by omega)
    exact ⟨(Int.tmod (more : Int) 30).toNat, by omega, by omega⟩
  obtain ⟨hex, hex2⟩ := hex
  have hcv : IntKind.i64.wrap (more : Int) = (more : Int) := IntWalk.i64_in _ (by omega)
  have hwx : IntKind.i64.wrap (ex : Int) = (ex : Int) := IntWalk.i64_in _ (by omega)
  obtain ⟨tk, htk⟩ : ∃ tk, tk = n2 + ex := ⟨_, rfl⟩
  have hws : IntKind.i64.wrap ((n2 : Int) + (ex : Int)) = (tk : Int) := by rw [htk]; rw [IntWalk.i64_in _ (by omega)]; omega
  have htk6 : tk ≤ 60 := by omega
  clear htk
  go_wp2_with fail
  refine (sent_any r d A A2 n c n2 c2 lost bs tk w4 hr1 hr2 hd2 (by omega) ((HP.out.reads.below HB4.out).more HB4.out.size) (HRW.out w4 HB4.out) hn2 HBL.out htk6).mono ?_
  rintro e w5 ⟨Aa, ca, ps, rfl, hro, hps, hb⟩
  have HRO5 := Lib.hid hro
  have HPS := Lib.hid hps
  have HL5 := Lib.hid (HL4.out.below hb)
  have HB5 := Lib.hid (bw_call HB4.out hb)
  have HC5 := Lib.hid (bw_call HC4.out hb)
  have hpl : ps.length ≤ 60 := by
    have h1 := sent_len (r := r) (d := d) (lost := lost) (bs := bs) tk
    rw [← hps, List.length_map] at h1
    omega
  clear hro hps hb HL4 HC4 c0 c1 c2' hex hex2 hcv hwx hws HG
  go_wp2_with fail
  go_loopw [12, 13, 14, 15, 16, 17, 18, 20] (fun bv kv _ _ _ _ _ _ wr => ∃ k : Nat, k ≤ tk ∧ kv = .int .i64 ((k : Int) + 1) ∧ bv = .int .i64 (flN bs k : Int) ∧
    Hid (∃ wv fw, LineAt wr w2.heap.size g bl bw wv fw (stK r d lost bs k) ∧ Apart ps wv) ∧ Hid (RowIs wr w4.heap.size Aa ca ps) ∧ Hid (Below w2.heap.size w2 wr)) (fun _ kv _ _ _ _ _ _ _ => tk + 1 - (intOf kv).toNat)
  case atStart => exact ⟨0, by omega, rfl, rfl, ⟨_, _, HL5.out, fun p _ j _ e => by simp [Value.ownBlock] at e⟩, HRO5.out, HC5.out⟩
  case round =>
    obtain ⟨k, hk, rfl, rfl, HLX, HRO, HC⟩ := hrel
    obtain ⟨wB, hwB⟩ : ∃ wB : World, wB = wr := ⟨_, rfl⟩
    rw [← hwB] at HLX HRO HC ⊢
    clear hwB HL5 HRO5 HC5 HB5
    have HBw : Hid (Below w.heap.size w wB) := Lib.hid (bw_call HB.out HC.out)
    have BX := Lib.hid (B2.out.below HC.out B2.out.lt)
    by_cases hlt : k < tk
    · have hki : (k : Int) + 1 ≤ (tk : Int) := by omega
      have hf0 := HFL.out k
      have hf1 := HFL.out (k + 1)
      go_upto_if 79 with (fail)
      go_cut [12, 14, 15] (fun bv _ _ wc => bv = .int .i64 (flN bs (k + 1) : Int) ∧ Hid (∃ wv fw, LineAt wc w2.heap.size g bl bw wv fw ((stK r d lost bs k).send (bs.getD k [])) ∧ Apart ps wv) ∧ Hid (RowIs wc w4.heap.size Aa ca ps) ∧ Hid (Below w2.heap.size w2 wc))
      case first =>
        by_cases hkn : k < n2
        · have hkj : (k : Int) + 1 ≤ (n2 : Int) := by omega
          obtain ⟨ad, b, A', c', rfl, hbk, hbb, hc, hrd⟩ := (HRW.out wB HBw.out).at_ hkn
          have HBK := Lib.hid hbk
          have hb120 := HBL.out b (List.mem_of_getElem? hbk)
          have hgd : bs.getD k [] = b := by rw [List.getD_eq_getElem?_getD, hbk]; rfl
          have hfe : flN bs (k + 1) = flN bs k + b.length := by unfold flN; rw [take_flat, hgd, List.length_append]
          have hfb : flN bs k + b.length ≤ 3600 := by rw [← hfe]; exact hf1
          have HFE := Lib.hid hfe
          clear hfe
          have HGD := Lib.hid hgd
          have hwk : IntKind.i64.wrap (k : Int) = (k : Int) := IntWalk.i64_in _ (by omega)
          have hk0 : (0 : Int) ≤ (k : Int) ∧ (k : Int) < (n2 : Int) := by omega
          have HRD := Lib.hid hrd
          have hadb := World.block_lt_of_cell? _ _ hc
          have hadc : (wB.alloc (.cells #[] 5)).cell? (ad.add k) = some (.slice A' b.length c') := (World.cell?_alloc_lt _ _ _ hadb).trans hc
          clear hbk hrd hgd hf1
          obtain ⟨wv, fw, hlx, hap⟩ := HLX.out
          have HLK := Lib.hid hlx
          have HAP := Lib.hid hap
          clear hlx hap HLX
          go_upto_region 15 with (at_builtin; go_must (refine wpList_append_sl _ rfl (.tmp 80) (.tmp 85) _ rfl wB.heap.size 5 i0 _ 1 1 Try.underlying35 hi0 hz0 hz1 hz2 rfl (by omega) (.slice (some ⟨wB.heap.size, 0, none⟩) 0 0) 0 [] rfl (World.ownsRow_made (base := wB.heap.size) (e := 5) (size := 1) wB #[] 0 (Nat.le_refl _) (by decide) rfl) wB.heap.size A' b.length c' (B8 b) rfl (HRD.out.alloc (Nat.le_refl _) _) (B8_oneCell _) (by simp only [maxLen]; omega) (by omega) (by simp) ?_); intro A5 c5 w7 hown7 hg7 hat7)
          have hB7 : Below wB.heap.size wB w7 := bw_grow (bw_alloc (Below.refl wB.heap.size wB) _) hg7 (fun x hx => by simp only [Value.ownBlock, Option.some.injEq] at hx; omega)
          rw [Nat.zero_add] at hown7 hat7
          rw [List.nil_append] at hown7
          obtain ⟨go, hgo⟩ : ∃ go, (Value.slice A5 b.length c5).ownBlock = some go := by
            rcases hat7 with e | e
            · exact ⟨_, e⟩
            · exact ⟨_, e⟩
          have HGO : Hid (wB.heap.size ≤ go ∧ go < w7.heap.size) := Lib.hid (hown7.lt go hgo)
          have HGOE := Lib.hid hgo
          have HO7 := Lib.hid hown7
          have HB7 := Lib.hid hB7
          have HS := Lib.hid (send_any2 g bl bw w2.heap.size w7.heap.size wv fw (stK r d lost bs k) w7 A5 b.length c5 b (HLK.out.below hB7) (by rw [(st_eq k).1]; have h1 := sent_sum (r := r) (d := d) (lost := lost) (bs := bs) k; have h2 : flN bs k = (bs.take k).flatten.length := rfl; dsimp only; omega) (Reads.of_own hown7))
          clear hg7 hat7 hown7 hgo hB7 hc
          go_wp2_with fail
          refine HS.out.mono ?_
          rintro e w8 ⟨rfl, wv8, hl8, ho8, hat8⟩
          have HL8 := Lib.hid hl8
          have HA8 := Lib.hid hat8
          have HY8 := Lib.hid ho8
          have HO8 : Hid (w8.ownsRow wB.heap.size 5 1 (.slice A5 b.length c5) b.length (B8 b)) := Lib.hid (own_same HO7.out fun j hj => by
            obtain ⟨cs, hb⟩ := own_blk HO7.out hj
            refine ho8.block j hb.lt ?_
            rintro (e | e)
            · exact hb.ne_ (HLK.out.blk.below HB7.out HLK.out.blk.lt) (by decide) e
            · have h1 := (HLK.out.wait.lt j e).2
              have h2 := (HO7.out.lt j hj).1
              omega)
          have HR8 : Hid (RowIs w8 w4.heap.size Aa ca ps) := Lib.hid ((HRO.out.below HB7.out).keep (fun j cs hb => by
              refine ho8.block j hb.lt ?_
              rintro (e | e)
              · exact hb.ne_ (HLK.out.blk.below HB7.out HLK.out.blk.lt) (by decide) e
              · obtain ⟨ds, hd⟩ := own_blk (HLK.out.below HB7.out).wait e
                exact hb.ne_ hd (by decide) rfl) fun p hp j hj cs hb => by
              refine ho8.block j hb.lt ?_
              rintro (e | e)
              · exact hb.ne_ (HLK.out.blk.below HB7.out HLK.out.blk.lt) (by decide) e
              · exact HAP.out p hp j hj e)
          clear hl8 hat8 ho8 HS HRD
          go_wp2_with fail
          go_loopw [93, 15] (fun iv _ wr => ∃ i : Nat, i ≤ b.length ∧ iv = .int .i64 (i : Int) ∧ Hid (∃ xs : List Value, (∀ u ∈ xs, ∃ z : Int, u = .int .u8 z) ∧ wr.ownsRow wB.heap.size 5 1 (.slice A5 b.length c5) b.length xs) ∧ Hid (Only (fun j => j = go) w8 wr)) (fun iv _ _ => b.length - (intOf iv).toNat)
          case atStart => exact ⟨0, by omega, rfl, ⟨B8 b, fun u hu => by obtain ⟨z, _, rfl⟩ := List.mem_map.1 hu; exact ⟨_, rfl⟩, HO8.out⟩, Only.refl _ _⟩
          case round =>
            obtain ⟨i, hi, rfl, HX, HOL⟩ := hrel
            obtain ⟨wC, hwC⟩ : ∃ wC : World, wC = wr := ⟨_, rfl⟩
            rw [← hwC] at HX HOL ⊢
            clear hwC
            by_cases hil : i < b.length
            · have hii : (i : Int) < (b.length : Int) := by omega
              obtain ⟨xs, hxi, hox⟩ := HX.out
              obtain ⟨gq, rfl, _, _, _, hz⟩ := own_pt hox hil
              obtain rfl : gq = go := by have := HGOE.out; simp only [Value.ownBlock, Option.some.injEq] at this; exact this
              have hxl : i < xs.length := by have := hox.1; omega
              obtain ⟨z, hzv⟩ := hxi xs[i] (List.getElem_mem hxl)
              have hcc : wC.cell? ⟨gq, i, none⟩ = some (.int .u8 z) := by
                have := hox.cells (g := gq) rfl i _ (List.getElem?_eq_getElem hxl)
                rw [hzv] at this
                rw [show (⟨gq, i, none⟩ : Addr) = (⟨gq, 0, none⟩ : Addr).add i by simp [Addr.add]]
                exact this
              have HOX := Lib.hid hox
              have HXI := Lib.hid hxi
              clear hxi hox hzv HX
              go_wp2_with fail
              go_roundw
              case rel =>
                refine ⟨i + 1, by omega, by go_num, Lib.hid ⟨_, fun u hu => ?_, (HOX.out.stored i _).1⟩, Lib.hid (HOL.out.setCell (.inl rfl) _)⟩
                rcases List.mem_or_eq_of_mem_set hu with h | h
                · exact HXI.out u h
                · exact ⟨_, h⟩
              case measure => simp [intOf]; omega
            · obtain rfl : b.length = i := by omega
              go_wp2_with fail
              go_meet
              rw [HGD.out, HFE.out]
              have h8 : w7.heap.size ≤ w8.heap.size := HY8.out.size
              have h7 : wB.heap.size ≤ w7.heap.size := HB7.out.size
              have hgo := HGO.out
              refine ⟨by simp, Lib.hid ⟨wv8, fw, line_own HLK.out HL8.out rfl (fun j h1 h2 h3 => (HY8.out.block j (by omega) (by rintro (e | e); exact h2 e; exact h3 e)).trans (HB7.out.block j h1)) ?_ HOL.out hgo.1 (by omega) ?_, fun p hp j hj e => ?_⟩, Lib.hid (HR8.out.keep (fun j cs hb => HOL.out.block j hb.lt (fun e => ?_)) fun p hp j hj cs hb => HOL.out.block j hb.lt (fun e => ?_)), Lib.hid (HC.out.trans ?_)⟩
              · rcases HA8.out with e | e
                · exact .inl e
                · exact .inr fun j hj => by rw [e] at hj; cases hj; exact h7
              · intro e
                rcases HA8.out with e2 | e2
                · rw [e2] at e; have := (HLK.out.wait.lt _ e).2; omega
                · rw [e2] at e; injection e with e; omega
              · have hd := ((HRO.out.data p hp).lt j hj).2
                rcases HA8.out with e2 | e2
                · rw [e2] at e; exact HAP.out p hp j hj e
                · rw [e2] at e; injection e with e; omega
              · obtain ⟨ds, hd⟩ := own_blk HO8.out HGOE.out
                rw [e] at hb
                exact hb.ne_ hd (by decide) rfl
              · have hd := ((HRO.out.data p hp).lt j hj).2
                omega
              · have h2 := HC.out.size
                refine (HB7.out.mono h2).trans ((HY8.out.below (by omega) fun j hj => ?_).trans (HOL.out.below (by omega) fun j hj e => by omega))
                rintro (e | e)
                · have := HLK.out.g1; omega
                · have := (HLK.out.wait.lt j e).1; omega
        · have hkj : ¬ (k : Int) + 1 ≤ (n2 : Int) := by omega
          go_wp2_with fail
          go_meet
          have e : bs.getD k [] = [] := by rw [List.getD_eq_getElem?_getD, List.getElem?_eq_none (by have := HLEN.out; omega)]; rfl
          have e3 : flN bs (k + 1) = flN bs k := by unfold flN; rw [take_flat, e, List.append_nil]
          rw [e, e3]
          refine ⟨rfl, Lib.hid ?_, HRO, HC⟩
          have e2 : (stK r d lost bs k).send [] = stK r d lost bs k := by unfold LS.send; rw [List.append_nil]
          rw [e2]; exact HLX.out
      case rest =>
        obtain ⟨rfl, HLY, HROY, HCY⟩ := hcut
        clear HLX HRO HC HBw BX hf0
        obtain ⟨wD, hwD⟩ : ∃ wD : World, wD = wc := ⟨_, rfl⟩
        rw [← hwD] at HLY HROY HCY ⊢
        clear hwD
        obtain ⟨wv, fw, hly, hap⟩ := HLY.out
        have HLK := Lib.hid hly
        have HAP := Lib.hid hap
        clear hly hap HLY
        have HTK := Lib.hid (tick_any2 g bl bw w2.heap.size wv fw _ wD HLK.out (st_ok HE.out (fun k => HFL.out k) k (by omega)).2)
        go_wp2_with fail
        refine HTK.out.mono ?_
        rintro e w9 ⟨v, wv9, fw9, rfl, hl9, hout9, ho9, hn9⟩
        have HL9 : Hid (LineAt w9 w2.heap.size g bl bw wv9 fw9 (stK r d lost bs (k + 1))) := Lib.hid hl9
        have HR9 : Hid (RowIs w9 w4.heap.size Aa ca ps) := Lib.hid (HROY.out.keep (fun j cs hb => ho9.block j hb.lt (by
            rintro (e | e)
            · exact hb.ne_ HLK.out.blk (by decide) e
            · exact HLK.out.way.ne_blk hb e.symm)) fun p hp j hj cs hb => ho9.block j hb.lt (by
            rintro (e | e)
            · exact hb.ne_ HLK.out.blk (by decide) e
            · exact HLK.out.way.ne_blk hb e.symm))
        have HC9 : Hid (Below w2.heap.size w2 w9) := Lib.hid (HCY.out.trans (ho9.below HCY.out.size fun j hj => by
            have h1 := HLK.out.g1
            have h2 := HLK.out.bw1
            rintro (e | e) <;> omega))
        have HAP9 : Hid (Apart ps wv9) := Lib.hid fun p hp j hj e => by
          have hd := ((HROY.out.data p hp).lt j hj).2
          rcases hn9 with e2 | e2
          · rw [e2] at e; exact HAP.out p hp j hj e
          · have := e2 j e; omega
        have HG9 : Hid (GotIs w9 w2.heap.size (gotP ps 0 (k + 1)) v) := by
          refine Lib.hid ?_
          have e1 : gotP ps 0 (k + 1) = ((stK r d lost bs k).send (bs.getD k [])).out := by rw [out_all (n := tk) (by omega), ← HPS.out]; rfl
          rw [e1]
          rcases hout9 with ⟨h1, rfl⟩ | ⟨p, h1, h2⟩
          · exact .inl ⟨h1, _, _, rfl⟩
          · exact .inr ⟨p, h1, h2⟩
        obtain ⟨lf, hlf⟩ : ∃ lf, lf = (sentK r d lost bs (k + 1)).1.length := ⟨_, rfl⟩
        have HLF := Lib.hid hlf
        have hlf6 : lf ≤ 60 := by have := sent_len (r := r) (d := d) (lost := lost) (bs := bs) (k + 1); omega
        have HGL : Hid (∀ i, goneP lf ps i ≤ 3600) := Lib.hid fun i => by
          have h1 := gone_le lf ((ps.take i).map PR.rp)
          have h2 := sizes_take (ps.map PR.rp) i
          have h3 := sent_sum (r := r) (d := d) (lost := lost) (bs := bs) tk
          have h4 := HFL.out tk
          rw [← HPS.out] at h3
          rw [← List.map_take] at h2
          unfold flN at h4
          unfold goneP
          omega
        have HLEFT : Hid (∀ W, Below w.heap.size w W → Calls Try.prog 17 #[.slice Aa ps.length ca, .slice A2 n2 c2, .agg #[.int .i64 (r : Int), .int .i64 (d : Int), .slice A n c], .int .i64 ((k : Int) + 1)] W fun e w' => e = .returned (.int .i64 (lf : Int)) ∧ Below W.heap.size W w') := Lib.hid fun W h => by
          have := left_any r d A A2 Aa n c n2 c2 ps.length ca lost bs (k + 1) W hr1 hr2 hd2 (by omega) ((HP.out.reads.below h).more h.size) (HRW.out W h) hn2 HBL.out (by omega)
          rw [← HLF.out, show ((k + 1 : Nat) : Int) = (k : Int) + 1 by omega] at this
          exact this
        clear hl9 hout9 ho9 hn9 HLK HROY HAP HTK hlf HCY
        go_wp2_with fail
        go_loopw [111, 16, 17, 18, 20] (fun iv gv ov cv _ wr => ∃ i : Nat, i ≤ ps.length ∧ iv = .int .i64 (i : Int) ∧ Hid (GotIs wr w2.heap.size (gotP ps i (k + 1)) gv) ∧ ov = .int .i64 (goneP lf ps i : Int) ∧ cv = .bool (comP d (k + 1) ps i) ∧ Hid (Below w9.heap.size w9 wr)) (fun iv _ _ _ _ _ => ps.length - (intOf iv).toNat)
        case atStart => exact ⟨0, by omega, rfl, HG9, rfl, rfl, Below.refl _ _⟩
        case round =>
          obtain ⟨i, hi, rfl, HGI, rfl, rfl, HBR⟩ := hrel
          obtain ⟨wE, hwE⟩ : ∃ wE : World, wE = wr := ⟨_, rfl⟩
          rw [← hwE] at HGI HBR ⊢
          clear hwE HG9
          by_cases hil : i < ps.length
          · have hii : (i : Int) < (ps.length : Int) := by omega
            obtain ⟨p, hp⟩ : ∃ p, ps[i]? = some p := ⟨_, List.getElem?_eq_getElem hil⟩
            have hpm := List.mem_of_getElem? hp
            obtain ⟨gr, x0, x1, x2, rfl⟩ := (HR9.out.below HBR.out).at_ hp
            obtain ⟨sq, av, pA, pc, pd⟩ := p
            dsimp only at x0 x1 x2
            have hav := sent_in (r := r) (d := d) (lost := lost) (bs := bs) tk (PR.rp ⟨sq, av, pA, pc, pd⟩) (by rw [← HPS.out]; exact List.mem_map_of_mem hpm)
            have hav2 : -1 ≤ av ∧ av ≤ 2000 ∧ 0 ≤ sq ∧ sq ≤ 60 := by
              obtain ⟨h1, h2, h3⟩ := hav
              have h4 : (PR.rp ⟨sq, av, pA, pc, pd⟩).at_ = av := rfl
              have h5 : (PR.rp ⟨sq, av, pA, pc, pd⟩).seq = sq := rfl
              rw [h4] at h1
              rw [h5] at h2 h3
              have h6 := sent_len (r := r) (d := d) (lost := lost) (bs := bs) tk
              rcases h1 with h1 | h1 <;> omega
            clear hav
            have HPI := Lib.hid hp
            have HPD : Hid (wE.ownsRow w4.heap.size 5 1 (.slice pA pd.length pc) pd.length (B8 pd)) := Lib.hid ((HR9.out.below HBR.out).data _ hpm)
            have hpd3 : pd.length ≤ 3600 := by
              have h1 := HGL.out
              have h2 := sizes_mem (ps.map PR.rp) (PR.rp ⟨sq, av, pA, pc, pd⟩) (List.mem_map_of_mem hpm)
              have h3 := sent_sum (r := r) (d := d) (lost := lost) (bs := bs) tk
              have h4 := HFL.out tk
              rw [← HPS.out] at h3
              unfold flN at h4
              have h5 : (PR.rp ⟨sq, av, pA, pc, pd⟩).data.length = pd.length := rfl
              omega
            have hwi : IntKind.i64.wrap (i : Int) = (i : Int) := IntWalk.i64_in _ (by omega)
            clear hp hpm
            go_upto_region 28 with (fail)
            obtain ⟨wX, hwX⟩ : ∃ wX, wX = wE.alloc (.cells #[.int .i64 sq, .int .i64 av, .slice pA pd.length pc] 40) := ⟨_, rfl⟩
            have XX : Hid (Blk wX wE.heap.size 40 #[.int .i64 sq, .int .i64 av, .slice pA pd.length pc]) := by rw [hwX]; exact Lib.hid (Blk.new _ _ _)
            have hbx : Below wE.heap.size wE wX := by rw [hwX]; exact bw_alloc (Below.refl _ _) _
            obtain ⟨gx, hgx⟩ : ∃ gx, gx = wE.heap.size := ⟨_, rfl⟩
            rw [← hwX]
            rw [← hgx] at XX ⊢
            have HGX := Lib.hid (HGI.out.below hbx)
            have HBX := Lib.hid (bw_call HBR.out hbx)
            have HPX : Hid (wX.ownsRow w4.heap.size 5 1 (.slice pA pd.length pc) pd.length (B8 pd)) := Lib.hid (own_same HPD.out fun j hj => hbx.block j (HPD.out.lt j hj).2)
            have HCX : Hid (Below w2.heap.size w2 wX) := Lib.hid (HC9.out.trans (HBX.out.mono HC9.out.size))
            have TX := Lib.hid (B2.out.below HCX.out B2.out.lt)
            clear hwX hbx hgx HGI HBR HPD x0 x1 x2
            have y0 := XX.out.cell 0
            have y1 := XX.out.cell 1
            have y2 := XX.out.cell 2
            simp at y0 y1 y2
            go_upto_if 118 with (fail)
            go_cut [16] (fun gv wc => Hid (GotIs wc w2.heap.size (gotP ps (i + 1) (k + 1)) gv) ∧ Hid (Below wX.heap.size wX wc))
            case first =>
              by_cases hat : av = (k : Int) + 1
              · have hgs := gotP_step (now := k + 1) HPI.out
                rw [if_pos (by rw [show (((k + 1 : Nat)) : Int) = (k : Int) + 1 by omega]; exact hat)] at hgs
                rcases HGX.out with ⟨h1, _⟩ | ⟨p', h1, h2⟩
                · rw [h1] at hgs; cases hgs
                rw [h1] at hgs
                injection hgs with e1 e2
                subst e1
                obtain ⟨pg, cc, Ad, dc, rfl, g0, g1, hown, cs, hbk⟩ := h2.cells
                have HE2 := Lib.hid e2
                have rr : Reads wX wX.heap.size 1 Ad pd.length (B8 pd) := Reads.of_own hown
                have rs : Reads wX wX.heap.size 1 pA pd.length (B8 pd) := Reads.of_own HPX.out
                have q1 : ∀ n, Sem.run Try.prog (convert 35 9 (.slice Ad pd.length dc)) (wX.drewN n) = .ok (.string ⟨pd.toArray⟩) (wX.drewN n) := fun n => run_conv_string (c := dc) (rr.drewN n)
                have q2 : ∀ n, Sem.run Try.prog (convert 35 9 (.slice pA pd.length pc)) (wX.drewN n) = .ok (.string ⟨pd.toArray⟩) (wX.drewN n) := fun n => run_conv_string (c := pc) (rs.drewN n)
                have hsq : (sq != sq) = false := by simp
                dsimp only at g0 g1
                obtain ⟨i9, hi9, _, hw1, _⟩ := info_parts pk_info
                obtain ⟨As, hAs⟩ : ∃ As, As = (if cc = 1 then some (⟨pg, 0, none⟩ : Addr) else (some (⟨pg, 0, none⟩ : Addr)).map (·.add (1 * 2))) := ⟨_, rfl⟩
                have hsl : ∀ wx, (Instr.slice 37 (.slice (some ⟨pg, 0, none⟩) 1 cc) (some (.int .i64 1)) none none).run Try.prog wx = .ok (.slice As 0 (cc - 1)) wx := fun wx => by
                  have := run_slice_from (P := Try.prog) Try.underlying37 hi9 (some ⟨pg, 0, none⟩) 1 cc 1 (Nat.le_refl _) wx
                  rw [hw1, ← hAs] at this
                  exact this
                clear h1 h2 e2 hown hbk rr rs hAs HGX
                subst hat
                go_upto_region 29 with (fail)
                go_quiet (fail)
                go_wp2_with fail
                go_meet
                exact ⟨Lib.hid (.inl ⟨HE2.out.symm, _, _, rfl⟩), Lib.hid (below_drewN (Below.refl _ _) _)⟩
              · have hgs := gotP_step (now := k + 1) HPI.out
                rw [if_neg (by rw [show (((k + 1 : Nat)) : Int) = (k : Int) + 1 by omega]; exact hat)] at hgs
                have hne : (av == (k : Int) + 1) = false := by rw [beq_eq_false_iff_ne]; exact hat
                rw [hgs] at HGX
                clear hgs
                go_wp2_with fail
                go_meet
                exact ⟨HGX, Lib.hid (Below.refl _ _)⟩
            case rest =>
              obtain ⟨HGY, hby⟩ := hcut
              obtain ⟨wY, hwY⟩ : ∃ wY : World, wY = wc := ⟨_, rfl⟩
              rw [← hwY] at HGY hby ⊢
              clear hwY
              have XXwY := Lib.hid (blk_call XX.out hby.out)
              have TXwY := Lib.hid (blk_call TX.out hby.out)
              have HBwY := Lib.hid (bw_call HBX.out hby.out)
              have HWwY : Hid (Below w.heap.size w wY) := Lib.hid (bw_call (bw_call HB.out HCX.out) hby.out)
              have HGwY := HGY
              clear hby HGY HGX HBX HPX HCX TX XX y0 y1 y2
              have y0 := XXwY.out.cell 0
              have y1 := XXwY.out.cell 1
              have y2 := XXwY.out.cell 2
              have t0 := TXwY.out.cell 0
              have t1 := TXwY.out.cell 1
              have t2 := TXwY.out.cell 2
              simp at y0 y1 y2 t0 t1 t2
              go_upto_region 32 with (fail)
              go_cut [18] (fun cv wz => cv = .bool (comP d (k + 1) ps (i + 1)) ∧ wz = wY)
              case first =>
                have hcs := comP_step (d := d) (now := k + 1) HPI.out
                dsimp only at hcs
                rw [show (((k + 1 : Nat)) : Int) = (k : Int) + 1 by omega] at hcs
                have HCS := Lib.hid hcs
                clear hcs
                obtain ⟨cb, hcb⟩ : ∃ cb, cb = comP d (k + 1) ps i := ⟨_, rfl⟩
                rw [← hcb] at HCS ⊢
                clear hcb
                cases cb
                · by_cases h1 : (k : Int) + 1 < av
                  · by_cases h2 : av - (d : Int) ≤ (k : Int) + 1
                    · have HCE : Hid (comP d (k + 1) ps (i + 1) = true) := Lib.hid (by rw [HCS.out, decide_eq_true h1, decide_eq_true h2]; rfl)
                      clear HCS
                      go_wp2_with fail
                      go_meet
                      exact ⟨by rw [HCE.out], rfl⟩
                    · have HCE : Hid (comP d (k + 1) ps (i + 1) = false) := Lib.hid (by rw [HCS.out, decide_eq_false h2]; simp)
                      clear HCS
                      go_wp2_with fail
                      go_meet
                      exact ⟨by rw [HCE.out], rfl⟩
                  · have HCE : Hid (comP d (k + 1) ps (i + 1) = false) := Lib.hid (by rw [HCS.out, decide_eq_false h1]; simp)
                    clear HCS
                    go_wp2_with fail
                    go_meet
                    exact ⟨by rw [HCE.out], rfl⟩
                · have HCE : Hid (comP d (k + 1) ps (i + 1) = true) := Lib.hid (by rw [HCS.out]; simp)
                  clear HCS
                  go_wp2_with fail
                  go_meet
                  exact ⟨by rw [HCE.out], rfl⟩
              case rest =>
                obtain ⟨rfl, hwz⟩ := hcut
                replace hwz := hwz.symm
                subst hwz
                clear y0 y1 y2 t0 t1 t2
                have hgo2 := HGL.out i
                have hgo3 := HGL.out (i + 1)
                go_upto_region 33 with (fail)
                by_cases hsl : sq < (lf : Int)
                · have HGE : Hid (goneP lf ps (i + 1) = goneP lf ps i + pd.length) := Lib.hid (by rw [goneP_step HPI.out, if_pos hsl])
                  have hgo4 : goneP lf ps i + pd.length ≤ 3600 := by rw [← HGE.out]; exact hgo3
                  clear hgo3
                  refine wp_region_held_drew (S := fun w' => w'.cell? ⟨gx, 0, none⟩ = some (.int .i64 sq) ∧ w'.cell? ⟨w.heap.size, 0, none⟩ = some (.int .i64 (r : Int)) ∧ w'.cell? ⟨w.heap.size, 1, none⟩ = some (.int .i64 (d : Int)) ∧ w'.cell? ⟨w.heap.size, 2, none⟩ = some (.slice A n c)) (by kernel_rfl) ⟨(XXwY.out.drew.cell 0), (TXwY.out.drew.cell 0), (TXwY.out.drew.cell 1), (TXwY.out.drew.cell 2)⟩ (fun hHeld => ?_)
                  refine held_take (i := 0) (v := ?v1) rfl (by kernel_rfl) (by kernel_rfl) (by kernel_rfl) (fun _ _ _ h => h) (Or.inl ⟨by rfl, ?hy1⟩) (by assumption) ?rest1
                  case hy1 => (intro w hSw; (try dsimp only at hSw); go_simp; try with_reducible rfl)
                  (try simp only [Act.put, List.setIfInBounds_toArray, List.set_cons_zero, List.set_cons_succ])
                  refine held_take (i := 1) (v := ?v2) rfl (by kernel_rfl) (by kernel_rfl) (by kernel_rfl) (fun _ _ _ h => h) (Or.inl ⟨by rfl, ?hy2⟩) (by assumption) ?rest2
                  case hy2 => (intro w hSw; (try dsimp only at hSw); go_simp; try with_reducible rfl)
                  (try simp only [Act.put, List.setIfInBounds_toArray, List.set_cons_zero, List.set_cons_succ])
                  refine held_take (i := 2) (v := ?v3) rfl (by kernel_rfl) (by kernel_rfl) (by kernel_rfl) (fun _ _ _ h => h) (Or.inl ⟨by rfl, ?hy3⟩) (by assumption) ?rest3
                  case hy3 => (intro w hSw; (try dsimp only at hSw); go_simp; try with_reducible rfl)
                  (try simp only [Act.put, List.setIfInBounds_toArray, List.set_cons_zero, List.set_cons_succ])
                  refine held_take (i := 3) (v := ?v4) rfl (by kernel_rfl) (by kernel_rfl) (by kernel_rfl) (fun _ _ _ h => h) (Or.inl ⟨by rfl, ?hy4⟩) (by assumption) ?rest4
                  case hy4 => (intro w hSw; (try dsimp only at hSw); go_simp; try with_reducible rfl)
                  (try simp only [Act.put, List.setIfInBounds_toArray, List.set_cons_zero, List.set_cons_succ])
                  refine held_take (i := 4) (v := ?v5) rfl (by kernel_rfl) (by kernel_rfl) (by kernel_rfl) (fun _ _ _ h => h) (Or.inl ⟨by rfl, ?hy5⟩) (by assumption) ?rest5
                  case hy5 => (intro w hSw; (try dsimp only at hSw); go_simp; try with_reducible rfl)
                  (try simp only [Act.put, List.setIfInBounds_toArray, List.set_cons_zero, List.set_cons_succ])
                  refine held_take (i := 5) (v := ?v6) rfl (by kernel_rfl) (by kernel_rfl) (by kernel_rfl) (fun _ _ _ h => h) (Or.inl ⟨by rfl, ?hy6⟩) (by assumption) ?rest6
                  case hy6 => (intro w hSw; (try dsimp only at hSw); go_simp; try with_reducible rfl)
                  (try simp only [Act.put, List.setIfInBounds_toArray, List.set_cons_zero, List.set_cons_succ])
                  refine wpAnyH_ready (rs := [6]) (by kernel_rfl) (by simp) ?_
                  refine held_cons rfl (fun K hK => ?_) ?_
                  · go_simp
                    go_wp2_with (go_at_call 17; refine (HLEFT.out wY.drew HWwY.out.drew).mono ?_; rintro e v11 ⟨rfl, hb⟩)
                    have XXv11 := Lib.hid (blk_call XXwY.out.drew hb)
                    have TXv11 := Lib.hid (blk_call TXwY.out.drew hb)
                    have HGv11 := Lib.hid (HGwY.out.drew.below hb)
                    have HBv11 := Lib.hid (bw_call (bw_drew HBwY.out) hb)
                    clear hb
                    refine hK.out _ _ ?_ (fun hHeld => ?_)
                    · exact ⟨(XXv11.out.cell 0), (TXv11.out.cell 0), (TXv11.out.cell 1), (TXv11.out.cell 2)⟩
                    clear hK K
                    (try simp only [Act.put, List.setIfInBounds_toArray, List.set_cons_zero, List.set_cons_succ])
                    refine held_take (i := 7) (v := ?v7) rfl (by kernel_rfl) (by kernel_rfl) (by kernel_rfl) (fun _ _ _ h => h) (Or.inl ⟨by rfl, ?hy7⟩) (by assumption) ?rest7
                    case hy7 => (intro w hSw; (try dsimp only at hSw); go_simp; try with_reducible rfl)
                    (try simp only [Act.put, List.setIfInBounds_toArray, List.set_cons_zero, List.set_cons_succ])
                    refine wpAnyH_done (by kernel_rfl) ?_ _
                    have y2 := XXv11.out.cell 2
                    simp at y2
                    go_wp2_with fail
                    go_roundw
                    case rel => exact ⟨i + 1, by omega, by go_num, HGv11, by rw [HGE.out]; rfl, rfl, HBv11⟩
                    case measure => simp [intOf]; omega
                  exact AllReadyH.nil
                · have HGE : Hid (goneP lf ps (i + 1) = goneP lf ps i) := Lib.hid (by rw [goneP_step HPI.out, if_neg hsl])
                  clear hgo3
                  refine wp_region_held_drew (S := fun w' => w'.cell? ⟨gx, 0, none⟩ = some (.int .i64 sq) ∧ w'.cell? ⟨w.heap.size, 0, none⟩ = some (.int .i64 (r : Int)) ∧ w'.cell? ⟨w.heap.size, 1, none⟩ = some (.int .i64 (d : Int)) ∧ w'.cell? ⟨w.heap.size, 2, none⟩ = some (.slice A n c)) (by kernel_rfl) ⟨(XXwY.out.drew.cell 0), (TXwY.out.drew.cell 0), (TXwY.out.drew.cell 1), (TXwY.out.drew.cell 2)⟩ (fun hHeld => ?_)
                  refine held_take (i := 0) (v := ?v8) rfl (by kernel_rfl) (by kernel_rfl) (by kernel_rfl) (fun _ _ _ h => h) (Or.inl ⟨by rfl, ?hy8⟩) (by assumption) ?rest8
                  case hy8 => (intro w hSw; (try dsimp only at hSw); go_simp; try with_reducible rfl)
                  (try simp only [Act.put, List.setIfInBounds_toArray, List.set_cons_zero, List.set_cons_succ])
                  refine held_take (i := 1) (v := ?v9) rfl (by kernel_rfl) (by kernel_rfl) (by kernel_rfl) (fun _ _ _ h => h) (Or.inl ⟨by rfl, ?hy9⟩) (by assumption) ?rest9
                  case hy9 => (intro w hSw; (try dsimp only at hSw); go_simp; try with_reducible rfl)
                  (try simp only [Act.put, List.setIfInBounds_toArray, List.set_cons_zero, List.set_cons_succ])
                  refine held_take (i := 2) (v := ?v10) rfl (by kernel_rfl) (by kernel_rfl) (by kernel_rfl) (fun _ _ _ h => h) (Or.inl ⟨by rfl, ?hy10⟩) (by assumption) ?rest10
                  case hy10 => (intro w hSw; (try dsimp only at hSw); go_simp; try with_reducible rfl)
                  (try simp only [Act.put, List.setIfInBounds_toArray, List.set_cons_zero, List.set_cons_succ])
                  refine held_take (i := 3) (v := ?v11) rfl (by kernel_rfl) (by kernel_rfl) (by kernel_rfl) (fun _ _ _ h => h) (Or.inl ⟨by rfl, ?hy11⟩) (by assumption) ?rest11
                  case hy11 => (intro w hSw; (try dsimp only at hSw); go_simp; try with_reducible rfl)
                  (try simp only [Act.put, List.setIfInBounds_toArray, List.set_cons_zero, List.set_cons_succ])
                  refine held_take (i := 4) (v := ?v12) rfl (by kernel_rfl) (by kernel_rfl) (by kernel_rfl) (fun _ _ _ h => h) (Or.inl ⟨by rfl, ?hy12⟩) (by assumption) ?rest12
                  case hy12 => (intro w hSw; (try dsimp only at hSw); go_simp; try with_reducible rfl)
                  (try simp only [Act.put, List.setIfInBounds_toArray, List.set_cons_zero, List.set_cons_succ])
                  refine held_take (i := 5) (v := ?v13) rfl (by kernel_rfl) (by kernel_rfl) (by kernel_rfl) (fun _ _ _ h => h) (Or.inl ⟨by rfl, ?hy13⟩) (by assumption) ?rest13
                  case hy13 => (intro w hSw; (try dsimp only at hSw); go_simp; try with_reducible rfl)
                  (try simp only [Act.put, List.setIfInBounds_toArray, List.set_cons_zero, List.set_cons_succ])
                  refine wpAnyH_ready (rs := [6]) (by kernel_rfl) (by simp) ?_
                  refine held_cons rfl (fun K hK => ?_) ?_
                  · go_simp
                    go_wp2_with (go_at_call 17; refine (HLEFT.out wY.drew HWwY.out.drew).mono ?_; rintro e v11 ⟨rfl, hb⟩)
                    have XXv11 := Lib.hid (blk_call XXwY.out.drew hb)
                    have TXv11 := Lib.hid (blk_call TXwY.out.drew hb)
                    have HGv11 := Lib.hid (HGwY.out.drew.below hb)
                    have HBv11 := Lib.hid (bw_call (bw_drew HBwY.out) hb)
                    clear hb
                    refine hK.out _ _ ?_ (fun hHeld => ?_)
                    · exact ⟨(XXv11.out.cell 0), (TXv11.out.cell 0), (TXv11.out.cell 1), (TXv11.out.cell 2)⟩
                    clear hK K
                    (try simp only [Act.put, List.setIfInBounds_toArray, List.set_cons_zero, List.set_cons_succ])
                    refine held_take (i := 7) (v := ?v14) rfl (by kernel_rfl) (by kernel_rfl) (by kernel_rfl) (fun _ _ _ h => h) (Or.inl ⟨by rfl, ?hy14⟩) (by assumption) ?rest14
                    case hy14 => (intro w hSw; (try dsimp only at hSw); go_simp; try with_reducible rfl)
                    (try simp only [Act.put, List.setIfInBounds_toArray, List.set_cons_zero, List.set_cons_succ])
                    refine wpAnyH_done (by kernel_rfl) ?_ _
                    go_wp2_with fail
                    go_roundw
                    case rel => exact ⟨i + 1, by omega, by go_num, HGv11, by rw [HGE.out], rfl, HBv11⟩
                    case measure => simp [intOf]; omega
                  exact AllReadyH.nil
          · obtain rfl : ps.length = i := by omega
            have hg0 : gotP ps ps.length (k + 1) = [] := by unfold gotP; rw [List.drop_length]; rfl
            rw [hg0] at HGI
            rcases HGI.out with ⟨_, Ag, cg, rfl⟩ | ⟨p', h1, _⟩
            · clear hg0 HGI
              have HLE := Lib.hid (HL9.out.below HBR.out)
              have HRE := Lib.hid (HR9.out.below HBR.out)
              have HCE := Lib.hid (HC9.out.trans (HBR.out.mono HC9.out.size))
              have e1 : (ps.take ps.length).map PR.rp = (sentK r d lost bs tk).1 := by rw [List.take_length]; exact HPS.out
              have hid := idle_all (r := r) (d := d) (lost := lost) (bs := bs) (k := k + 1) (n := tk) (by omega)
              rw [← HLF.out, ← e1] at hid
              obtain ⟨cb, hcb⟩ : ∃ cb, cb = comP d (k + 1) ps ps.length := ⟨_, rfl⟩
              obtain ⟨gn, hgn⟩ : ∃ gn, gn = goneP lf ps ps.length := ⟨_, rfl⟩
              have hgn3 : gn ≤ 3600 := by rw [hgn]; exact HGL.out _
              have hf2 := HFL.out (k + 1)
              have HI2 : Hid (idleB (stK r d lost bs (k + 1)) = (decide (gn = flN bs (k + 1)) && !cb)) := Lib.hid (by rw [hid, hgn, hcb]; rfl)
              have hnw : (stK r d lost bs (k + 1)).now = (k : Int) + 1 := by rw [(st_eq (k + 1)).1]; show ((k + 1 : Nat) : Int) = _; omega
              have HNW := now_any g bl bw w2.heap.size wv9 fw9 (stK r d lost bs (k + 1)) wE HLE.out
              rw [hnw] at HNW
              have hok := (st_ok HE.out (fun k => HFL.out k) (k + 1) (by omega)).1
              have HID := idle_any g bl bw w2.heap.size wv9 fw9 (stK r d lost bs (k + 1)) wE HLE.out (by have := hok.wait; omega) (by have := hok.short; omega)
              rw [HI2.out] at HID
              rw [← hcb, ← hgn]
              have HN := Lib.hid HNW
              have HJ := Lib.hid HID
              clear HI2 HID HNW hnw hok hid hcb hgn e1 HBR HL9 HR9 HC9
              by_cases hgf : gn = flN bs (k + 1)
              · have hgq : ((gn : Int) == (flN bs (k + 1) : Int)) = true := by rw [beq_iff_eq]; omega
                rw [decide_eq_true hgf] at HJ
                clear hgf
                cases cb
                · go_wp2_with fail
                  refine HN.out.mono ?_
                  rintro e w' ⟨rfl, hw⟩
                  try (replace hw := hw.symm)
                  subst hw
                  go_wp2_with fail
                  refine HJ.out.mono ?_
                  rintro e w' ⟨rfl, hw⟩
                  try (replace hw := hw.symm)
                  subst hw
                  go_wp2_with fail
                  go_roundw
                  case rel => exact ⟨k + 1, by omega, by go_num, rfl, Lib.hid ⟨wv9, fw9, HLE.out, HAP9.out⟩, HRE, HCE⟩
                  case measure => simp [intOf]; omega
                · go_wp2_with fail
                  refine HN.out.mono ?_
                  rintro e w' ⟨rfl, hw⟩
                  try (replace hw := hw.symm)
                  subst hw
                  go_wp2_with fail
                  refine HJ.out.mono ?_
                  rintro e w' ⟨rfl, hw⟩
                  try (replace hw := hw.symm)
                  subst hw
                  go_wp2_with fail
                  go_roundw
                  case rel => exact ⟨k + 1, by omega, by go_num, rfl, Lib.hid ⟨wv9, fw9, HLE.out, HAP9.out⟩, HRE, HCE⟩
                  case measure => simp [intOf]; omega
              · have hgq : ((gn : Int) == (flN bs (k + 1) : Int)) = false := by rw [beq_eq_false_iff_ne]; omega
                rw [decide_eq_false hgf] at HJ
                clear hgf
                cases cb
                · go_wp2_with fail
                  refine HN.out.mono ?_
                  rintro e w' ⟨rfl, hw⟩
                  try (replace hw := hw.symm)
                  subst hw
                  go_wp2_with fail
                  refine HJ.out.mono ?_
                  rintro e w' ⟨rfl, hw⟩
                  try (replace hw := hw.symm)
                  subst hw
                  go_wp2_with fail
                  go_roundw
                  case rel => exact ⟨k + 1, by omega, by go_num, rfl, Lib.hid ⟨wv9, fw9, HLE.out, HAP9.out⟩, HRE, HCE⟩
                  case measure => simp [intOf]; omega
                · go_wp2_with fail
                  refine HN.out.mono ?_
                  rintro e w' ⟨rfl, hw⟩
                  try (replace hw := hw.symm)
                  subst hw
                  go_wp2_with fail
                  refine HJ.out.mono ?_
                  rintro e w' ⟨rfl, hw⟩
                  try (replace hw := hw.symm)
                  subst hw
                  go_wp2_with fail
                  go_roundw
                  case rel => exact ⟨k + 1, by omega, by go_num, rfl, Lib.hid ⟨wv9, fw9, HLE.out, HAP9.out⟩, HRE, HCE⟩
                  case measure => simp [intOf]; omega
            · cases h1
    · have hki : ¬ (k : Int) + 1 ≤ (tk : Int) := by omega
      go_wp2_with fail
      go_ret
      exact ⟨rfl, HBw.out⟩
theorem tells_any (rate delay : Int) (A A2 : Option Addr) (n c n2 c2 more : Nat) (lost : List Int) (bs : List (List UInt8)) (w : World) (hp : PlanIn w lost A n) (hr : RowsAt w w.heap.size A2 n2 bs)
    (hn : n ≤ 9223372036854775807) (hn2 : n2 ≤ 9223372036854775807) (hbl : ∀ b ∈ bs, b.length ≤ 9223372036854775807) (hm : more < 256) :
    Calls Try.prog 3 #[.agg #[.int .i64 rate, .int .i64 delay, .slice A n c], .slice A2 n2 c2, .int .u8 (more : Int)] w (True_ w) := by
  cases hg : greatB bs n with
  | true => exact tells_great rate delay A A2 n c n2 c2 more lost bs w hp hr hn hn2 hbl hg
  | false =>
    by_cases he : errNew rate delay lost = 0
    · have h0 := (start_ok he)
      have hr1 : 1 ≤ rate := by have := h0.rate1; have e : (LS.start rate delay lost).rate = rate := rfl; omega
      have hd1 : 0 ≤ delay := by have := h0.delay1; have e : (LS.start rate delay lost).delay = delay := rfl; omega
      obtain ⟨r, rfl⟩ := Int.eq_ofNat_of_zero_le (show 0 ≤ rate by omega)
      obtain ⟨d, rfl⟩ := Int.eq_ofNat_of_zero_le hd1
      exact tells_main r d A A2 n c n2 c2 more lost bs w hp hr hm hg he
    · exact tells_bad rate delay A A2 n c n2 c2 more lost bs w hp hr hg he
end Go.Proofs.Ytieoeednfgpoiaa
