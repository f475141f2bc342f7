/- gypsumref53.Sent, walked. No condition. -/
import Derived.Test.YtieoeednfgpoiaaSentP
import Derived.Test.YtieoeednfgpoiaaGreat
import Derived.Test.YtieoeednfgpoiaaTill
import Derived.Test.YtieoeednfgpoiaaFronts
import Derived.Test.YtieoeednfgpoiaaStr
import Derived.Test.YtieoeednfgpoiaaLost
namespace Go.Proofs.Ytieoeednfgpoiaa
open Go.RowKit

set_option linter.unusedSimpArgs false
set_option linter.unusedVariables false
/-- A packet of the document in memory. -/
structure PR where
  seq : Int
  at_ : Int
  A : Option Addr
  c : Nat
  data : List UInt8
def PR.cells (p : PR) : List Value := [.int .i64 p.seq, .int .i64 p.at_, .slice p.A p.data.length p.c]
def PR.rp (p : PR) : RP := ⟨p.seq, p.at_, p.data⟩
structure RowIs (w : World) (base : Nat) (A : Option Addr) (c : Nat) (ps : List PR) : Prop where
  row : w.ownsRow base 40 3 (.slice A ps.length c) ps.length (ps.flatMap PR.cells)
  data : ∀ p ∈ ps, w.ownsRow base 5 1 (.slice p.A p.data.length p.c) p.data.length (B8 p.data)
theorem RowIs.below {w w' : World} {base : Nat} {A : Option Addr} {c : Nat} {ps : List PR} (h : RowIs w base A c ps) (hb : Below w.heap.size w w') : RowIs w' base A c ps :=
  ⟨own_same h.row fun k hk => hb.block k (h.row.lt k hk).2, fun p hp => own_same (h.data p hp) fun k hk => hb.block k ((h.data p hp).lt k hk).2⟩
/-- What waits: the end of a row. -/
def WaitIs (w : World) (base : Nat) (A : Option Addr) (n c : Nat) (F : List UInt8) : Prop :=
  n ≤ c ∧ F.length = n ∧ (0 < n → ∃ g off N c0 xs, A = some ⟨g, off, none⟩ ∧ w.ownsRow base 5 1 (.slice (some ⟨g, 0, none⟩) N c0) N (B8 xs) ∧ xs.drop off = F)
theorem WaitIs.same {w w' : World} {base : Nat} {A : Option Addr} {n c : Nat} {F : List UInt8} (h : WaitIs w base A n c F) (hk : ∀ k cs, base ≤ k → Blk w k 5 cs → w'.heap[k]? = w.heap[k]?) : WaitIs w' base A n c F :=
  ⟨h.1, h.2.1, fun hn => by
    obtain ⟨g, off, N, c0, xs, h1, h2, h3⟩ := h.2.2 hn
    refine ⟨g, off, N, c0, xs, h1, own_same h2 fun k hk' => ?_, h3⟩
    obtain ⟨cs, hb⟩ := own_blk h2 hk'
    exact hk k cs (h2.lt k hk').1 hb⟩
theorem WaitIs.reads {w : World} {base : Nat} {A : Option Addr} {n c : Nat} {F : List UInt8} (h : WaitIs w base A n c F) : Reads w w.heap.size 1 A n (B8 F) :=
  ⟨by rw [B8_length, h.2.1, Nat.mul_one], fun hn => by
    obtain ⟨g, off, N, c0, xs, h1, h2, h3⟩ := h.2.2 hn
    refine ⟨_, h1, (h2.lt g rfl).2, fun j u hu => ?_⟩
    rw [← h3, ← B8_drop, List.getElem?_drop] at hu
    have := h2.cells rfl (off + j) u hu
    rw [show (⟨g, off, none⟩ : Addr) = (⟨g, 0, none⟩ : Addr).add off by simp [Addr.add], add_of_add]
    exact this⟩
theorem WaitIs.nil (w : World) (base : Nat) : WaitIs w base none 0 0 [] := ⟨Nat.le_refl _, rfl, fun h => absurd h (by omega)⟩
/-- A row of one's own, of which so many are gone. -/
theorem WaitIs.cut {w : World} {base : Nat} {A : Option Addr} {n c : Nat} {F : List UInt8} (h : WaitIs w base A n c F) {k : Nat} (hk : k ≤ n) : WaitIs w base (if c = k then A else A.map (·.add (k * 1))) (n - k) (c - k) (F.drop k) := by
  refine ⟨by have := h.1; omega, by rw [List.length_drop, h.2.1], fun hn => ?_⟩
  obtain ⟨g, off, N, c0, xs, h1, h2, h3⟩ := h.2.2 (by omega)
  have := h.1
  rw [if_neg (by omega), h1]
  refine ⟨g, off + k, N, c0, xs, by simp [Addr.add], h2, ?_⟩
  rw [← h3, List.drop_drop]
theorem WaitIs.of_own {w : World} {base : Nat} {A : Option Addr} {n c : Nat} {F : List UInt8} (h : w.ownsRow base 5 1 (.slice A n c) n (B8 F)) : WaitIs w base A n c F := by
  obtain ⟨A', c', e, hc⟩ := own_form h
  injection e with e1 _ e2
  subst e1 e2
  refine ⟨hc, by have := h.1; rw [B8_length] at this; omega, fun hn => ?_⟩
  obtain ⟨g, cap, hv, _, _⟩ := h.form hn
  injection hv with hA _ hc
  subst hA hc
  exact ⟨g, 0, n, c, F, rfl, h, List.drop_zero⟩
theorem wait_new {wB w6 : World} {B k : Nat} {A6 : Option Addr} {c6 nw : Nat} {F b : List UInt8} {bs : List (List UInt8)} (hk : bs[k]? = some b) (h : w6.ownsRow wB.heap.size 5 1 (.slice A6 (0 + nw + b.length) c6) (0 + nw + b.length) ([] ++ B8 F ++ B8 b)) (hb : Below wB.heap.size wB w6) (hB : B ≤ wB.heap.size) :
    ∃ Ay ny cy, (Value.slice A6 (nw + b.length) c6) = .slice Ay ny cy ∧ Hid (WaitIs w6 B Ay ny cy (F ++ bs.getD k [])) ∧ Hid (Below wB.heap.size wB w6) := by
  refine ⟨_, _, _, rfl, Lib.hid (WaitIs.of_own (own_mono ?_ hB)), Lib.hid hb⟩
  rw [Nat.zero_add] at h
  rw [List.getD_eq_getElem?_getD, hk, Option.getD_some, ← B8_append]
  exact h
set_option maxHeartbeats 1000000 in
theorem refHas_any (A : Option Addr) (n c : Nat) (lost : List Int) (x : Int) (w : World) (hn : n ≤ 9223372036854775807) (hr : Reads w w.heap.size 1 A n (lost.map (Value.int .i64))) :
    Calls Try.prog 24 #[.slice A n c, .int .i64 x] w fun e w' => e = .returned (.bool (decide (x ∈ lost))) ∧ w' = w := by
  have HR := Lib.hid hr
  have HL : Hid (lost.length = n) := by have := hr.1; simp at this; exact this
  clear hr
  go_enter Try.func24, Try.ntmps24
  go_wp2_with fail
  go_loopw [5] (fun iv wr => ∃ k : Nat, k ≤ n ∧ iv = .int .i64 k ∧ Hid (x ∉ lost.take k) ∧ wr = w) (fun iv _ => n - (intOf iv).toNat)
  case atStart => exact ⟨0, by omega, rfl, Lib.hid (by simp), rfl⟩
  case round =>
    obtain ⟨k, hk, rfl, HX, rfl⟩ := hrel
    by_cases hlt : k < n
    · obtain ⟨ad, u, rfl, had, hu, hc⟩ := HR.out.at_ hlt
      have hkl : k < lost.length := by rw [HL.out]; exact hlt
      obtain ⟨z, hz⟩ : ∃ z, lost[k]? = some z := ⟨_, List.getElem?_eq_getElem hkl⟩
      have hux : u = .int .i64 z := by simp [List.getElem?_map, hz] at hu; exact hu.symm
      subst hux
      have HZ := Lib.hid hz
      clear hu hz
      by_cases hzx : z = x
      · subst hzx
        go_wp2_with fail
        go_ret
        have : z ∈ lost := List.mem_of_getElem? HZ.out
        simp [this]
      · have hne : (z == x) = false := by rw [beq_eq_false_iff_ne]; exact hzx
        go_wp2_with fail
        go_roundw
        case rel =>
          refine ⟨k + 1, by omega, by go_num, Lib.hid ?_, by first | rfl | trivial⟩
          have e := take_snoc_int lost k hkl
          have hlk : lost[k] = z := by have := HZ.out; rw [List.getElem?_eq_getElem hkl] at this; exact Option.some.inj this
          rw [e, hlk, List.mem_append]
          rintro (h | h)
          · exact HX.out h
          · simp at h; exact hzx h.symm
        case measure => simp [intOf]; omega
    · obtain rfl : k = n := by omega
      go_wp2_with fail
      go_ret
      have e : lost.take k = lost := List.take_of_length_le (by rw [HL.out]; exact Nat.le_refl _)
      have := HX.out
      rw [e] at this
      simp [this]

def SentPost (l : List RP) (w : World) (e : Ending) (w' : World) : Prop :=
  ∃ A c ps, e = .returned (.slice A ps.length c) ∧ RowIs w' w.heap.size A c ps ∧ ps.map PR.rp = l ∧ Below w.heap.size w w'
theorem bw_drew {a w : World} (h : Below a.heap.size a w) : Below a.heap.size a w.drew := below_drewN h 1
theorem bw_alloc {a w : World} (h : Below a.heap.size a w) (o : Obj) : Below a.heap.size a (w.alloc o) := h.alloc h.size o
theorem bw_call {a w w' : World} (h : Below a.heap.size a w) (hb : Below w.heap.size w w') : Below a.heap.size a w' := h.trans (hb.mono h.size)
theorem bw_grow {a w w' : World} {row : Option Nat} (h : Below a.heap.size a w) (hg : w.grownBy w' row) (hr : ∀ k, row = some k → a.heap.size ≤ k) : Below a.heap.size a w' := h.grown hg h.size hr
theorem bw_size {a w : World} (h : Below a.heap.size a w) : a.heap.size ≤ w.heap.size := h.size
theorem pk53_info : (Try.prog.info? 40).map (fun i => (i.zero, i.size, i.bytes)) = some (some (.agg #[.int .i64 0, .int .i64 0, .slice none 0 0]), 3, 40) := by kernel_rfl
theorem own_far9 {w : World} {base g : Nat} {t : TypeId} {cs : Array Value} {e : TypeId} {size n i : Nat} {v u : Value} {xs : List Value} (h : w.ownsRow base e size v n xs) (hb : Blk w g t cs) (hne : e ≠ t) : (w.setCell ⟨g, i, none⟩ u).ownsRow base e size v n xs := own_same h fun k hk => by
  obtain ⟨ds, hd⟩ := own_blk h hk
  exact Below.heap_setCell _ _ _ _ (hd.ne_ hb hne)
theorem cell_drew9 (w : World) (p : Addr) : w.drew.cell? p = w.cell? p := rfl
theorem own_drew9 {w : World} {base : Nat} {e : TypeId} {size n : Nat} {v : Value} {xs : List Value} (h : w.ownsRow base e size v n xs) : w.drew.ownsRow base e size v n xs := h
attribute [local irreducible] Blk World.alloc World.setCell World.cell? World.frozen?
set_option maxRecDepth 100000 in
set_option maxHeartbeats 4000000 in
theorem sent_any (r d : Nat) (A A2 : Option Addr) (n c n2 c2 : Nat) (lost : List Int) (bs : List (List UInt8)) (ticks : Nat) (w : World) (hr1 : 1 ≤ r) (hr2 : r ≤ 65536) (hd : d ≤ 1000) (hn : n ≤ 1000) (hl : Reads w w.heap.size 1 A n (lost.map (Value.int .i64))) (hr : RowsAt w w.heap.size A2 n2 bs)
    (hn2 : n2 ≤ 30) (hbs : ∀ b ∈ bs, b.length ≤ 120) (ht : ticks ≤ 60) :
    Calls Try.prog 14 #[.int .i64 r, .int .i64 d, .slice A n c, .slice A2 n2 c2, .int .i64 (ticks : Int)] w (SentPost (sentK r d lost bs ticks).1 w) := by
  obtain ⟨i0, hi0, hz0, hz1, hz2⟩ := info_parts u8_info
  have HLO := Lib.hid hl
  have HR := Lib.hid hr
  have HBS := Lib.hid hbs
  have HLEN : Hid (bs.length = n2) := Lib.hid hr.1
  clear hl hr hbs
  go_enter Try.func14, Try.ntmps14
  go_wp2_with fail
  go_loopw [11, 12, 13, 14, 15] (fun ov xv kv _ _ wr => ∃ k : Nat, k ≤ ticks ∧ kv = .int .i64 ((k : Int) + 1) ∧ (∃ Ao co ps, ov = .slice Ao ps.length co ∧ Hid (RowIs wr w.heap.size Ao co ps) ∧ Hid (ps.map PR.rp = (sentK r d lost bs k).1)) ∧ (∃ Aw nw cw, xv = .slice Aw nw cw ∧ Hid (WaitIs wr w.heap.size Aw nw cw (sentK r d lost bs k).2)) ∧ Hid (Below w.heap.size w wr)) (fun _ _ kv _ _ _ => ticks + 1 - (intOf kv).toNat)
  case atStart => exact ⟨0, by omega, rfl, ⟨none, 0, [], rfl, ⟨World.ownsRow_nil _ _ _ _, fun p hp => by cases hp⟩, rfl⟩, ⟨none, 0, 0, rfl, WaitIs.nil _ _⟩, Below.refl _ _⟩
  case round =>
    obtain ⟨k, hk, rfl, ⟨Ao, co, ps, rfl, HRO, HPS⟩, ⟨Aw, nw, cw, rfl, HWA⟩, HB⟩ := hrel
    obtain ⟨wB, hwB⟩ : ∃ wB : World, wB = wr := ⟨_, rfl⟩
    rw [← hwB] at HRO HWA HB ⊢
    clear hwB
    obtain ⟨F, hF⟩ : ∃ F, F = (sentK r d lost bs k).2 := ⟨_, rfl⟩
    have HF := Lib.hid hF
    rw [← hF] at HWA
    clear hF
    have HWB : Hid (w.heap.size ≤ wB.heap.size) := Lib.hid HB.out.size
    have hnw : nw ≤ 3600 := by
      have h1 := sent_sum (r := r) (d := d) (lost := lost) (bs := bs) k
      have h2 := HWA.out.2.1
      have h3 : (bs.take k).flatten.length ≤ 3600 := by
        have : ∀ l : List (List UInt8), (∀ b ∈ l, b.length ≤ 120) → l.flatten.length ≤ l.length * 120 := by
          intro l
          induction l with
          | nil => intro _; simp
          | cons b l ih =>
            intro hb
            have := ih fun b' hb' => hb b' (by simp [hb'])
            have := hb b (by simp)
            rw [List.flatten_cons, List.length_append, List.length_cons]
            omega
        have h4 := this (bs.take k) fun b hb => HBS.out b (List.mem_of_mem_take hb)
        have h5 : (bs.take k).length ≤ bs.length := by rw [List.length_take]; omega
        have h6 := HLEN.out
        have h7 := Nat.mul_le_mul_right 120 (Nat.le_trans h5 (Nat.le_trans (Nat.le_of_eq h6) hn2))
        omega
      rw [HF.out] at h2
      omega
    by_cases hlt : k < ticks
    · have HRF := Lib.hid HWA.out.reads
      go_upto_if 24 with (fail)
      go_cut [12] (fun xv wc => ∃ Ay ny cy, xv = .slice Ay ny cy ∧ Hid (WaitIs wc w.heap.size Ay ny cy (F ++ bs.getD k [])) ∧ Hid (Below wB.heap.size wB wc))
      case first =>
        by_cases hkn : k < n2
        · have hki : (k : Int) + 1 ≤ (n2 : Int) := by omega
          obtain ⟨ad, b, A', c', rfl, hbk, hbb, hc, hrd⟩ := (HR.out.below HB.out).at_ hkn
          have HBK := Lib.hid hbk
          have hb120 := HBS.out b (List.mem_of_getElem? hbk)
          have HCC := Lib.hid hc
          have HRB := Lib.hid hrd
          have HADB : Hid ((ad.add k).block < wB.heap.size) := Lib.hid (World.block_lt_of_cell? _ _ hc)
          have hwk : IntKind.i64.wrap (k : Int) = (k : Int) := IntWalk.i64_in _ (by omega)
          have hk0 : (0 : Int) ≤ (k : Int) ∧ (k : Int) < (n2 : Int) := by omega
          clear hbk hrd
          go_upto_region 7 with (fail)
          refine wp_region_till (S := fun w' => w'.cell? (ad.add k) = some (.slice A' b.length c')) 9 (by kernel_rfl) ((cell_drew9 _ _).trans HCC.out) (fun hHeld => ?_)
          refine Till.take (i := 1) (v := ?vt1) rfl (by kernel_rfl) (by kernel_rfl) (by kernel_rfl) (by kernel_rfl) (fun _ _ _ h => h) (Or.inl ⟨by rfl, ?ht1⟩) (by assumption) ?restt1
          case ht1 => (intro w hSw; (try dsimp only at hSw); go_simp; try with_reducible rfl)
          (try simp only [Act.put, List.setIfInBounds_toArray, List.set_cons_zero, List.set_cons_succ])
          refine Till.take (i := 3) (v := ?vt2) rfl (by kernel_rfl) (by kernel_rfl) (by kernel_rfl) (by kernel_rfl) (fun _ _ _ h => h) (Or.inl ⟨by rfl, ?ht2⟩) (by assumption) ?restt2
          case ht2 => (intro w hSw; (try dsimp only at hSw); go_simp; try with_reducible rfl)
          (try simp only [Act.put, List.setIfInBounds_toArray, List.set_cons_zero, List.set_cons_succ])
          refine Till.take (i := 4) (v := ?vt3) rfl (by kernel_rfl) (by kernel_rfl) (by kernel_rfl) (by kernel_rfl) (fun _ _ _ h => h) (Or.inl ⟨by rfl, ?ht3⟩) (by assumption) ?restt3
          case ht3 => (intro w hSw; (try dsimp only at hSw); go_simp; try with_reducible rfl)
          (try simp only [Act.put, List.setIfInBounds_toArray, List.set_cons_zero, List.set_cons_succ])
          refine Till.take (i := 5) (v := ?vt4) rfl (by kernel_rfl) (by kernel_rfl) (by kernel_rfl) (by kernel_rfl) (fun _ _ _ h => h) (Or.inl ⟨by rfl, ?ht4⟩) (by assumption) ?restt4
          case ht4 => (intro w hSw; (try dsimp only at hSw); go_simp; try with_reducible rfl)
          (try simp only [Act.put, List.setIfInBounds_toArray, List.set_cons_zero, List.set_cons_succ])
          refine Till.take (i := 6) (v := ?vt5) rfl (by kernel_rfl) (by kernel_rfl) (by kernel_rfl) (by kernel_rfl) (fun _ _ _ h => h) (Or.inl ⟨by rfl, ?ht5⟩) (by assumption) ?restt5
          case ht5 => (intro w hSw; (try dsimp only at hSw); go_simp; try with_reducible rfl)
          (try simp only [Act.put, List.setIfInBounds_toArray, List.set_cons_zero, List.set_cons_succ])
          refine Till.take (i := 7) (v := ?vt6) rfl (by kernel_rfl) (by kernel_rfl) (by kernel_rfl) (by kernel_rfl) (fun _ _ _ h => h) (Or.inl ⟨by rfl, ?ht6⟩) (by assumption) ?restt6
          case ht6 => (intro w hSw; (try dsimp only at hSw); go_simp; try with_reducible rfl)
          (try simp only [Act.put, List.setIfInBounds_toArray, List.set_cons_zero, List.set_cons_succ])
          refine Till.ready (rs := [0]) (by kernel_rfl) (by simp) ?_
          refine TillEach.cons rfl (fun K hK => ?_) ?_
          · go_simp
            refine hK.out _ _ ?_ (fun hHeld => ?_)
            · exact (cell_drew9 _ _).trans ((World.cell?_alloc_lt _ _ _ HADB.out).trans HCC.out)
            clear hK K
            (try simp only [Act.put, List.setIfInBounds_toArray, List.set_cons_zero, List.set_cons_succ])
            refine Till.ready (rs := [2]) (by kernel_rfl) (by simp) ?_
            refine TillEach.cons rfl (fun K hK => ?_) ?_
            · refine step_append_sl _ (by rfl) (.tmp 25) (.tmp 26) _ (by rfl) wB.heap.size 5 i0 _ 1 1 Try.underlying35 hi0 hz0 hz1 hz2 rfl (by omega) (.slice (some ⟨wB.heap.size, 0, none⟩) 0 0) 0 [] (by rfl) (own_drew9 (World.ownsRow_made (base := wB.heap.size) (e := 5) (size := 1) wB #[] 0 (Nat.le_refl _) (by decide) rfl)) wB.heap.size Aw nw cw (B8 F) (by rfl) (HRF.out.alloc (Nat.le_refl _) _).drew (B8_oneCell _) (by simp only [maxLen]; omega) (by omega) (by simp) ?_
              intro A5 c5 w5 hown5 hg5 hat5
              have HB5 := Lib.hid (bw_grow (bw_drew (bw_alloc (Below.refl wB.heap.size wB) _)) hg5 (fun x hx => by simp only [Value.ownBlock, Option.some.injEq] at hx; omega))
              have HO5 := Lib.hid hown5
              clear hown5 hg5 hat5
              refine hK.out _ _ ?_ (fun hHeld => ?_)
              · exact (HB5.out.cell (p := ad.add k) HADB.out).trans HCC.out
              clear hK K
              (try simp only [Act.put, List.setIfInBounds_toArray, List.set_cons_zero, List.set_cons_succ])
              refine Till.ready (rs := [8]) (by kernel_rfl) (by simp) ?_
              refine TillEach.cons rfl (fun K hK => ?_) ?_
              · refine step_append_sl _ (by rfl) (.tmp 27) (.tmp 32) _ (by rfl) wB.heap.size 5 i0 _ 1 1 Try.underlying35 hi0 hz0 hz1 hz2 rfl (by omega) (.slice A5 (0 + nw) c5) (0 + nw) ([] ++ B8 F) (by rfl) HO5.out w.heap.size A' b.length c' (B8 b) (by rfl) (HRB.out.below (HB5.out.mono HWB.out)) (B8_oneCell _) (by simp only [maxLen]; omega) (by omega) (bw_size HB5.out) ?_
                intro A6 c6 w6 hown6 hg6 hat6
                have HB6 := Lib.hid (bw_grow HB5.out hg6 (fun x hx => (HO5.out.lt x hx).1))
                have HO6 := Lib.hid hown6
                clear hown6 hg6 hat6 HO5 HB5
                refine hK.out _ _ ?_ (fun hHeld => ?_)
                · exact (HB6.out.cell (p := ad.add k) HADB.out).trans HCC.out
                clear hK K
                (try simp only [Act.put, List.setIfInBounds_toArray, List.set_cons_zero, List.set_cons_succ])
                refine Till.ready (rs := [9]) (by kernel_rfl) (by simp) ?_
                refine TillEach.last rfl (fun K hK => ?_)
                · go_simp
                  refine hK.out _ _ ?_
                  clear hK K
                  (try simp only [Act.put, List.setIfInBounds_toArray, List.set_cons_zero, List.set_cons_succ])
                  refine Till.done (by kernel_rfl) ?_ _
                  go_wp2_with fail
                  go_meet
                  exact wait_new HBK.out HO6.out HB6.out HWB.out
              exact TillEach.nil
            exact TillEach.nil
          exact TillEach.nil
        · have hki : ¬ (k : Int) + 1 ≤ (n2 : Int) := by omega
          go_wp2_with fail
          go_meet
          have e : bs.getD k [] = [] := by rw [List.getD_eq_getElem?_getD, List.getElem?_eq_none (by have := HLEN.out; omega)]; rfl
          exact ⟨Aw, nw, cw, rfl, Lib.hid (by rw [e, List.append_nil]; exact HWA.out), Lib.hid (Below.refl _ _)⟩
      case rest =>
        obtain ⟨Ay, ny, cy, rfl, HWY, HBY⟩ := hcut
        obtain ⟨G, hG⟩ : ∃ G, G = F ++ bs.getD k [] := ⟨_, rfl⟩
        have HG := Lib.hid hG
        rw [← hG] at HWY
        clear hG HRF
        have HLY : Hid (G.length = ny) := Lib.hid HWY.out.2.1
        have hny : ny ≤ 3720 := by
          have h1 := HWA.out.2.1
          have h2 := HG.out
          have h3 := HLY.out
          have h4 : (bs.getD k []).length ≤ 120 := by
            by_cases hkn : k < bs.length
            · rw [List.getD_eq_getElem?_getD, List.getElem?_eq_getElem hkn]; exact HBS.out _ (List.getElem_mem hkn)
            · rw [List.getD_eq_getElem?_getD, List.getElem?_eq_none (by omega)]; simp
          rw [← h3, h2, List.length_append]; omega
        have HROc := Lib.hid (HRO.out.below HBY.out)
        have HBc := Lib.hid (bw_call HB.out HBY.out)
        clear HWA HRO HB
        by_cases hny0 : ny = 0
        · subst hny0
          have hG0 : G = [] := List.eq_nil_of_length_eq_zero HLY.out
          go_wp2_with fail
          go_roundw
          case rel =>
            have e : sentK r d lost bs (k + 1) = ((sentK r d lost bs k).1, []) := sent_none (by rw [← HF.out, ← HG.out]; exact hG0)
            refine ⟨k + 1, by omega, by go_num, ⟨Ao, co, ps, rfl, HROc, Lib.hid (by rw [e]; exact HPS.out)⟩, ⟨Ay, 0, cy, rfl, Lib.hid (by rw [e]; rw [hG0] at HWY; exact HWY.out)⟩, HBc⟩
          case measure => simp [intOf]; omega
        · have hnb : ((ny : Int) == 0) = false := by rw [beq_eq_false_iff_ne]; omega
          obtain ⟨q, hq⟩ : ∃ q, q = lenR r G := ⟨_, rfl⟩
          have HQ := Lib.hid hq
          have hq1 : q ≤ ny ∧ 1 ≤ q ∧ q ≤ r := by
            have := HLY.out
            rw [hq]; unfold lenR; omega
          clear hq
          go_upto_if 41 with (fail)
          go_cut [14] (fun nv wx => nv = .int .i64 (q : Int) ∧ wx = wc)
          case first =>
            by_cases hrn : ny < r
            · have hri : (ny : Int) < (r : Int) := by omega
              go_wp2_with fail
              go_meet
              have e : q = ny := by have := HQ.out; have := HLY.out; unfold lenR at *; omega
              exact ⟨by rw [e], rfl⟩
            · have hri : ¬ (ny : Int) < (r : Int) := by omega
              go_wp2_with fail
              go_meet
              have e : q = r := by have := HQ.out; have := HLY.out; unfold lenR at *; omega
              exact ⟨by rw [e], rfl⟩
          case rest =>
            obtain ⟨rfl, rfl⟩ := hcut
            have hcy := HWY.out.1
            have hpre : ∀ wx, (Instr.slice 35 (.slice Ay ny cy) none (some (.int .i64 (q : Int))) none).run Try.prog wx = .ok (.slice Ay q cy) wx := fun wx => run_prefix Ay ny cy q (by omega) wx
            obtain ⟨As, hAs⟩ : ∃ As, As = (if cy = q then Ay else Ay.map (·.add (q * 1))) := ⟨_, rfl⟩
            have hsuf : ∀ wx, (Instr.slice 35 (.slice Ay ny cy) (some (.int .i64 (q : Int))) none none).run Try.prog wx = .ok (.slice As (ny - q) (cy - q)) wx := fun wx => by
              have := run_slice_from (P := Try.prog) Try.underlying35 hi0 Ay ny cy q hq1.1 wx
              rw [hz1] at this
              rw [hAs]; exact this
            have HWS : Hid (WaitIs wc w.heap.size As (ny - q) (cy - q) (G.drop q)) := Lib.hid (by rw [hAs]; exact HWY.out.cut hq1.1)
            have HRT : Hid (Reads wc wc.heap.size 1 Ay q (B8 (G.take q))) := Lib.hid (by have := HWY.out.reads.take hq1.1; rw [Nat.mul_one, B8_take] at this; exact this)
            clear hAs
            go_upto_region 13 with (at_builtin; go_must (refine wpList_append_sl _ rfl (.tmp 49) (.tmp 52) _ rfl wc.heap.size 5 i0 _ 1 1 Try.underlying35 hi0 hz0 hz1 hz2 rfl (by omega) (.slice (some ⟨wc.heap.size, 0, none⟩) 0 0) 0 [] rfl (World.ownsRow_made (base := wc.heap.size) (e := 5) (size := 1) wc #[] 0 (Nat.le_refl _) (by decide) rfl) wc.heap.size Ay q cy (B8 (G.take q)) rfl (HRT.out.alloc (Nat.le_refl _) _) (B8_oneCell _) (by simp only [maxLen]; omega) (by omega) (by simp) ?_); intro A7 c7 w7 hown7 hg7 hat7)
            have hB7 : Below wc.heap.size wc w7 := bw_grow (bw_alloc (Below.refl wc.heap.size wc) _) hg7 (fun x hx => by simp only [Value.ownBlock, Option.some.injEq] at hx; omega)
            obtain ⟨x8, hx8⟩ : ∃ x8, x8 = w7.alloc (.cells #[.int .i64 (ps.length : Int), .int .i64 ((k : Int) + 1 + (d : Int)), .slice A7 q c7] 40) := ⟨_, rfl⟩
            have GP8 : Hid (Blk x8 w7.heap.size 40 #[.int .i64 (ps.length : Int), .int .i64 ((k : Int) + 1 + (d : Int)), .slice A7 q c7]) := by subst hx8; exact Lib.hid (Blk.new _ _ _)
            have hB8 : Below wc.heap.size wc x8 := by subst hx8; exact bw_alloc hB7 _
            have HD8 : Hid (x8.ownsRow w.heap.size 5 1 (.slice A7 q c7) q (B8 (G.take q))) := by
              subst hx8
              rw [Nat.zero_add, List.nil_append] at hown7
              exact Lib.hid (own_mono (hown7.alloc _) HBc.out.size)
            obtain ⟨gp, hgp⟩ : ∃ gp, gp = w7.heap.size := ⟨_, rfl⟩
            have HGP : Hid (w.heap.size ≤ gp) := Lib.hid (by have := hB7.size; have := HBc.out.size; omega)
            have HNE : Hid (∀ k, (Value.slice Ao ps.length co).ownBlock = some k → k ≠ gp) := Lib.hid fun k hk => by have := (HROc.out.row.lt k hk).2; have := hB7.size; omega
            rw [← hgp] at GP8 ⊢
            have HO8 := Lib.hid (HROc.out.below hB8)
            have HW8 : Hid (WaitIs x8 w.heap.size As (ny - q) (cy - q) (G.drop q)) := Lib.hid (HWS.out.same fun k cs _ hb => hB8.block k hb.lt)
            have HB8 := Lib.hid (bw_call HBc.out hB8)
            rw [← hx8]
            clear hx8 hgp hB7 hB8 hown7 hg7 hat7 HROc HWS HBc HRT HWY HBY
            obtain ⟨av, hav⟩ : ∃ av, av = (if (ps.length : Int) ∈ lost then -1 else (k : Int) + 1 + (d : Int)) := ⟨_, rfl⟩
            have HAV := Lib.hid hav
            clear hav
            have p0 := GP8.out.cell 0
            have p1 := GP8.out.cell 1
            have p2 := GP8.out.cell 2
            have pf := GP8.out.frozen 1
            simp at p0 p1 p2
            go_upto_if 61 with (refine (refHas_any A n c lost (ps.length : Int) x8 (by omega) ((HLO.out.below HB8.out).more HB8.out.size)).mono ?_; rintro e w' ⟨rfl, hw⟩; replace hw := hw.symm; subst hw)
            go_cut [] (fun wx => Hid (Blk wx gp 40 #[.int .i64 (ps.length : Int), .int .i64 av, .slice A7 q c7]) ∧ Hid (wx.ownsRow w.heap.size 5 1 (.slice A7 q c7) q (B8 (G.take q))) ∧ Hid (RowIs wx w.heap.size Ao co ps) ∧ Hid (WaitIs wx w.heap.size As (ny - q) (cy - q) (G.drop q)) ∧ Hid (Below w.heap.size w wx))
            case first =>
              by_cases hin : (ps.length : Int) ∈ lost
              · have hdt : decide ((ps.length : Int) ∈ lost) = true := decide_eq_true hin
                rw [hdt]
                go_wp2_with fail
                go_meet
                have e : av = -1 := by rw [HAV.out, if_pos hin]
                refine ⟨Lib.hid ?_, Lib.hid ?_, Lib.hid ?_, Lib.hid ?_, Lib.hid (HB8.out.setCell (p := ⟨gp, 1, none⟩) HGP.out _)⟩
                · rw [e]; exact GP8.out.set_ 1 _
                · exact own_far9 HD8.out GP8.out (by decide)
                · exact ⟨own_same HO8.out.row fun k hk => Below.heap_setCell _ _ _ _ (HNE.out k hk), fun p hp => own_far9 (HO8.out.data p hp) GP8.out (by decide)⟩
                · exact HW8.out.same fun k cs _ hb => Below.heap_setCell _ _ _ _ (hb.ne_ GP8.out (by decide))
              · have hdt : decide ((ps.length : Int) ∈ lost) = false := decide_eq_false hin
                rw [hdt]
                go_wp2_with fail
                go_meet
                have e : av = (k : Int) + 1 + (d : Int) := by rw [HAV.out, if_neg hin]
                exact ⟨by rw [e]; exact GP8, HD8, HO8, HW8, HB8⟩
            case rest =>
              obtain ⟨GP9, HD9, HO9, HW9, HB9⟩ := hcut
              clear p0 p1 p2 pf GP8 HD8 HO8 HW8 HB8 HNE
              obtain ⟨wC, hwC⟩ : ∃ wC : World, wC = wc := ⟨_, rfl⟩
              rw [← hwC] at GP9 HD9 HO9 HW9 HB9 ⊢
              clear hwC
              obtain ⟨i1, hi1, hy0, hy1, hy2⟩ := info_parts pk53_info
              have hpl : ps.length ≤ 60 := by
                have h1 := sent_len (r := r) (d := d) (lost := lost) (bs := bs) k
                rw [← HPS.out, List.length_map] at h1
                omega
              have p0 := GP9.out.cell 0
              have p1 := GP9.out.cell 1
              have p2 := GP9.out.cell 2
              simp at p0 p1 p2
              go_wp2_with (at_builtin; go_must (refine wpList_append_sl _ rfl (.tmp 63) (.tmp 65) _ rfl w.heap.size 40 i1 _ 3 40 Try.underlying33 hi1 hy0 hy1 hy2 rfl (by omega) (.slice Ao ps.length co) ps.length (ps.flatMap PR.cells) rfl (HO9.out.row.alloc _) (wC.heap.size + 1) (some ⟨wC.heap.size, 0, none⟩) 1 1 [.int .i64 (ps.length : Int), .int .i64 av, .slice A7 q c7] rfl (reads_new wC #[.int .i64 (ps.length : Int), .int .i64 av, .slice A7 q c7] 40 1 3 rfl) (by simp [Value.oneCell']) (by simp only [maxLen]; omega) (by omega) (by simp only [World.size_alloc]; have := HB9.out.size; omega) ?_); intro A9 c9 w9 hown9 hg9 hat9)
              go_roundw
              case rel =>
                have hne : ∀ kk cs, kk < wC.heap.size → Blk wC kk 5 cs → w9.heap[kk]? = wC.heap[kk]? := fun kk cs hlt hb => by
                  refine (hg9.block kk (by rw [World.size_alloc]; omega) fun e => ?_).trans (Below.heap_alloc _ _ _ hlt)
                  obtain ⟨ds, hd⟩ := own_blk HO9.out.row e.symm
                  exact hb.ne_ hd (by decide) rfl
                have hle : ((sentK r d lost bs k).1.length : Int) = (ps.length : Int) := by rw [← HPS.out, List.length_map]
                have e : sentK r d lost bs (k + 1) = ((sentK r d lost bs k).1 ++ [⟨(ps.length : Int), av, G.take q⟩], G.drop q) := by
                  rw [sent_some (by rw [← HF.out, ← HG.out]; intro e; have := HLY.out; rw [e] at this; simp at this; omega), ← HF.out, ← HG.out, ← HQ.out]
                  unfold nextRP
                  rw [hle, ← HAV.out, ← HQ.out]
                have hqt : (G.take q).length = q := by have := HLY.out; rw [List.length_take]; omega
                refine ⟨k + 1, by omega, by go_num, ⟨A9, c9, ps ++ [⟨(ps.length : Int), av, A7, c7, G.take q⟩], ?_, Lib.hid ⟨?_, fun p hp => ?_⟩, Lib.hid ?_⟩, ⟨As, ny - q, cy - q, rfl, Lib.hid ?_⟩, Lib.hid ?_⟩
                · rw [List.length_append, List.length_singleton]
                · rw [List.length_append, List.length_singleton, List.flatMap_append, List.flatMap_cons, List.flatMap_nil, List.append_nil]
                  unfold PR.cells at hown9 ⊢
                  dsimp only
                  rw [hqt]
                  exact hown9
                · rcases List.mem_append.1 hp with hp | hp
                  · exact own_same (HO9.out.data p hp) fun kk hk => by
                      obtain ⟨ds, hd⟩ := own_blk (HO9.out.data p hp) hk
                      exact hne kk ds hd.lt hd
                  · rw [List.mem_singleton.1 hp]
                    dsimp only
                    rw [hqt]
                    exact own_same HD9.out fun kk hk => by
                      obtain ⟨ds, hd⟩ := own_blk HD9.out hk
                      exact hne kk ds hd.lt hd
                · rw [e, List.map_append, HPS.out]
                  rfl
                · rw [e]
                  exact HW9.out.same fun kk cs _ hb => hne kk cs hb.lt hb
                · exact (bw_alloc HB9.out _).grown hg9 (by rw [World.size_alloc]; have := HB9.out.size; omega) fun kk hk => (HO9.out.row.lt kk hk).1
              case measure => simp [intOf]; omega
    · obtain rfl : k = ticks := by omega
      go_wp2_with fail
      go_ret
      exact ⟨Ao, co, ps, rfl, HRO.out, HPS.out, HB.out⟩
end Go.Proofs.Ytieoeednfgpoiaa
