/- SeamSmooth, walked. -/
import Derived.Test.YtdpgbccgngdapaaWake31
import Derived.Test.YtdpgbccgngdapaaFldSI
import Derived.Test.YtdpgbccgngdapaaFldNI
import Derived.Test.YtdpgbccgngdapaaRingS
namespace Go.Proofs.Ytdpgbccgngdapaa
open Go.RowKit

set_option linter.unusedSimpArgs false
set_option linter.unusedVariables false
theorem tmod_nat (k n : Nat) : Int.tmod (k : Int) (n : Int) = ((k % n : Nat) : Int) := rfl
theorem Only.below_ {w w' : World} (h : Only (fun _ => False) w w') : Below w.heap.size w w' := h.below (Nat.le_refl _) fun _ _ hf => hf
/-- A field of what a closure tells that turns nothing. -/
theorem OfC.pure {kf : Nat} {lb : Array Value} {w : World} {N : Nat} {V : Nat → Value} (h : ∀ c W, c < N → Below w.heap.size w W → Calls Try.prog kf (#[.int .i64 (c : Int)] ++ lb) W fun e W' => e = .returned (V c) ∧ Below W.heap.size W W') :
    OfC kf lb (fun _ => False) (fun _ _ => True) w N V := fun c W hc _ hO => (h c W hc hO.below_).mono fun e W' ⟨he, hb⟩ => ⟨he, trivial, Only.of_below hb _⟩
/-- A new field, nothing else turned. -/
def NewQ (tF tE : TypeId) (sz g n : Nat) (xs : List Value) (w : World) (e : Ending) (w' : World) : Prop :=
  ∃ (gf : Nat) (A : Option Addr) (c : Nat), e = .returned (.pointer (some ⟨gf, 0, none⟩)) ∧ FAt w' tF tE sz w.heap.size gf g A c n xs ∧ Below w.heap.size w w'
theorem newI_pure (kf : Nat) (lb : Array Value) (heg : ∀ args w, (callFunc kf args).run Try.prog w = .ok (.enter kf args) w) (g m : Nat) (T : List Tri) (V : Nat → Int) (w : World) (hT : T.length ≤ 1000) (h : TabN w g m T)
    (hof : ∀ c W, c < 3 * T.length → Below w.heap.size w W → Calls Try.prog kf (#[.int .i64 (c : Int)] ++ lb) W (IntPost W (V c))) :
    Calls Try.prog 12 #[.pointer (some ⟨g, 0, none⟩), .func (.func kf) #[] lb] w (NewQ 70 3 1 g (3 * T.length) ((List.range (3 * T.length)).flatMap fun i => cellsI (V i)) w) :=
  (newI_any kf lb heg g m T (fun _ => False) (fun _ _ => True) V w hT h (fun _ hf => hf.elim) (fun _ _ _ _ _ => trivial) trivial (OfC.pure hof)).mono fun e w' ⟨gf, A, c, he, hf, _, ho⟩ => ⟨gf, A, c, he, hf, ho.below_⟩
theorem kr_of {w : World} {A : Option Addr} {c B : Nat} {L : List Int} (h : IR w B A c L) : KR w A L := ⟨h.reads⟩
theorem ir_own {w : World} {B c k : Nat} {A : Option Addr} {L : List Int} (h : IR w B A c L) (hk : L.length = k) : w.ownsRow B 3 1 (.slice A k c) k (ZL L) := by
  subst hk
  exact h
/-- Where corners of one vertex have one value there is no seam. -/
theorem seams_vert {m : Nat} {T : List Tri} {K : List Int} (hs : SurfE m T) (h : ∀ c d, c < 3 * T.length → d < 3 * T.length → cv T c = cv T d → kval K c = kval K d) : seamsN T K (3 * T.length) = [] := by
  unfold seamsN
  rw [List.map_eq_nil_iff, List.filter_eq_nil_iff]
  intro c hc
  have hc3 := List.mem_range.1 hc
  unfold seamB partsB
  cases ho : oppF T c with
  | none => simp
  | some o =>
    obtain ⟨ho3, hce, _, _⟩ := opp_back hs hc3 ho
    unfold ce at hce
    injection hce with e1 e2
    have h1 := h (nxc c) (pvc o) (nxc_lt hc3) (pvc_lt ho3) e2.symm
    have h2 := h (pvc c) (nxc o) (pvc_lt hc3) (nxc_lt ho3) e1.symm
    simp [h1, h2]
/-- The values of all corners up to one. -/
def yvl (Y : List Int) (k : Nat) : Int := Y.getD (k % Y.length) 0
def KS (T : List Tri) (Y : List Int) (n : Nat) : List Int := (List.range n).map fun i => yvl Y (cv T i).toNat
theorem KS_len (T : List Tri) (Y : List Int) (n : Nat) : (KS T Y n).length = n := by unfold KS; simp
theorem KS_val {T : List Tri} {Y : List Int} {n c : Nat} (h : c < n) : kval (KS T Y n) c = yvl Y (cv T c).toNat := by
  unfold kval KS
  rw [List.getD_eq_getElem?_getD, List.getElem?_map, List.getElem?_range h]; rfl
theorem yvl_ok {Y : List Int} (hY : ∀ y ∈ Y, 0 ≤ y ∧ y ≤ 65535) (k : Nat) : 0 ≤ yvl Y k ∧ yvl Y k ≤ 65535 := by
  unfold yvl
  rw [List.getD_eq_getElem?_getD]
  cases h : Y[k % Y.length]? with
  | none => simp
  | some y => exact hY y (List.mem_of_getElem? h)
theorem sm_row {w5 : World} {B gk c c5 : Nat} {A5 : Option Addr} {K K' : List Int} {y : Int} {cs : Array Value} {u : Value} (h : w5.ownsRow B 3 1 (.slice A5 (c + 1) c5) (c + 1) (ZL K ++ [.int .i64 y])) (hk : K' = K ++ [y]) (hb : Blk w5 gk 25 cs) : IR (w5.setCell ⟨gk, 0, none⟩ u) B A5 c5 K' := by
  have hl : K'.length = c + 1 := by
    have := h.1
    rw [hk]; unfold ZL at this
    simp at this ⊢
    omega
  unfold IR
  rw [hl, hk]
  refine own_same (by unfold ZL at h ⊢; rw [List.map_append]; exact h) fun k hk' => ?_
  obtain ⟨ds, hd⟩ := own_blk h hk'
  exact Below.heap_setCell _ _ _ _ (hd.ne_ hb (by decide))
set_option maxRecDepth 100000 in
set_option maxHeartbeats 4000000 in
theorem smoF_any (gk : Nat) (Ak : Option Addr) (ck : Nat) (K : List Int) (c : Nat) (w : World) (hK : K.length ≤ 1000000) (hc : c < K.length) (h1 : Blk w gk 25 #[.slice Ak K.length ck]) (hk : KR w Ak K) :
    Calls Try.prog 13 #[.int .i64 (c : Int), .pointer (some ⟨gk, 0, none⟩)] w (IntPost w (kval K c)) := by
  obtain ⟨ad, rfl, hq⟩ := hk.cell hc
  have c0 := h1.cell 0
  simp at c0
  have cc := hq.c
  have hci : (c : Int) < (K.length : Int) := by omega
  clear h1 hk hq
  go_enter Try.func13, Try.ntmps13
  go_wp2_with fail
  go_ret
  exact ⟨rfl, Below.refl _ _⟩
attribute [local irreducible] Blk LRow World.alloc World.setCell World.cell? World.frozen? MapV ERow
set_option maxRecDepth 100000 in
set_option maxHeartbeats 8000000 in
theorem smo31_any (N : Int) (A : Option Addr) (n c : Nat) (T : List Tri) (Ay : Option Addr) (ny cy : Nat) (Y : List Int) (w : World) (hny : Y.length = ny) (hny2 : ny ≤ 9223372036854775807) (hY : ∀ y ∈ Y, 0 ≤ y ∧ y ≤ 65535) (ht : TrisAt w w.heap.size A n T) (hy : Reads w w.heap.size 1 Ay ny (Y.map (Value.int .u16))) :
    Calls Try.prog 4 #[.agg #[.int .i64 N, .slice A n c], .slice Ay ny cy] w (BoolPost w true) := by
  obtain rfl : n = T.length := ht.len.symm
  subst hny
  have HT := Lib.hid ht
  have HY := Lib.hid hy
  have HYV := Lib.hid hY
  clear ht hy hY
  obtain ⟨i0, hi0, hz0, hz1, hz2⟩ := info_parts int_infoC
  obtain ⟨V, hV⟩ : ∃ V, V = w.alloc (.cells #[.int .i64 N, .slice A T.length c] 24) := ⟨_, rfl⟩
  have GA0 : Hid (Blk V w.heap.size 24 #[.int .i64 N, .slice A T.length c]) := by subst hV; exact Lib.hid (Blk.new _ _ _)
  have HB0 : Hid (Below w.heap.size w V) := by subst hV; exact Lib.hid (bw_alloc (Below.refl _ _) _)
  go_enter Try.func4, Try.ntmps4
  go_upto_region 1 with (fail)
  rw [← hV]
  clear hV
  obtain ⟨ga, hga⟩ : ∃ g, g = w.heap.size := ⟨_, rfl⟩
  rw [← hga] at GA0
  simp only [← hga]
  clear hga
  go_wp2_with fail
  refine (awake_any _).mono ?_
  rintro e w1 ⟨rfl, hb⟩
  have GA1 := Lib.hid (blk_call GA0.out hb)
  have HB1 := Lib.hid (bw_call HB0.out hb)
  clear hb HB0 GA0
  obtain ⟨s0, s1, _, _, _⟩ := soup_facts GA1.out
  go_wp2_with fail
  refine (table31_any N A c T w1 ((HT.out.below HB1.out).more HB1.out.size)).mono ?_
  rintro e w2 (⟨rfl, hb, _⟩ | ⟨g, m, rfl, hm60, hT40, hck, rfl, htab, hb⟩)
  · have HB2 := Lib.hid (bw_call HB1.out hb)
    clear hb
    go_wp2_with fail
    go_ret
    exact ⟨rfl, HB2.out⟩
  have GA2 := Lib.hid (blk_call GA1.out hb)
  have HT2 := Lib.hid htab
  have HB2 := Lib.hid (bw_call HB1.out hb)
  clear hb htab hck GA1 HB1 s0 s1
  obtain ⟨s0, s1, _, _, _⟩ := soup_facts GA2.out
  rcases Nat.eq_zero_or_pos Y.length with hy0 | hy0
  · have e0 : ((Y.length : Int) == 0) = true := by rw [beq_iff_eq]; omega
    clear hy0
    go_wp2_with fail
    go_ret
    exact ⟨rfl, HB2.out⟩
  have e0 : ((Y.length : Int) == 0) = false := by rw [beq_eq_false_iff_ne]; omega
  by_cases hy60 : 60 < Y.length
  · have hyi : (60 : Int) < (Y.length : Int) := by omega
    go_wp2_with fail
    go_ret
    exact ⟨rfl, HB2.out⟩
  have hyi : ¬ (60 : Int) < (Y.length : Int) := by omega
  go_upto_region 7 with (fail)
  obtain ⟨w3, hw3⟩ : ∃ w3, w3 = w2.alloc (.cells #[.slice none 0 0] 25) := ⟨_, rfl⟩
  have GK3 : Hid (Blk w3 w2.heap.size 25 #[.slice none 0 0]) := by rw [hw3]; exact Lib.hid (Blk.new _ _ _)
  have hb3 : Below w2.heap.size w2 w3 := by rw [hw3]; exact bw_alloc (Below.refl _ _) _
  obtain ⟨gk, hgk⟩ : ∃ gk, gk = w2.heap.size := ⟨_, rfl⟩
  rw [← hw3]
  rw [← hgk] at GK3 ⊢
  have GA3 := Lib.hid (blk_call GA2.out hb3)
  have HGK : Hid (w3.heap.size ≤ gk + 1 ∧ w2.heap.size ≤ gk ∧ w.heap.size ≤ w2.heap.size) := Lib.hid (by rw [hw3, World.size_alloc]; have := HB2.out.size; omega)
  clear hw3 hgk e0
  obtain ⟨n3, hn3⟩ : ∃ n3, n3 = 3 * T.length := ⟨_, rfl⟩
  have HN3 := Lib.hid hn3
  have hn120 : n3 ≤ 120 := by omega
  have hmx := HT2.out.s.m1
  have HGW : Hid (∀ W, Below w2.heap.size w2 W → TabN W g m T ∧ Blk W ga 24 #[.int .i64 (m : Int), .slice A T.length c] ∧ Below w.heap.size w W) := Lib.hid fun W h => ⟨HT2.out.below h, blk_call GA2.out h, bw_call HB2.out h⟩
  have HC3 := Lib.hid hb3
  clear hn3 hb3 s0 s1
  have HI0 : Hid (IR w3 w2.heap.size none 0 (KS T Y 0)) := Lib.hid (IR.nil _ _)
  obtain ⟨s0, s1, _, _, _⟩ := soup_facts GA3.out
  go_wp2_with fail
  go_loopw [7] (fun kv wr => ∃ c0 : Nat, c0 ≤ n3 ∧ kv = .int .i64 (c0 : Int) ∧ Hid (∃ A' c', Blk wr gk 25 #[.slice A' c0 c'] ∧ IR wr w2.heap.size A' c' (KS T Y c0)) ∧ Hid (Below w2.heap.size w2 wr)) (fun kv _ => n3 - (intOf kv).toNat)
  case atStart => exact ⟨0, by omega, rfl, ⟨none, 0, GK3.out, HI0.out⟩, HC3.out⟩
  case round =>
    obtain ⟨k, hk, rfl, HX, HC⟩ := hrel
    obtain ⟨wB, hwB⟩ : ∃ wB : World, wB = wr := ⟨_, rfl⟩
    rw [← hwB] at HX HC ⊢
    clear hwB s0 s1 GA3
    obtain ⟨HTB, hga, hbw⟩ := HGW.out wB HC.out
    obtain ⟨s0, s1, _, _, _⟩ := soup_facts hga
    have HTBh := Lib.hid HTB
    have HBW := Lib.hid hbw
    have hn3i : (3 : Int) * (T.length : Int) = (n3 : Int) := by have := HN3.out; omega
    have HNI := Lib.hid hn3i
    clear HTB hga hbw hn3i
    by_cases hlt : k < n3
    · have hki : (k : Int) < 3 * (T.length : Int) := by have := HNI.out; omega
      have hc3 : k < 3 * T.length := by have := HN3.out; omega
      obtain ⟨A', c', hkb, hir⟩ := HX.out
      have HKB := Lib.hid hkb
      have HIR := Lib.hid hir
      clear hkb hir HX
      have hcv := cv_ok HTBh.out.s.ok hc3
      have hhvx : ∀ W, Below w2.heap.size w2 W → Calls Try.prog 10 #[.pointer (some ⟨g, 0, none⟩), .int .i64 (k : Int)] W (IntPost W (cv T k)) := fun W h => (HGW.out W h).1.vertex hc3
      have hks : KS T Y (k + 1) = KS T Y k ++ [yvl Y (cv T k).toNat] := by unfold KS; rw [List.range_succ, List.map_append]; rfl
      obtain ⟨v, hv⟩ := Int.eq_ofNat_of_zero_le hcv.1
      rw [hv] at hhvx hks hcv
      rw [show ((v : Int)).toNat = v from rfl] at hks
      have HVX := Lib.hid hhvx
      have hvm : v < 4194304 + 1 := by omega
      clear hv hhvx hcv
      obtain ⟨q, hq⟩ : ∃ q, q = v % Y.length := ⟨_, rfl⟩
      have hqy : q < Y.length := by rw [hq]; exact Nat.mod_lt _ hy0
      have hmod : Int.tmod (v : Int) (Y.length : Int) = (q : Int) := by rw [hq]; rfl
      obtain ⟨y, hyv⟩ : ∃ y, y = yvl Y v := ⟨_, rfl⟩
      have hyr := yvl_ok HYV.out v
      rw [← hyv] at hks hyr
      have hyq : Y[q]? = some y := by rw [hyv]; unfold yvl; rw [← hq, List.getD_eq_getElem?_getD, List.getElem?_eq_getElem hqy]; rfl
      obtain ⟨ady, u, rfl, hadl, hu, hcc⟩ := (HY.out.below HBW.out).at_ hqy
      rw [List.getElem?_map, hyq] at hu
      obtain rfl : Value.int .u16 y = u := by injection hu
      have CQw : Hid (CellQ wB (ady.add q) (.int .u16 y)) := Lib.hid ⟨hcc, World.block_lt_of_cell? _ _ hcc⟩
      have CQ := CQw
      have hadw : (ady.add q).block < w.heap.size := by rw [block_of_add]; exact hadl
      have CQN : Hid (∀ W : World, IR W w2.heap.size A' c' (KS T Y k) → some (ady.add q).block ≠ (Value.slice A' k c').ownBlock) := Lib.hid fun W h e => by
        have := (h.lt _ (by rw [KS_len]; exact e.symm)).1
        have := HGK.out
        omega
      have HKS := Lib.hid hks
      have hqi : (q : Int) < (Y.length : Int) := by omega
      have hwq : IntKind.i64.wrap (q : Int) = (q : Int) := IntWalk.i64_in _ (by omega)
      have hwy : IntKind.i64.wrap y = y := IntWalk.i64_in _ (by omega)
      have hlz : ¬ (Y.length : Int) = 0 := by omega
      have hyn : ¬ Y = [] := fun e => by rw [e] at hqy; simp at hqy
      clear hks hyq hyv hq hcc hu hadl hadw
      go_upto_region 10 with (fail)
      refine wp_region_till (S := fun w' => w'.cell? ⟨gk, 0, none⟩ = some (.slice A' k c') ∧ w'.cell? (ady.add q) = some (.int .u16 y)) 13 (by kernel_rfl) ⟨HKB.out.drew.cell 0, CQ.out.drew.c⟩ (fun hHeld => ?_)
      refine Till.take (i := 0) (v := ?vt1) rfl (by kernel_rfl) (by kernel_rfl) (by kernel_rfl) (by kernel_rfl) (fun _ _ _ h => h) (Or.inl ⟨by rfl, ?ht1⟩) (by assumption) ?restt1
      case ht1 => (intro w hSw; (try dsimp only at hSw); go_simp; try with_reducible rfl)
      (try simp only [Act.put, List.setIfInBounds_toArray, List.set_cons_zero, List.set_cons_succ])
      refine Till.take (i := 1) (v := ?vt2) rfl (by kernel_rfl) (by kernel_rfl) (by kernel_rfl) (by kernel_rfl) (fun _ _ _ h => h) (Or.inl ⟨by rfl, ?ht2⟩) (by assumption) ?restt2
      case ht2 => (intro w hSw; (try dsimp only at hSw); go_simp; try with_reducible rfl)
      (try simp only [Act.put, List.setIfInBounds_toArray, List.set_cons_zero, List.set_cons_succ])
      refine Till.take (i := 2) (v := ?vt3) rfl (by kernel_rfl) (by kernel_rfl) (by kernel_rfl) (by kernel_rfl) (fun _ _ _ h => h) (Or.inl ⟨by rfl, ?ht3⟩) (by assumption) ?restt3
      case ht3 => (intro w hSw; (try dsimp only at hSw); go_simp; try with_reducible rfl)
      (try simp only [Act.put, List.setIfInBounds_toArray, List.set_cons_zero, List.set_cons_succ])
      refine Till.take (i := 3) (v := ?vt4) rfl (by kernel_rfl) (by kernel_rfl) (by kernel_rfl) (by kernel_rfl) (fun _ _ _ h => h) (Or.inl ⟨by rfl, ?ht4⟩) (by assumption) ?restt4
      case ht4 => (intro w hSw; (try dsimp only at hSw); go_simp; try with_reducible rfl)
      (try simp only [Act.put, List.setIfInBounds_toArray, List.set_cons_zero, List.set_cons_succ])
      refine Till.take (i := 5) (v := ?vt5) rfl (by kernel_rfl) (by kernel_rfl) (by kernel_rfl) (by kernel_rfl) (fun _ _ _ h => h) (Or.inl ⟨by rfl, ?ht5⟩) (by assumption) ?restt5
      case ht5 => (intro w hSw; (try dsimp only at hSw); go_simp; try with_reducible rfl)
      (try simp only [Act.put, List.setIfInBounds_toArray, List.set_cons_zero, List.set_cons_succ])
      refine Till.take (i := 6) (v := ?vt6) rfl (by kernel_rfl) (by kernel_rfl) (by kernel_rfl) (by kernel_rfl) (fun _ _ _ h => h) (Or.inl ⟨by rfl, ?ht6⟩) (by assumption) ?restt6
      case ht6 => (intro w hSw; (try dsimp only at hSw); go_simp; try with_reducible rfl)
      (try simp only [Act.put, List.setIfInBounds_toArray, List.set_cons_zero, List.set_cons_succ])
      refine Till.ready (rs := [4]) (by kernel_rfl) (by simp) ?_
      refine TillEach.cons rfl (fun K hK => ?_) ?_
      · go_simp
        go_wp2_with (go_at_call 10; refine (HVX.out wB.drew (below_drew HC.out)).mono ?_; rintro e v1 ⟨rfl, hb⟩)
        have KB1 := Lib.hid (blk_call HKB.out.drew hb)
        have IR1 := Lib.hid (HIR.out.drew.below hb)
        have CQ1 := Lib.hid (CQ.out.drew.below hb)
        have HC1 := Lib.hid ((below_drew HC.out).trans (hb.mono (below_drew HC.out).size))
        clear hb
        refine hK.out _ _ ?_ (fun hHeld => ?_)
        · exact ⟨KB1.out.cell 0, CQ1.out.c⟩
        clear hK K
        (try simp only [Act.put, List.setIfInBounds_toArray, List.set_cons_zero, List.set_cons_succ])
        refine Till.take (i := 7) (v := ?vt7) rfl (by kernel_rfl) (by kernel_rfl) (by kernel_rfl) (by kernel_rfl) (fun _ _ _ h => h) (Or.inl ⟨by rfl, ?ht7⟩) (by assumption) ?restt7
        case ht7 => (intro w hSw; (try dsimp only at hSw); go_simp; try with_reducible rfl)
        (try simp only [Act.put, List.setIfInBounds_toArray, List.set_cons_zero, List.set_cons_succ])
        refine Till.take (i := 8) (v := ?vt8) rfl (by kernel_rfl) (by kernel_rfl) (by kernel_rfl) (by kernel_rfl) (fun _ _ _ h => h) (Or.inl ⟨by rfl, ?ht8⟩) (by assumption) ?restt8
        case ht8 => (intro w hSw; (try dsimp only at hSw); go_simp; try with_reducible rfl)
        (try simp only [Act.put, List.setIfInBounds_toArray, List.set_cons_zero, List.set_cons_succ])
        refine Till.take (i := 9) (v := ?vt9) rfl (by kernel_rfl) (by kernel_rfl) (by kernel_rfl) (by kernel_rfl) (fun _ _ _ h => h) (Or.inl ⟨by rfl, ?ht9⟩) (by assumption) ?restt9
        case ht9 => (intro w hSw; (try dsimp only at hSw); go_simp; try with_reducible rfl)
        (try simp only [Act.put, List.setIfInBounds_toArray, List.set_cons_zero, List.set_cons_succ])
        refine Till.take (i := 10) (v := ?vt10) rfl (by kernel_rfl) (by kernel_rfl) (by kernel_rfl) (by kernel_rfl) (fun _ _ _ h => h) (Or.inl ⟨by rfl, ?ht10⟩) (by assumption) ?restt10
        case ht10 => (intro w hSw; (try dsimp only at hSw); go_simp; try with_reducible rfl)
        (try simp only [Act.put, List.setIfInBounds_toArray, List.set_cons_zero, List.set_cons_succ])
        refine Till.ready (rs := [11]) (by kernel_rfl) (by simp) ?_
        refine TillEach.cons rfl (fun K hK => ?_) ?_
        · go_simp
          refine hK.out _ _ ?_ (fun hHeld => ?_)
          · exact ⟨(KB1.out.alloc _).cell 0, (CQ1.out.below (bw_alloc (Below.refl _ _) _)).c⟩
          clear hK K
          (try simp only [Act.put, List.setIfInBounds_toArray, List.set_cons_zero, List.set_cons_succ])
          refine Till.ready (rs := [12]) (by kernel_rfl) (by simp) ?_
          refine TillEach.cons rfl (fun K hK => ?_) ?_
          · refine step_append_sl _ (by rfl) (.tmp 36) (.tmp 47) _ (by rfl) w2.heap.size 3 i0 _ 1 8 Try.underlying25 hi0 hz0 hz1 hz2 rfl (by omega) (.slice A' k c') k (ZL (KS T Y k)) (by rfl) (ir_own (IR1.out.alloc _) (KS_len _ _ _)) (v1.heap.size + 1) (some ⟨v1.heap.size, 0, none⟩) 1 1 [.int .i64 y] (by rfl) (reads_new v1 #[.int .i64 y] 3 1 1 rfl) (by simp [Value.oneCell']) (by simp only [maxLen]; omega) (by omega) (by rw [World.size_alloc]; have := HC1.out.size; omega) ?_
            intro A5 c5 w5 hown5 hg5 hat5
            have KB5 := Lib.hid ((KB1.out.alloc _).grown hg5 (fun e => own_blk_ne (ir_own IR1.out (KS_len _ _ _)) KB1.out (by decide) e.symm))
            have HC5 : Hid (Below w2.heap.size w2 w5) := Lib.hid ((bw_alloc HC1.out _).grown hg5 (by rw [World.size_alloc]; have := HC1.out.size; omega) (fun j hj => (IR1.out.lt j (by rw [KS_len]; exact hj)).1))
            have CQ5 : Hid (CellQ w5 (ady.add q) (.int .u16 y)) := Lib.hid ⟨(hg5.cell ((CQ1.out.below (bw_alloc (Below.refl _ _) _)).c) (CQN.out _ IR1.out)), Nat.lt_of_lt_of_le (CQ1.out.below (bw_alloc (Below.refl _ _) _)).lt hg5.size⟩
            have HO5 := Lib.hid hown5
            have z0 := KB5.out.cell 0
            have z1 := KB5.out.frozen 0
            simp at z0
            clear hown5 hg5 hat5
            refine hK.out _ _ ?_ (fun hHeld => ?_)
            · exact ⟨KB5.out.cell 0, CQ5.out.c⟩
            clear hK K
            (try simp only [Act.put, List.setIfInBounds_toArray, List.set_cons_zero, List.set_cons_succ])
            refine Till.ready (rs := [13]) (by kernel_rfl) (by simp) ?_
            refine TillEach.last rfl (fun K hK => ?_)
            · go_simp
              refine hK.out _ _ ?_
              clear hK K
              (try simp only [Act.put, List.setIfInBounds_toArray, List.set_cons_zero, List.set_cons_succ])
              refine Till.done (by kernel_rfl) ?_ _
              go_wp2_with fail
              go_roundw
              case rel =>
                refine ⟨k + 1, by omega, by go_num, Lib.hid ⟨A5, c5, ?_, ?_⟩, Lib.hid (HC5.out.setCell (p := ⟨gk, 0, none⟩) HGK.out.2.1 _)⟩
                · simpa using KB5.out.set_ 0 (.slice A5 (k + 1) c5)
                · exact sm_row HO5.out HKS.out KB5.out
              case measure => simp [intOf]; omega
          exact TillEach.nil
        exact TillEach.nil
      exact TillEach.nil
    · obtain rfl : n3 = k := by omega
      obtain ⟨Ak, ck, hkb, hir⟩ := HX.out
      obtain ⟨K, hK⟩ : ∃ K, K = KS T Y n3 := ⟨_, rfl⟩
      have hkl : K.length = n3 := by rw [hK]; exact KS_len _ _ _
      rw [← hK] at hir
      rw [← hkl] at hkb
      have HKB := Lib.hid hkb
      have HKR : Hid (KR wB Ak K) := Lib.hid (kr_of hir)
      have hok : okK T.length K := .inr ⟨by rw [hkl]; exact HN3.out, fun x hx => by
        rw [hK] at hx
        unfold KS at hx
        obtain ⟨i, _, rfl⟩ := List.mem_map.1 hx
        exact yvl_ok HYV.out _⟩
      have hval : ∀ c, c < 3 * T.length → kval K c = yvl Y (cv T c).toNat := fun c hc => by rw [hK]; exact KS_val (by have := HN3.out; omega)
      have hsv : seamsN T K (3 * T.length) = [] := seams_vert HTBh.out.s fun c d hc hd e => by rw [hval c hc, hval d hd, e]
      have HOK := Lib.hid hok
      have HVAL := Lib.hid hval
      have HKL := Lib.hid hkl
      have HSE : Hid (∀ W, TabN W g m T → KR W Ak K → Calls Try.prog 7 #[.pointer (some ⟨g, 0, none⟩), .slice Ak K.length ck] W fun e w' => ∃ A' c', e = .returned (.tuple #[.slice A' 0 c', .int .i64 0]) ∧ Below W.heap.size W w') := Lib.hid fun W h1 h2 => by
        refine (edges31_any g m T Ak ck K W (by omega) h1 h2 hok).mono fun e w' h => ?_
        unfold SeamPost at h
        rw [hsv, sortE_nil] at h
        obtain ⟨A', c', h3, _, h4⟩ := h
        exact ⟨A', c', h3, h4⟩
      have hKn : K.length ≤ 120 := by omega
      have hki : ¬ (n3 : Int) < 3 * (T.length : Int) := by have := HNI.out; omega
      clear hkb hir hK hkl hok hval hsv HX
      have k0 := HKB.out.cell 0
      simp at k0
      go_wp2_with fail
      refine (newI_pure 13 #[.pointer (some ⟨gk, 0, none⟩)] (enters_of Try.func13 (by kernel_rfl) rfl) g m T (fun c => kval K c) wB (by omega) HTBh.out
        (fun c W hc hW => smoF_any gk Ak ck K c W (by omega) (by rw [HKL.out, HN3.out]; exact hc) (blk_call HKB.out hW) (HKR.out.below hW))).mono ?_
      rintro e w5 ⟨gf, Af, cf, rfl, hf, hb⟩
      have HF5 := Lib.hid hf
      have HK5 := Lib.hid (blk_call HKB.out hb)
      have HR5 := Lib.hid (HKR.out.below hb)
      have HC5 := Lib.hid (HC.out.trans (hb.mono HC.out.size))
      clear hf hb k0 s0 s1 HTBh HBW HKB HKR
      have k0 := HK5.out.cell 0
      simp at k0
      go_wp2_with fail
      refine (HSE.out w5 (HGW.out w5 HC5.out).1 HR5.out).mono ?_
      rintro e w6 ⟨A6, c6, rfl, hb⟩
      have HF6 := Lib.hid (HF5.out.below hb)
      have HC6 := Lib.hid (HC5.out.trans (hb.mono HC5.out.size))
      clear hb HF5 HC5 HK5 HR5 HSE k0
      obtain ⟨hT6, hga, hbw⟩ := HGW.out w6 HC6.out
      obtain ⟨s0, s1, _, _, _⟩ := soup_facts hga
      clear hga hT6 hbw
      obtain ⟨BF, hBF⟩ : ∃ BF, BF = wB.heap.size := ⟨_, rfl⟩
      rw [← hBF] at HF6
      clear hBF
      go_wp2_with fail
      go_loopw [11] (fun kv wr => ∃ v : Nat, v ≤ m ∧ kv = .int .i64 (v : Int) ∧ Hid (FAt wr 70 3 1 BF gf g Af cf (3 * T.length) ((List.range (3 * T.length)).flatMap fun i => cellsI ((fun c => kval K c) i))) ∧ Hid (Below w2.heap.size w2 wr)) (fun kv _ => m - (intOf kv).toNat)
      case atStart => exact ⟨0, by omega, rfl, HF6, HC6⟩
      case round =>
        obtain ⟨v, hv, rfl, HFr, HCr⟩ := hrel
        obtain ⟨wE, hwE⟩ : ∃ wE : World, wE = wr := ⟨_, rfl⟩
        rw [← hwE] at HFr HCr ⊢
        clear hwE HF6 HC6 s0 s1
        obtain ⟨hTE, hga, hbw⟩ := HGW.out wE HCr.out
        obtain ⟨s0, s1, _, _, _⟩ := soup_facts hga
        have HTE := Lib.hid hTE
        have HBE := Lib.hid hbw
        clear hga hTE hbw
        by_cases hvm : v < m
        · have hvi : (v : Int) < (m : Int) := by omega
          obtain ⟨sv, bv, bo, M, L, hring⟩ := ring_ex HTE.out.s hvm
          have HRG : RingL m T (v : Int) L := .inr ⟨v, rfl, hvm, sv, bv, bo, M, hring⟩
          have hne := hring.on.ne
          have e1 : valsL (fun c => kval K c) L = [yvl Y v] := valsL_const hne fun k hk => by rw [HVAL.out k (HRG.lt k hk), hring.vv k hk]; rfl
          have HS1 : Hid (Calls Try.prog 14 #[.pointer (some ⟨gf, 0, none⟩), .int .i64 (v : Int)] wE (BoolPost wE true)) := by
            have := smoothI_any gf g m BF T Af cf (fun k => kval K k) v L wE (by omega) HFr.out HTE.out HRG
            rw [e1, decide_eq_true (by rfl)] at this
            exact Lib.hid this
          clear e1 hring hne HRG
          go_wp2_with fail
          refine HS1.out.mono ?_
          rintro e w7 ⟨rfl, hb⟩
          have HF7 := Lib.hid (HFr.out.below hb)
          have HC7 := Lib.hid (HCr.out.trans (hb.mono HCr.out.size))
          clear hb HFr HCr HS1
          go_wp2_with fail
          go_roundw
          case rel => exact ⟨v + 1, by omega, by go_num, HF7, HC7⟩
          case measure => simp [intOf]; omega
        · have hvi : ¬ (v : Int) < (m : Int) := by omega
          go_wp2_with fail
          go_ret
          exact ⟨rfl, HBE.out⟩
end Go.Proofs.Ytdpgbccgngdapaa
