/- SeamAlike, walked. -/
import Derived.Test.YtcahbcminonfbaaWake31
namespace Go.Proofs.Ytcahbcminonfbaa
open Go.RowKit

set_option linter.unusedSimpArgs false
set_option linter.unusedVariables false
theorem ofInt64 (a : Nat) (ha : a < 65536) : (BitVec.ofInt 64 (a : Int)).toNat = a := by
  rw [BitVec.ofInt_natCast, BitVec.toNat_ofNat]
  exact Nat.mod_eq_of_lt (by omega)
theorem xor_lt16 {a b : Nat} (ha : a < 65536) (hb : b < 65536) : a ^^^ b < 65536 := Nat.xor_lt_two_pow (n := 16) (by omega) (by omega)
theorem xor64 {a b : Nat} (ha : a < 65536) (hb : b < 65536) : bits .xor .i64 (a : Int) (b : Int) = ((a ^^^ b : Nat) : Int) := by
  have hx := xor_lt16 ha hb
  show IntKind.i64.wrap ((BitVec.ofInt 64 (a : Int) ^^^ BitVec.ofInt 64 (b : Int)).toNat : Int) = _
  rw [BitVec.toNat_xor, ofInt64 a ha, ofInt64 b hb]
  exact IntWalk.i64_in _ (by omega)
def xorF (b : Nat) (x : Int) : Int := ((x.toNat ^^^ b : Nat) : Int)
theorem xorF_inj {n b : Nat} {K : List Int} (hK : okK n K) : ∀ x ∈ K, ∀ y ∈ K, xorF b x = xorF b y → x = y := by
  intro x hx y hy h
  rcases hK with rfl | ⟨_, hv⟩
  · cases hx
  · have h1 := hv x hx
    have h2 := hv y hy
    unfold xorF at h
    have h3 : x.toNat ^^^ b = y.toNat ^^^ b := by omega
    have h4 : (x.toNat ^^^ b) ^^^ b = (y.toNat ^^^ b) ^^^ b := by rw [h3]
    rw [Nat.xor_assoc, Nat.xor_assoc, Nat.xor_self, Nat.xor_zero, Nat.xor_zero] at h4
    omega
theorem xorF_ok {n b : Nat} {K : List Int} (hb : b < 65536) (hK : okK n K) : okK n (K.map (xorF b)) := by
  rcases hK with rfl | ⟨hl, hv⟩
  · exact .inl rfl
  · refine .inr ⟨by rw [List.length_map, hl], fun x hx => ?_⟩
    obtain ⟨y, hy, rfl⟩ := List.mem_map.1 hx
    have h1 := hv y hy
    unfold xorF
    have := xor_lt16 (a := y.toNat) (b := b) (by omega) hb
    omega
theorem kr_of {w : World} {A : Option Addr} {c B : Nat} {L : List Int} (h : IR w B A c L) : KR w A L := ⟨h.reads⟩
theorem ir_own {w : World} {B c k : Nat} {A : Option Addr} {L : List Int} (h : IR w B A c L) (hk : L.length = k) : w.ownsRow B 3 1 (.slice A k c) k (ZL L) := by
  subst hk
  exact h
attribute [local irreducible] Blk LRow World.alloc World.setCell World.cell? World.frozen? MapV ERow
set_option maxRecDepth 100000 in
set_option maxHeartbeats 8000000 in
theorem alikeLaw_any (N : Int) (A : Option Addr) (n c : Nat) (T : List Tri) (Ak : Option Addr) (nk ck : Nat) (K : List Int) (b : Nat) (w : World) (hb16 : b < 65536) (hnk : K.length = nk) (hnk2 : nk ≤ 9223372036854775807) (ht : TrisAt w w.heap.size A n T) (hk : Reads w w.heap.size 1 Ak nk (ZL K)) :
    Calls Try.prog 3 #[.agg #[.int .i64 N, .slice A n c], .slice Ak nk ck, .int .u16 (b : Int)] w (BoolPost w true) := by
  obtain rfl : n = T.length := ht.len.symm
  subst hnk
  have HT := Lib.hid ht
  have HK0 : Hid (KR w Ak K) := Lib.hid ⟨hk⟩
  clear ht hk
  obtain ⟨i0, hi0, hz0, hz1, hz2⟩ := info_parts int_infoC
  obtain ⟨V, hV⟩ : ∃ V, V = w.alloc (.cells #[.int .i64 N, .slice A T.length c] 24) := ⟨_, rfl⟩
  have GA0 : Hid (Blk V w.heap.size 24 #[.int .i64 N, .slice A T.length c]) := by subst hV; exact Lib.hid (Blk.new _ _ _)
  have HB0 : Hid (Below w.heap.size w V) := by subst hV; exact Lib.hid (bw_alloc (Below.refl _ _) _)
  go_enter Try.func3, Try.ntmps3
  go_upto_region 1 with (fail)
  rw [← hV]
  clear hV
  obtain ⟨ga, hga⟩ : ∃ g, g = w.heap.size := ⟨_, rfl⟩
  rw [← hga] at GA0
  simp only [← hga]
  clear hga
  go_wp2_with fail
  refine (awake_any _).mono ?_
  rintro e w1 ⟨rfl, hb⟩
  have GA1 := Lib.hid (blk_call GA0.out hb)
  have HB1 := Lib.hid (bw_call HB0.out hb)
  clear hb HB0 GA0
  obtain ⟨s0, s1, _, _, _⟩ := soup_facts GA1.out
  go_wp2_with fail
  refine (table31_any N A c T w1 ((HT.out.below HB1.out).more HB1.out.size)).mono ?_
  rintro e w2 (⟨rfl, hb, _⟩ | ⟨g, m, rfl, hm60, hT40, hck, rfl, htab, hb⟩)
  · have HB2 := Lib.hid (bw_call HB1.out hb)
    clear hb
    go_wp2_with fail
    go_ret
    exact ⟨rfl, HB2.out⟩
  have GA2 := Lib.hid (blk_call GA1.out hb)
  have HT2 := Lib.hid htab
  have HB2 := Lib.hid (bw_call HB1.out hb)
  clear hb htab hck GA1 HB1 s0 s1
  obtain ⟨s0, s1, _, _, _⟩ := soup_facts GA2.out
  by_cases hk200 : 200 < K.length
  · have hki : (200 : Int) < (K.length : Int) := by omega
    go_wp2_with fail
    go_ret
    exact ⟨rfl, HB2.out⟩
  have hki : ¬ (200 : Int) < (K.length : Int) := by omega
  go_wp2_with fail
  refine (check31_any (m : Int) A c T Ak ck K w2 (by omega) (by omega) (HK0.out.below HB2.out)).mono ?_
  rintro e w3 ⟨rfl, hb⟩
  have HT3 := Lib.hid (HT2.out.below hb)
  have HB3 := Lib.hid (bw_call HB2.out hb)
  clear hb GA2 HT2 HB2 s0 s1
  by_cases hok : okK T.length K
  rotate_left
  · rw [decide_eq_false hok]
    clear hok
    go_wp2_with fail
    go_ret
    exact ⟨rfl, HB3.out⟩
  rw [decide_eq_true hok]
  have HOK := Lib.hid hok
  have HOF := Lib.hid (xorF_ok hb16 hok)
  have HSM : Hid (seamsN T (K.map (xorF b)) (3 * T.length) = seamsN T K (3 * T.length)) := Lib.hid (seams_map hok (xorF_inj hok))
  have HVX : Hid (∀ i, i < K.length → 0 ≤ kval K i ∧ kval K i < 65536) := Lib.hid fun i hi => by
    rcases hok with e | ⟨_, hv⟩
    · rw [e] at hi; cases hi
    · have := hv _ (List.mem_of_getElem? (kval_at hi)); omega
  clear hok
  have HI0 : Hid (IR w3 w3.heap.size none 0 ((K.take 0).map (xorF b))) := Lib.hid (IR.nil _ _)
  go_wp2_with fail
  go_loopw [8, 9] (fun lv iv wr => ∃ (k : Nat) (A' : Option Addr) (c' : Nat), k ≤ K.length ∧ lv = .slice A' k c' ∧ iv = .int .i64 k ∧ Hid (IR wr w3.heap.size A' c' ((K.take k).map (xorF b))) ∧ Hid (Below w3.heap.size w3 wr)) (fun _ iv _ => K.length - (intOf iv).toNat)
  case atStart => exact ⟨0, none, 0, by omega, rfl, rfl, HI0, Lib.hid (Below.refl _ _)⟩
  case round =>
    obtain ⟨k, A', c', hk, rfl, rfl, HIk, HCk⟩ := hrel
    obtain ⟨wB, hwB⟩ : ∃ wB : World, wB = wr := ⟨_, rfl⟩
    rw [← hwB] at HIk HCk ⊢
    clear hwB HI0
    have HBk : Hid (Below w.heap.size w wB) := Lib.hid (bw_call HB3.out HCk.out)
    by_cases hlt : k < K.length
    · have hki2 : (k : Int) < (K.length : Int) := by omega
      obtain ⟨ad, rfl, hc⟩ := (HK0.out.below HBk.out).cell hlt
      have hcc := hc.c
      have hv := HVX.out k hlt
      obtain ⟨x, hx⟩ : ∃ x : Nat, kval K k = (x : Int) := ⟨(kval K k).toNat, by omega⟩
      have HL1 : Hid ((K.take (k + 1)).map (xorF b) = (K.take k).map (xorF b) ++ [((x ^^^ b : Nat) : Int)]) := Lib.hid (by
        rw [List.take_add_one, kval_at hlt, List.map_append, hx]
        rfl)
      have hln : ((K.take k).map (xorF b)).length = k := by rw [List.length_map, List.length_take]; omega
      have hln1 : ((K.take (k + 1)).map (xorF b)).length = k + 1 := by rw [List.length_map, List.length_take]; omega
      rw [hx] at hcc hv
      have hxor := xor64 (a := x) (b := b) (by omega) hb16
      have hcv : IntKind.i64.wrap (b : Int) = (b : Int) := IntWalk.i64_in _ (by omega)
      have HLN := Lib.hid hln
      have HLN1 := Lib.hid hln1
      generalize (K.take k).map (xorF b) = L0 at *
      obtain ⟨L1, HEQ⟩ : ∃ L1, Hid ((K.take (k + 1)).map (xorF b) = L1) := ⟨_, Lib.hid rfl⟩
      rw [HEQ.out] at HL1 HLN1
      generalize x ^^^ b = z at *
      clear hc hx hv hln hln1
      have HBE : Hid (Below w3.heap.size w3 (wB.alloc (.cells #[.int .i64 (z : Int)] 3))) := Lib.hid (bw_alloc HCk.out _)
      have HIE : Hid (IR (wB.alloc (.cells #[.int .i64 (z : Int)] 3)) w3.heap.size A' c' L0) := Lib.hid (HIk.out.alloc _)
      go_upto_region 9 with (at_builtin; go_must (refine wpList_append_sl _ rfl (.tmp 37) (.tmp 45) _ rfl w3.heap.size 3 i0 _ 1 8 Try.underlying25 hi0 hz0 hz1 hz2 rfl (by omega) (.slice A' k c') k (ZL L0) rfl (ir_own HIE.out HLN.out) (wB.heap.size + 1) (some ⟨wB.heap.size, 0, none⟩) 1 1 [.int .i64 (z : Int)] rfl (reads_new wB #[.int .i64 (z : Int)] 3 1 1 rfl) (by intro u hu; simp at hu; subst hu; rfl) (by simp only [maxLen]; omega) (by omega) (bw_size HBE.out) ?_); intro A5 c5 w5 hown5 hg5 hat5)
      have hrow : ∀ q, (Value.slice A' k c').ownBlock = some q → w3.heap.size ≤ q := fun q hq => ((ir_own HIE.out HLN.out).lt q hq).1
      have HBn : Hid (Below w3.heap.size w3 w5) := Lib.hid (bw_grow HBE.out hg5 hrow)
      have HIn : Hid (IR w5 w3.heap.size A5 c5 L1) := Lib.hid (ir_of hown5 HLN1.out.symm (by rw [HL1.out]; simp [ZL]))
      rw [← HEQ.out] at HIn
      clear hown5 hg5 hat5 HBE HIE HIk HBk HCk hrow
      go_wp2_with fail
      exact ⟨⟨k + 1, A5, c5, by omega, rfl, by go_num, HIn, HBn⟩, by simp [intOf]; omega⟩
    · obtain rfl : k = K.length := by omega
      rw [List.take_length] at HIk
      have hlm : (K.map (xorF b)).length = K.length := by rw [List.length_map]
      have HTB := Lib.hid (HT3.out.below HCk.out)
      have HKB := Lib.hid (HK0.out.below HBk.out)
      go_wp2_with fail
      refine (edges31_any g m T Ak ck K wB (by omega) HTB.out HKB.out HOK.out).mono ?_
      rintro e w5 ⟨A5, c5, rfl, he, hb⟩
      have HE5 := Lib.hid he
      have HT5 := Lib.hid (HTB.out.below hb)
      have HI5 := Lib.hid (HIk.out.below hb)
      have HB5 := Lib.hid (bw_call HBk.out hb)
      clear he hb HTB HKB HIk HBk HCk
      go_upto_region 12 with (fail)
      go_wp2_with fail
      have HED := Lib.hid (edges31_any g m T A' c' (K.map (xorF b)) w5 (by rw [hlm]; omega) HT5.out (kr_of HI5.out) HOF.out)
      rw [hlm] at HED
      refine HED.out.mono ?_
      rintro e w6 ⟨A6, c6, rfl, he, hb⟩
      rw [HSM.out] at he ⊢
      have HE6 := Lib.hid he.ec
      have HF6 := Lib.hid (HE5.out.below hb).ec
      have HB6 := Lib.hid (bw_call HB5.out hb)
      have HSL : Hid ((sortE (seamsN T K (3 * T.length))).length ≤ 1000) := Lib.hid (by rw [sortE_len]; have := seamsN_len T K (3 * T.length); omega)
      clear he hb HT5 HI5 HB5 HE5
      generalize sortE (seamsN T K (3 * T.length)) = S at *
      go_wp2_with fail
      refine (alike31_any A5 A6 c5 c6 S w6 (by have := HSL.out; omega) HF6.out HE6.out).mono ?_
      rintro e w7 ⟨rfl, hb⟩
      have HB7 := Lib.hid (bw_call HB6.out hb)
      go_wp2_with fail
      go_ret
      exact ⟨rfl, HB7.out⟩
end Go.Proofs.Ytcahbcminonfbaa
