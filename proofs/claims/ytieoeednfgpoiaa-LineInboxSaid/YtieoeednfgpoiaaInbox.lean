/- LineInbox, walked whole. No condition. -/
import Derived.Test.YtieoeednfgpoiaaTwo
import Derived.Test.YtieoeednfgpoiaaLost
namespace Go.Proofs.Ytieoeednfgpoiaa
open Go.RowKit

theorem cell_spot {w : World} {q : Addr} {v : Value} (h : w.cell? q = some v) : q = ⟨q.block, q.off, none⟩ := by
  obtain ⟨b, o, s⟩ := q
  cases s with
  | none => rfl
  | some s =>
    unfold World.cell? at h
    split at h
    · simp at h
    · cases h
/-- A packet at an address: its cells as the walk asks for them. -/
structure PackCells (w : World) (q : Addr) (p : PV) : Prop where
  c0 : w.cell? q = some (.int .i64 p.seq)
  c1 : w.cell? (q.add 1) = some (.slice p.A p.data.length p.c)
  f0 : w.cell? ⟨q.block, q.off, none⟩ = some (.int .i64 p.seq)
  f1 : w.cell? ⟨q.block, q.off + 1, none⟩ = some (.slice p.A p.data.length p.c)
theorem PacksAt.cells {w : World} {B : Nat} {A : Option Addr} {n : Nat} {ps : List PV} (h : PacksAt w B A n ps) {k : Nat} (hk : k < n) :
    ∃ ad p, A = some ad ∧ ps[k]? = some p ∧ p ∈ ps ∧ ad.block < B ∧ PackCells w (ad.add (k * 2)) p := by
  obtain ⟨ad, p, e, h1, h2, h3, h4, h5⟩ := h.at_ hk
  have h5' : w.cell? ((ad.add (k * 2)).add 1) = some (.slice p.A p.data.length p.c) := by rw [Deep.add_add]; exact h5
  have e4 := cell_spot h4
  refine ⟨ad, p, e, h1, h2, h3, h4, h5', by rw [← e4]; exact h4, ?_⟩
  have e5 : (ad.add (k * 2)).add 1 = ⟨(ad.add (k * 2)).block, (ad.add (k * 2)).off + 1, none⟩ := by simp [Addr.add]
  rw [← e5]; exact h5'

theorem PacksAt.cells_of {w : World} {B : Nat} {A : Option Addr} {ad : Addr} {n : Nat} {ps : List PV} (h : PacksAt w B A n ps) (e : A = some ad) {k : Nat} {p : PV} (hk : ps[k]? = some p) : PackCells w (ad.add (k * 2)) p := by
  have hl : k < n := by have := (List.getElem?_eq_some_iff.1 hk).1; rw [h.len] at this; exact this
  obtain ⟨ad', p', e', hk', _, _, hc⟩ := h.cells hl
  rw [e] at e'
  rw [hk] at hk'
  injection e' with e'
  injection hk' with hk'
  subst e' hk'
  exact hc
theorem gap_lt {t : IS} : ∀ x ∈ t.gaps, x < t.last := by
  intro x hx
  have hx := List.mem_of_mem_take hx
  unfold gapsTo at hx
  obtain ⟨j, hj, rfl⟩ := List.mem_map.1 hx
  have := List.mem_range.1 (List.mem_filter.1 hj).1
  omega
theorem good_len {F : List (Int × List UInt8)} {t : IS} (h : GoodIn F t) : t.took.length ≤ F.length := by
  have := nodup_le (t.took.map (·.1)) (F.map (·.1)) h.once fun x hx => by
    obtain ⟨p, hp, rfl⟩ := List.mem_map.1 hx
    exact List.mem_map.2 ⟨p, (h.of p hp).1, rfl⟩
  simpa using this
theorem PackCells.below {w w' : World} {q : Addr} {p : PV} {B : Nat} (h : PackCells w q p) (hb : Below B w w') (hq : q.block < B) : PackCells w' q p :=
  ⟨(hb.cell hq).trans h.c0, (hb.cell (by rw [block_of_add]; exact hq)).trans h.c1, (hb.cell (p := ⟨q.block, q.off, none⟩) hq).trans h.f0, (hb.cell (p := ⟨q.block, q.off + 1, none⟩) hq).trans h.f1⟩

set_option maxRecDepth 100000 in
set_option maxHeartbeats 4000000 in
theorem inbox_great (A A2 : Option Addr) (n c n2 c2 : Nat) (w : World) (hn : n ≤ 9223372036854775807) (hn2 : n2 ≤ 9223372036854775807) (hg : 30 < n ∨ 60 < n2) :
    Calls Try.prog 6 #[.slice A n c, .slice A2 n2 c2] w (True_ w) := by
  go_enter Try.func6, Try.ntmps6
  go_wp2_with fail
  refine (awake_any _).mono ?_
  rintro e w2 ⟨rfl, hb⟩
  have HB := Lib.hid hb
  clear hb
  by_cases h1 : 30 < n
  · have h1' : (30 : Int) < (n : Int) := by omega
    clear hg h1
    go_wp2_with fail
    refine (awake_any _).mono ?_
    rintro e w3 ⟨rfl, hb⟩
    go_wp2_with fail
    go_ret
    exact ⟨rfl, HB.out.trans (hb.mono HB.out.size)⟩
  · have h1' : ¬ (30 : Int) < (n : Int) := by omega
    have h2' : (60 : Int) < (n2 : Int) := by have := hg.resolve_left h1; omega
    clear hg h1
    go_wp2_with fail
    refine (awake_any _).mono ?_
    rintro e w3 ⟨rfl, hb⟩
    go_wp2_with fail
    go_ret
    exact ⟨rfl, HB.out.trans (hb.mono HB.out.size)⟩

set_option maxRecDepth 100000 in
set_option maxHeartbeats 4000000 in
theorem inbox_main (A A2 : Option Addr) (n c c2 : Nat) (ps : List PV) (b : List UInt8) (w : World) (hn : n ≤ 30) (hn2 : b.length ≤ 60) (hp : PacksAt w w.heap.size A n ps)
    (hpb : ∀ p ∈ ps, (Lit.int .i64 p.seq).wf = true ∧ p.data.length ≤ p.c ∧ p.c ≤ maxLen) (hr : Reads w w.heap.size 1 A2 b.length (B8 b)) :
    Calls Try.prog 6 #[.slice A n c, .slice A2 b.length c2] w (True_ w) := by
  have HP := Lib.hid hp
  have HPB := Lib.hid hpb
  have HR := Lib.hid hr
  have hmm := @run_makeMap Try.prog
  obtain ⟨i0, hi0, hz0, hz1, hz2⟩ := info_parts pk_info
  have h1' : ¬ (30 : Int) < (n : Int) := by omega
  have h2' : ¬ (60 : Int) < (b.length : Int) := by omega
  clear hp hpb hr
  go_enter Try.func6, Try.ntmps6
  go_wp2_with fail
  refine (awake_any _).mono ?_
  rintro e w2 ⟨rfl, hb⟩
  have HB := Lib.hid (hb.alloc hb.size (.map #[] 0))
  have HM := Lib.hid (MapI.made Try.prog 3 w2)
  have hml : w.heap.size ≤ w2.heap.size := hb.size
  clear hb
  go_upto_region 5 with (fail)
  generalize w2.heap.size = ml at *
  generalize w2.alloc (.map #[] 0) = w3 at *
  go_wp2_with fail
  go_loopw [5, 7] (fun fv iv wr => ∃ (k : Nat) (F : List PV) (A' : Option Addr) (c' : Nat), k ≤ n ∧ iv = .int .i64 k ∧ fv = .slice A' F.length c' ∧ F.length ≤ k ∧ Hid ((∀ p ∈ F, p ∈ ps ∧ p.seq ≤ 100 ∧ p.data.length ≤ 30) ∧ (F.map (·.seq)).Nodup) ∧
      Hid (MapI Try.prog 3 wr ml F.length (lostF (F.map (·.seq)))) ∧ Hid (wr.ownsRow w.heap.size 42 2 (.slice A' F.length c') F.length (F.flatMap PV.cells)) ∧ Hid (Below w.heap.size w wr)) (fun _ iv _ => n - (intOf iv).toNat)
  case atStart =>
    exact ⟨0, [], none, 0, by omega, rfl, rfl, Nat.le_refl _, ⟨(fun p hp => by cases hp), List.nodup_nil⟩, HM.out, World.ownsRow_nil _ _ _ _, HB.out⟩
  case round =>
    obtain ⟨k, F, A', c', hk, rfl, rfl, hFk, HF, HMw, HO, HBe⟩ := hrel
    clear HM HB
    by_cases hlt : k < n
    · obtain ⟨ad, p, rfl, hpk, hpm, had, hpc⟩ := (HP.out.below HBe.out).cells hlt
      have HPC := Lib.hid hpc
      obtain ⟨hc0, hc1, hc2, hc3⟩ := hpc
      have hpb := HPB.out p hpm
      obtain ⟨hw, hb1, hb2⟩ := hpb
      have HW := Lib.hid hw
      have hlook := HMw.out.look Try.underlying3 Try.underlying54 (zero_bool _) hw false
      have hbl : p.data.length ≤ 9223372036854775807 := by unfold maxLen at hb2; omega
      clear hw hb1 hb2
      by_cases hd : p.data.length ≤ 30
      · have hd' : ¬ (30 : Int) < (p.data.length : Int) := by omega
        by_cases hs : p.seq ≤ 100
        · have hs' : ¬ (100 : Int) < p.seq := by omega
          by_cases hin : p.seq ∈ F.map (·.seq)
          · have hlf : lostF (F.map (·.seq)) p.seq = some (.bool true) := by unfold lostF; rw [if_pos hin]
            rw [hlf] at hlook
            simp at hlook
            clear hlf hin
            go_wp2_with fail
            go_roundw
            case rel => exact ⟨k + 1, F, A', c', by omega, by go_num, rfl, by omega, HF.out, HMw.out, HO.out, HBe.out⟩
            case measure => simp [intOf]; omega
          · have hlf : lostF (F.map (·.seq)) p.seq = none := by unfold lostF; rw [if_neg hin]
            have HLF := Lib.hid hlf
            rw [hlf] at hlook
            simp at hlook
            have HIN := Lib.hid hin
            have hbz := HBe.out.size
            have hpm2 := Lib.hid hpm
            clear hlf hin hpm
            generalize hG : F.length = m at *
            have HG := Lib.hid hG
            clear hG
            go_upto_region 12 with (at_builtin; go_must (refine wpList_append_sl _ rfl (.tmp 62) (.tmp 67) _ rfl w.heap.size 42 i0 _ 2 32 Try.underlying37 hi0 hz0 hz1 hz2 rfl (by omega) (.slice A' m c') m (F.flatMap PV.cells) rfl (HO.out.alloc _) (wr.heap.size + 1) (some ⟨wr.heap.size, 0, none⟩) 1 1 [.int .i64 p.seq, .slice p.A p.data.length p.c] rfl (reads_new _ #[.int .i64 p.seq, .slice p.A p.data.length p.c] 42 1 2 rfl) (by simp [Value.oneCell']) (by simp only [maxLen]; omega) (by omega) (by simp; omega) ?_); intro A1 c1' w1 hown1 hg1 hat1)
            have hb1 : Below w.heap.size w w1 := (HBe.out.alloc hbz _).grown hg1 (by simp; omega) fun k hk => (HO.out.lt k hk).1
            have hm1 : MapI Try.prog 3 w1 ml m (lostF (F.map (·.seq))) := (HMw.out.alloc _).grown hg1 (fun e => by
              obtain ⟨cs, hb⟩ := own_blk HO.out e.symm
              exact HMw.out.ne_blk hb rfl)
            have hpc1 : PackCells w1 (ad.add (k * 2)) p := (HP.out.below hb1).cells_of rfl hpk
            obtain ⟨d0, d1, d2, d3⟩ := hpc1
            obtain ⟨es', clock', hst, hm'⟩ := hm1.store Try.underlying3 Try.underlying54 (by unfold maxLen; omega) HW.out (.bool true)
            rw [HLF.out, lostF_snoc] at hm'
            have hon : Only (fun k => k = ml) w1 (ChangeMaps.setBlock w1 ml (.map es' clock')) := (Only.refl (fun k => k = ml) w1).setBlock (.inl rfl) _
            have ho' : (ChangeMaps.setBlock w1 ml (.map es' clock')).ownsRow w.heap.size 42 2 (.slice A1 (m + 1) c1') (m + 1) (F.flatMap PV.cells ++ PV.cells p) := own_same hown1 fun j hj => by
              obtain ⟨cs, hb⟩ := own_blk hown1 hj
              exact hon.block j hb.lt (fun e => hm1.ne_blk hb e.symm)
            have hb' : Below w.heap.size w (ChangeMaps.setBlock w1 ml (.map es' clock')) := hb1.trans (hon.below hb1.size fun j hj => by omega)
            have X1 := Lib.hid hm'
            have X2 := Lib.hid ho'
            have X3 := Lib.hid hb'
            clear hb1 hm1 hm' hon ho' hb' hown1 hg1 hat1 HMw HO HBe HPC hc0 hc1 hc2 hc3
            go_wp2_with fail
            go_roundw
            case rel =>
              refine ⟨k + 1, F ++ [p], A1, c1', by omega, by go_num, by rw [List.length_append, HG.out]; rfl, by rw [List.length_append, HG.out]; simp; omega, ?_, ?_, ?_, X3.out⟩
              · refine Lib.hid ⟨fun p' hp' => ?_, ?_⟩
                · rcases List.mem_append.1 hp' with h | h
                  · exact HF.out.1 p' h
                  · simp at h; subst h; exact ⟨hpm2.out, hs, hd⟩
                · rw [List.map_append, List.nodup_append]
                  exact ⟨HF.out.2, by simp, fun a ha b' hb => by simp at hb; subst hb; rintro rfl; exact HIN.out ha⟩
              · refine Lib.hid ?_
                rw [List.length_append, List.map_append, HG.out]
                exact X1.out
              · refine Lib.hid ?_
                rw [List.length_append, HG.out, List.flatMap_append]
                simpa using X2.out
            case measure => simp [intOf]; omega
        · have hs' : (100 : Int) < p.seq := by omega
          go_wp2_with fail
          go_ret
          exact ⟨rfl, HBe.out⟩
      · have hd' : (30 : Int) < (p.data.length : Int) := by omega
        go_wp2_with fail
        go_ret
        exact ⟨rfl, HBe.out⟩
    · obtain rfl : k = n := by omega
      have hnlt : ¬ (k : Int) < (k : Int) := by omega
      obtain ⟨wB, rfl⟩ : ∃ wB : World, wB = wr := ⟨_, rfl⟩
      have hwB := HBe.out.size
      have hmlt := HMw.out.lt
      have hfew : PacksAt wB wB.heap.size A' F.length F := ⟨Reads.of_own HO.out, rfl, fun p hp => ((HP.out.data p (HF.out.1 p hp).1).below HBe.out).more hwB⟩
      have hby : Reads wB wB.heap.size 1 A2 b.length (B8 b) := (HR.out.below HBe.out).more hwB
      have hseq : ∀ p ∈ F, -9223372036854775808 ≤ p.seq ∧ p.seq ≤ 9223372036854775807 ∧ p.data.length ≤ 65536 := fun p hp => by
        obtain ⟨h1, h2, h3⟩ := HF.out.1 p hp
        have := (HPB.out p h1).1
        have := bounds_i64 this
        exact ⟨this.1, by omega, by omega⟩
      have HFW := Lib.hid hfew
      have HBY := Lib.hid hby
      have HSQ := Lib.hid hseq
      have hkeys : ((F.map PV.key).map (·.1)).Nodup := by rw [List.map_map]; exact HF.out.2
      have HKE := Lib.hid hkeys
      have htwo : Two ((wB.alloc (.cells #[.map none, .int .i64 0] 48)).alloc (.cells #[.map none, .int .i64 0] 48)) wB.heap.size wB.heap.size (wB.heap.size + 1) none none ⟨[], 0⟩ ⟨[], 0⟩ :=
        ⟨⟨fun _ => none, Nat.le_refl _, (Blk.new wB _ _).alloc _, .inl ⟨rfl, rfl⟩, fun _ => ⟨(fun p hp => by cases hp), fun _ => rfl⟩⟩,
          ⟨fun _ => none, by omega, Blk.new_ (by simp) _ _, .inl ⟨rfl, rfl⟩, fun _ => ⟨(fun p hp => by cases hp), fun _ => rfl⟩⟩, by omega, fun k h => by cases h⟩
      have hbel : Below wB.heap.size wB ((wB.alloc (.cells #[.map none, .int .i64 0] 48)).alloc (.cells #[.map none, .int .i64 0] 48)) := ((Below.refl _ _).alloc (Nat.le_refl _) _).alloc (by simp) _
      have HTW := Lib.hid htwo
      have HBL := Lib.hid hbel
      have hFn : F.length ≤ 30 := by omega
      clear hfew hby hseq hkeys htwo hbel
      go_upto_region 14 with (fail)
      generalize (wB.alloc (.cells #[.map none, .int .i64 0] 48)).alloc (.cells #[.map none, .int .i64 0] 48) = w5 at *
      go_wp2_with fail
      go_loopw [77] (fun iv wr => ∃ (k : Nat) (oa : Option Nat) (ta : IS), k ≤ F.length ∧ iv = .int .i64 k ∧ Hid (Two wr wB.heap.size wB.heap.size (wB.heap.size + 1) oa none ta ⟨[], 0⟩) ∧ Hid (GoodIn (F.map PV.key) ta ∧ ∀ j p, j < k → F[j]? = some p → 0 ≤ p.seq → ta.has p.seq) ∧ Hid (Below wB.heap.size wB wr)) (fun iv _ => F.length - (intOf iv).toNat)
      case atStart => exact ⟨0, none, ⟨[], 0⟩, by omega, rfl, HTW.out, Lib.hid ⟨good_start _, fun j p h => absurd h (Nat.not_lt_zero _)⟩, HBL.out⟩
      case round =>
        obtain ⟨k2, oa, ta, hk2, rfl, HT2, HG2, HB2⟩ := hrel
        clear HTW HBL
        by_cases hlt2 : k2 < F.length
        · obtain ⟨ad, p, rfl, hpk, hpm, had, hpc⟩ := (HFW.out.below HB2.out).cells hlt2
          obtain ⟨s1, s2, s3⟩ := HSQ.out p hpm
          have htk := two_take HT2.out p.seq p.A p.c p.data ((HFW.out.data p hpm).below HB2.out) s1 s2 s3 (by have := good_len HG2.out.1; rw [List.length_map] at this; omega)
          obtain ⟨hc0, hc1, hc2, hc3⟩ := hpc
          have HTK := Lib.hid htk
          have HPK := Lib.hid hpk
          have HPM := Lib.hid hpm
          clear htk hpk hpm
          go_wp2_with fail
          refine HTK.out.mono ?_
          rintro e w6 ⟨rfl, oa', ht6, hb6⟩
          go_wp2_with fail
          go_roundw
          case rel =>
            refine ⟨k2 + 1, oa', ta.take p.seq p.data, by omega, by go_num, ht6, Lib.hid ⟨good_take HG2.out.1 (List.mem_map.2 ⟨p, HPM.out, rfl⟩), fun j p' hj hp' h0 => ?_⟩, HB2.out.trans hb6⟩
            by_cases hj2 : j < k2
            · exact take_has _ (HG2.out.2 j p' hj2 hp' h0)
            · obtain rfl : j = k2 := by omega
              have e := HPK.out
              rw [e] at hp'
              injection hp' with hp'
              subst hp'
              exact take_has_self _ _ h0
          case measure => simp [intOf]; omega
        · obtain rfl : k2 = F.length := by omega
          have hall : AllIn (F.map PV.key) ta := fun q hq h0 => by
            obtain ⟨p, hp, rfl⟩ := List.mem_map.1 hq
            obtain ⟨j, hj, e⟩ := List.getElem_of_mem hp
            exact HG2.out.2 j p hj (by rw [List.getElem?_eq_getElem hj, e]) h0
          have HAL := Lib.hid hall
          have HGA := Lib.hid HG2.out.1
          clear hall HG2
          go_wp2_with fail
          go_loopw [88] (fun iv wr => ∃ (k : Nat) (ob : Option Nat) (tb : IS), k ≤ b.length ∧ iv = .int .i64 k ∧ Hid (Two wr wB.heap.size (wB.heap.size + 1) wB.heap.size ob oa tb ta) ∧ Hid (GoodIn (F.map PV.key) tb) ∧ Hid (Below wB.heap.size wB wr)) (fun iv _ => b.length - (intOf iv).toNat)
          case atStart => exact ⟨0, none, ⟨[], 0⟩, by omega, rfl, HT2.out.symm, good_start _, HB2.out⟩
          case round =>
            obtain ⟨k3, ob, tb, hk3, rfl, HT3, HG3, HB3⟩ := hrel
            clear HT2 HB2
            by_cases hlt3 : k3 < b.length
            · by_cases hm0 : 0 < F.length
              · obtain ⟨a2, u, rfl, ha2, hu, hcb⟩ := (HBY.out.below HB3.out).at_ (by exact hlt3)
                obtain ⟨x, hx⟩ : ∃ x : Nat, u = .int .u8 x ∧ x ≤ 255 := by
                  unfold B8 at hu
                  rw [List.getElem?_map] at hu
                  obtain ⟨z, _, rfl⟩ := Option.map_eq_some_iff.1 hu
                  exact ⟨z.toNat, rfl, by have := z.toNat_lt; omega⟩
                obtain ⟨rfl, hx2⟩ := hx
                have hix : x % F.length < F.length := Nat.mod_lt _ hm0
                obtain ⟨ad, p, rfl, hpk, hpm, had, hpc⟩ := (HFW.out.below HB3.out).cells hix
                obtain ⟨s1, s2, s3⟩ := HSQ.out p hpm
                have htk := two_take HT3.out p.seq p.A p.c p.data ((HFW.out.data p hpm).below HB3.out) s1 s2 s3 (by have := good_len HG3.out; rw [List.length_map] at this; omega)
                obtain ⟨hc0, hc1, hc2, hc3⟩ := hpc
                have hrem : Int.tmod (x : Int) (F.length : Int) = ((x % F.length : Nat) : Int) := Int.ofNat_tmod _ _
                have HTK := Lib.hid htk
                have HPM := Lib.hid hpm
                clear htk hpk hpm hu
                go_wp2_with fail
                refine HTK.out.mono ?_
                rintro e w6 ⟨rfl, ob', ht6, hb6⟩
                go_wp2_with fail
                go_roundw
                case rel => exact ⟨k3 + 1, ob', tb.take p.seq p.data, by omega, by go_num, ht6, good_take HG3.out (List.mem_map.2 ⟨p, HPM.out, rfl⟩), HB3.out.trans hb6⟩
                case measure => simp [intOf]; omega
              · have hm0' : F.length = 0 := by omega
                go_wp2_with fail
                go_roundw
                case rel => exact ⟨k3 + 1, ob, tb, by omega, by go_num, HT3.out, HG3.out, HB3.out⟩
                case measure => simp [intOf]; omega
            · obtain rfl : k3 = b.length := by omega
              go_wp2_with fail
              go_loopw [109] (fun iv wr => ∃ (k : Nat) (ob : Option Nat) (tb : IS), k ≤ F.length ∧ iv = .int .i64 k ∧ Hid (Two wr wB.heap.size (wB.heap.size + 1) wB.heap.size ob oa tb ta) ∧ Hid (GoodIn (F.map PV.key) tb ∧ ∀ j p, F.length - 1 - j < k → F[j]? = some p → 0 ≤ p.seq → tb.has p.seq) ∧ Hid (Below wB.heap.size wB wr)) (fun iv _ => F.length - (intOf iv).toNat)
              case atStart => exact ⟨0, ob, tb, by omega, rfl, HT3.out, Lib.hid ⟨HG3.out, fun j p h => absurd h (Nat.not_lt_zero _)⟩, HB3.out⟩
              case round =>
                obtain ⟨k4, ob4, tb4, hk4, rfl, HT4, HG4, HB4⟩ := hrel
                clear HT3 HB3 HG3
                by_cases hlt4 : k4 < F.length
                · have hix : F.length - 1 - k4 < F.length := by omega
                  obtain ⟨ad, p, rfl, hpk, hpm, had, hpc⟩ := (HFW.out.below HB4.out).cells hix
                  obtain ⟨s1, s2, s3⟩ := HSQ.out p hpm
                  have htk := two_take HT4.out p.seq p.A p.c p.data ((HFW.out.data p hpm).below HB4.out) s1 s2 s3 (by have := good_len HG4.out.1; rw [List.length_map] at this; omega)
                  obtain ⟨hc0, hc1, hc2, hc3⟩ := hpc
                  have hsub : ((F.length : Int) - 1 - (k4 : Int)) = ((F.length - 1 - k4 : Nat) : Int) := by omega
                  have HTK := Lib.hid htk
                  have HPK := Lib.hid hpk
                  have HPM := Lib.hid hpm
                  clear htk hpk hpm
                  go_wp2_with fail
                  refine HTK.out.mono ?_
                  rintro e w6 ⟨rfl, ob', ht6, hb6⟩
                  go_wp2_with fail
                  go_roundw
                  case rel =>
                    refine ⟨k4 + 1, ob', tb4.take p.seq p.data, by omega, by go_num, ht6, Lib.hid ⟨good_take HG4.out.1 (List.mem_map.2 ⟨p, HPM.out, rfl⟩), fun j p' hj hp' h0 => ?_⟩, HB4.out.trans hb6⟩
                    by_cases hj2 : F.length - 1 - j < k4
                    · exact take_has _ (HG4.out.2 j p' hj2 hp' h0)
                    · have hjl : j < F.length := (List.getElem?_eq_some_iff.1 hp').1
                      obtain rfl : j = F.length - 1 - k4 := by omega
                      have e := HPK.out
                      rw [e] at hp'
                      injection hp' with hp'
                      subst hp'
                      exact take_has_self _ _ h0
                  case measure => simp [intOf]; omega
                · obtain rfl : k4 = F.length := by omega
                  have hall : AllIn (F.map PV.key) tb4 := fun q hq h0 => by
                    obtain ⟨p, hp, rfl⟩ := List.mem_map.1 hq
                    obtain ⟨j, hj, e⟩ := List.getElem_of_mem hp
                    exact HG4.out.2 j p (by omega) (by rw [List.getElem?_eq_getElem hj, e]) h0
                  have HALb := Lib.hid hall
                  have HGAb := Lib.hid HG4.out.1
                  clear hall HG4
                  go_wp2_with fail
                  go_loopw [124] (fun iv wr => ∃ (k : Nat) (ob : Option Nat), k ≤ F.length ∧ iv = .int .i64 k ∧ Hid (Two wr wB.heap.size (wB.heap.size + 1) wB.heap.size ob oa tb4 ta) ∧ Hid (Below wB.heap.size wB wr)) (fun iv _ => F.length - (intOf iv).toNat)
                  case atStart => exact ⟨0, ob4, by omega, rfl, HT4.out, HB4.out⟩
                  case round =>
                    obtain ⟨k5, ob5, hk5, rfl, HT5, HB5⟩ := hrel
                    clear HT4 HB4
                    by_cases hlt5 : k5 < F.length
                    · obtain ⟨ad, p, rfl, hpk, hpm, had, hpc⟩ := (HFW.out.below HB5.out).cells hlt5
                      obtain ⟨s1, s2, s3⟩ := HSQ.out p hpm
                      have htk := two_take HT5.out p.seq none 0 [] Reads.none_ s1 s2 (by simp) (by have := good_len HGAb.out; rw [List.length_map] at this; omega)
                      have hta : tb4.take p.seq [] = tb4 := take_again [] (fun h0 => HALb.out _ (List.mem_map.2 ⟨p, hpm, rfl⟩) h0)
                      rw [hta] at htk
                      simp only [List.length_nil] at htk
                      clear hta
                      obtain ⟨hc0, hc1, hc2, hc3⟩ := hpc
                      have HTK := Lib.hid htk
                      clear htk hpk hpm
                      go_wp2_with fail
                      refine HTK.out.mono ?_
                      rintro e w6 ⟨rfl, ob', ht6, hb6⟩
                      go_wp2_with fail
                      go_roundw
                      case rel => exact ⟨k5 + 1, ob', by omega, by go_num, ht6, HB5.out.trans hb6⟩
                      case measure => simp [intOf]; omega
                    · obtain rfl : k5 = F.length := by omega
                      obtain ⟨fma, hia⟩ := HT5.out.ib
                      obtain ⟨fmb, hib⟩ := HT5.out.ia
                      obtain ⟨eF, eG⟩ := same_in HKE.out HGA.out HGAb.out HAL.out HALb.out
                      have hda : ∀ t, GoodIn (F.map PV.key) t → ∀ p ∈ t.took, p.2.length ≤ 30 := fun t hg p hp => by
                        obtain ⟨q, hq, rfl⟩ := List.mem_map.1 (hg.of p hp).1
                        exact (HF.out.1 q hq).2.2
                      have hlast : ∀ t, GoodIn (F.map PV.key) t → t.last ≤ 100 := fun t hg => by
                        rcases hg.lastAt with h0 | ⟨p, hp, e⟩
                        · omega
                        · obtain ⟨q, hq, rfl⟩ := List.mem_map.1 (hg.of p hp).1
                          have := (HF.out.1 q hq).2.1
                          have e' : q.seq = t.last := e
                          omega
                      have la := good_len HGA.out
                      have lb := good_len HGAb.out
                      rw [List.length_map] at la lb
                      have hfa := front_any _ _ _ fma _ wr hia (by omega) (fun p hp => by have := hda _ HGA.out p hp; omega)
                      have HFA := Lib.hid hfa
                      clear hfa
                      go_wp2_with fail
                      refine HFA.out.mono ?_
                      rintro e w7 ⟨Af, cf, rfl, hof, hb7⟩
                      have hfb := front_any _ _ _ fmb _ w7 (hib.below hb7) (by omega) (fun p hp => by have := hda _ HGAb.out p hp; omega)
                      rw [← eF] at hfb
                      have HEG := Lib.hid eG
                      clear eG
                      generalize ta.front = F1 at *
                      clear eF
                      have HFB := Lib.hid hfb
                      clear hfb
                      go_wp2_with fail
                      refine HFB.out.mono ?_
                      rintro e w8 ⟨Ag, cg, rfl, hog, hb8⟩
                      have hbA := hb7.trans (hb8.mono hb7.size)
                      have hga := gaps_any _ _ _ fma _ w8 (hia.below hbA) (by have := hlast _ HGA.out; omega)
                      have hnot := gap_not HAL.out
                      rw [HEG.out] at hnot hga
                      have hzlt : ∀ x ∈ tb4.gaps, x < 100 := fun x hx => by have := gap_lt x hx; have := hlast _ HGAb.out; omega
                      have HGa := Lib.hid hga
                      clear hga
                      go_wp2_with fail
                      refine HGa.out.mono ?_
                      rintro e w9 ⟨Ax, cx, rfl, hox, hb9⟩
                      have hgb := gaps_any _ _ _ fmb _ w9 ((hib.below hbA).below hb9) (by have := hlast _ HGAb.out; omega)
                      generalize hG4 : tb4.gaps = G at *
                      have hGl : G.length ≤ 1000 := by rw [← hG4]; unfold IS.gaps; rw [List.length_take]; omega
                      have HGb := Lib.hid hgb
                      clear hgb hG4
                      go_wp2_with fail
                      refine HGb.out.mono ?_
                      rintro e w10 ⟨Ay, cy, rfl, hoy, hb10⟩
                      have r1 := (((Reads.of_own hof).below hb8).below (hb9.mono hb8.size)).below (hb10.mono (Nat.le_trans hb8.size hb9.size))
                      have r2 := ((Reads.of_own hog).below hb9).below (hb10.mono hb9.size)
                      have rx := Lib.hid ((Reads.of_own hox).below hb10)
                      have ry := Lib.hid (Reads.of_own hoy)
                      have hbB : Below wB.heap.size wB w10 := ((HB5.out.trans (hbA.mono HB5.out.size)).trans (hb9.mono (Nat.le_trans HB5.out.size hbA.size))).trans (hb10.mono (Nat.le_trans HB5.out.size (Nat.le_trans hbA.size hb9.size)))
                      have hmz := Lib.hid (HMw.out.below hbB hmlt)
                      have HEND := Lib.hid (HBe.out.trans (hbB.mono HBe.out.size))
                      have HNOT := Lib.hid hnot
                      have HZL := Lib.hid hzlt
                      have q1 : ∀ n, Sem.run Try.prog (convert 35 9 (.slice Af F1.length cf)) (w10.drewN n) = .ok (.string ⟨F1.toArray⟩) (w10.drewN n) := fun n => run_conv_string (c := cf) (r1.drewN n)
                      have q2 : ∀ n, Sem.run Try.prog (convert 35 9 (.slice Ag F1.length cg)) (w10.drewN n) = .ok (.string ⟨F1.toArray⟩) (w10.drewN n) := fun n => run_conv_string (c := cg) (r2.drewN n)
                      clear hof hog hox hoy hb7 hb8 hb9 hb10 hbA hbB r1 r2 hnot hzlt hia hib hda hlast la lb HEG HFA HFB HGa HGb HMw HT5 HB5 HFW HBY HSQ HKE HP HR HPB HF HAL HALb HGA HGAb
                      go_wp2_with fail
                      go_loopw [146] (fun iv wq => ∃ k q : Nat, k ≤ G.length ∧ iv = .int .i64 k ∧ wq = w10.drewN q) (fun iv _ => G.length - (intOf iv).toNat)
                      case atStart => exact ⟨0, 0, by omega, rfl, rfl⟩
                      case round =>
                        obtain ⟨k6, q, hk6, rfl, rfl⟩ := hrel
                        by_cases hlt6 : k6 < G.length
                        · obtain ⟨a1, u1, rfl, ha1, hu1, hc1⟩ := rx.out.at_ hlt6
                          obtain ⟨a2, u2, rfl, ha2, hu2, hc2⟩ := ry.out.at_ hlt6
                          have hu : u1 = u2 := by rw [hu1] at hu2; exact Option.some.inj hu2
                          subst hu
                          have hux : ∃ z, u1 = .int .i64 z ∧ z ∈ G := by
                            unfold ints at hu1
                            rw [List.getElem?_map] at hu1
                            obtain ⟨z, hz, rfl⟩ := Option.map_eq_some_iff.1 hu1
                            exact ⟨z, rfl, List.mem_of_getElem? hz⟩
                          obtain ⟨z, rfl, hzG⟩ := hux
                          obtain ⟨hz0, hz1'⟩ := HNOT.out z hzG
                          have hzn : ¬ z < 0 := by omega
                          have hlz : ∀ n, Sem.run Try.prog (Instr.lookup 54 (.map (some ml)) (.int .i64 z) false) (w10.drewN n) = .ok (.bool false) (w10.drewN n) := fun n => by
                            have hl := (hmz.out.drewN n).look Try.underlying3 Try.underlying54 (zero_bool _) (WalkArith.wf_i64 (n := z) (by have := HZL.out z hzG; omega)) false
                            have e : lostF (F.map (·.seq)) z = none := by
                              unfold lostF
                              rw [if_neg]
                              intro h
                              obtain ⟨p, hp, e⟩ := List.mem_map.1 h
                              exact hz1' (PV.key p) (List.mem_map.2 ⟨p, hp, rfl⟩) e
                            rw [e] at hl
                            simpa using hl
                          clear hu1 hu2 hz1' hz0
                          go_upto_region 42 with (fail)
                          go_quiet (fail)
                          go_wp2_with fail
                          exact ⟨⟨k6 + 1, _, by omega, by go_num, rfl⟩, by simp [intOf]; omega⟩
                        · obtain rfl : k6 = G.length := by omega
                          have q1' := q1 q
                          have q2' := q2 q
                          clear q1 q2
                          go_wp2_with fail
                          go_ret
                          exact ⟨by first | rfl | (simp), below_drewN HEND.out _⟩

theorem inbox_any (A A2 : Option Addr) (n c c2 : Nat) (ps : List PV) (b : List UInt8) (w : World) (hn : n ≤ 9223372036854775807) (hn2 : b.length ≤ 9223372036854775807) (hp : PacksAt w w.heap.size A n ps)
    (hpb : ∀ p ∈ ps, (Lit.int .i64 p.seq).wf = true ∧ p.data.length ≤ p.c ∧ p.c ≤ maxLen) (hr : Reads w w.heap.size 1 A2 b.length (B8 b)) :
    Calls Try.prog 6 #[.slice A n c, .slice A2 b.length c2] w (True_ w) := by
  by_cases hg : 30 < n ∨ 60 < b.length
  · exact inbox_great A A2 n c b.length c2 w hn hn2 hg
  · exact inbox_main A A2 n c c2 ps b w (Nat.not_lt.1 fun h => hg (.inl h)) (Nat.not_lt.1 fun h => hg (.inr h)) hp hpb hr
end Go.Proofs.Ytieoeednfgpoiaa
