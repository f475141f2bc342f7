/- The law SymmetryHanded, walked: it holds. No condition. -/
import Derived.Test.YtiajlmajenabiaaGreatFindW
import Derived.Test.YtiajlmajenabiaaGreatIsW15
import Derived.Test.YtiajlmajenabiaaGreatMr47
import Derived.Test.YtiajlmajenabiaaGreatRefM47
set_option maxRecDepth 100000
set_option maxHeartbeats 16000000
set_option linter.all false
namespace Go.Proofs.YtiajlmajenabiaaGreat
open Go.RowKit
inductive HandI (N : Int) (T : List Tri) : Bool → Int → Prop
 | no : checkR N T ≠ (0, 0, 0) → HandI N T false 11
 | yes (m : Nat) (h : Bool) : N = (m : Int) → SurfE m T → (h = true ↔ ¬ Mir m T) → HandI N T h 0
def HandAny (w : World) (N : Int) (T : List Tri) (e : Ending) (w' : World) : Prop :=
 ∃ (h : Bool) (er : Int), e = .returned (.tuple #[.bool h, .int .i64 er]) ∧ HandI N T h er ∧ Below w.heap.size w w'
theorem kn_small {T : List Tri} (h : T.length ≤ 14) : kN T < 20 ∧ T.length * kN T ≤ 1000 := by
 have h1 := kN_le T
 refine ⟨by omega, ?_⟩
 have := Nat.mul_le_mul h (show kN T ≤ 14 by omega)
 omega
theorem handed_any (N : Int) (A : Option Addr) (c : Nat) (T : List Tri) (w : World) (hn : T.length ≤ 14) (ht : TrisAt w w.heap.size A T.length T) :
  Calls Tryz.prog 14 #[.agg #[.int .i64 N, .slice A T.length c]] w (HandAny w N T) := by
 by_cases h : checkR N T = (0, 0, 0)
 · obtain ⟨m, rfl, hs⟩ := chk_surf h
   have hl : (T.map mirT).length = T.length := List.length_map _
   obtain ⟨k1, k2⟩ := kn_small hn
   obtain ⟨k3, k4⟩ := kn_small (T := T.map mirT) (by omega)
   rw [hl] at k4
   refine (handed_yes (m : Int) A c T w h (by omega) k1 k2 k3 k4 ht).mono ?_
   rintro e w' ⟨N1, L1, e1, N2, L2, e2, h1, h2, rfl, hb⟩
   refine ⟨_, _, rfl, .yes m _ rfl hs ?_, hb⟩
   have := equal_iff hs (surf_mir hs) h1 h2
   rw [Bool.not_eq_true', decide_eq_false_iff_not, this]
   unfold Mir
   constructor
   · exact fun h h' => h ⟨rfl, hl.symm, h'⟩
   · exact fun h h' => h h'.2.2
 · refine (handed_no N A c T w h (by omega) ht).mono ?_
   rintro e w' ⟨rfl, hb⟩
   exact ⟨_, _, rfl, .no h, hb⟩
theorem equal_mir (m : Nat) (A A' : Option Addr) (c c' : Nat) (T : List Tri) (w : World) (hs : SurfE m T) (hn : T.length ≤ 14) (h : Bool) (hh : h = true ↔ ¬ Mir m T) (ht : TrisAt w w.heap.size A T.length T) (hu : TrisAt w w.heap.size A' T.length (T.map mirT)) :
  Calls Tryz.prog 19 #[.agg #[.int .i64 (m : Int), .slice A T.length c], .agg #[.int .i64 (m : Int), .slice A' T.length c']] w (BoolPost w (!h)) := by
 have hl : (T.map mirT).length = T.length := List.length_map _
 obtain ⟨k1, k2⟩ := kn_small hn
 obtain ⟨k3, k4⟩ := kn_small (T := T.map mirT) (by omega)
 have := equal_any (m : Int) (m : Int) A A' c c' T (T.map mirT) w (by omega) k1 k2 ht (by omega) k3 k4 (by rw [hl]; exact hu)
 rw [hl] at this
 refine this.mono ?_
 rintro e w' ⟨N1, L1, e1, N2, L2, e2, h1, h2, rfl, hb⟩
 refine ⟨?_, hb⟩
 have he := equal_iff hs (surf_mir hs) h1 h2
 have hd : decide (e1 = 0 ∧ e2 = 0 ∧ N1 = N2 ∧ L1 = L2) = !h := by
  rw [Bool.eq_iff_iff, decide_eq_true_iff, he, Bool.not_eq_true']
  constructor
  · rintro ⟨_, _, h'⟩
    cases hb : h with
    | false => rfl
    | true => exact absurd h' (hh.1 hb)
  · intro hf
    refine ⟨rfl, hl.symm, ?_⟩
    exact Classical.byContradiction fun hc => by have := hh.2 hc; rw [hf] at this; cases this
 rw [hd]
attribute [local irreducible] Blk World.alloc World.setCell World.cell? World.frozen? MapV MapI
theorem lawHanded_any (N : Int) (A : Option Addr) (c : Nat) (T : List Tri) (Al : Option Addr) (nl cl : Nat) (l : List Int) (w : World) (hnl : nl ≤ 9223372036854775807) (ht : TrisAt w w.heap.size A T.length T) (hl : Reads w w.heap.size 1 Al nl (ZL l)) :
  Calls Tryz.prog 3 #[.agg #[.int .i64 N, .slice A T.length c], .slice Al nl cl] w (BoolPost w true) := by
 have HT := Lib.hid ht
 have HL := Lib.hid hl
 clear ht hl
 obtain ⟨k, hk⟩ : ∃ k, k = T.length := ⟨_, rfl⟩
 rw [← hk] at HT ⊢
 have HK := Lib.hid hk
 clear hk
 go_enter Tryz.func3, Tryz.ntmps3
 go_upto_region 1 with (fail)
 obtain ⟨wA, hwA⟩ : ∃ U, U = w.alloc (.cells #[.int .i64 N, .slice A k c] 24) := ⟨_, rfl⟩
 have K1A : Hid (Blk wA w.heap.size 24 #[.int .i64 N, .slice A k c]) := by subst hwA; exact Lib.hid (Blk.new _ _ _)
 have HBA : Hid (Below w.heap.size w wA) := by subst hwA; exact Lib.hid (bw_alloc (Below.refl _ _) _)
 rw [← hwA]
 obtain ⟨b1, hb1⟩ : ∃ b, b = w.heap.size := ⟨_, rfl⟩
 rw [← hb1] at K1A
 simp only [← hb1]
 clear hwA hb1
 have HAW := Lib.hid (awake_any wA)
 go_wp2_with fail
 refine HAW.out.mono ?_
 rintro e w1 ⟨rfl, hb⟩
 have HB1 := Lib.hid (bw_call HBA.out hb)
 have K11 := Lib.hid (K1A.out.below hb K1A.out.lt)
 clear hb HAW K1A HBA
 have p0 : w1.cell? ⟨b1, 0, none⟩ = some (.int .i64 N) := K11.out.cell 0
 have p1 : w1.cell? ⟨b1, 1, none⟩ = some (.slice A k c) := K11.out.cell 1
 have HGR := Lib.hid (great47_any N A k c w1)
 by_cases hbig : big47 N k
 · rw [if_pos hbig] at HGR
   go_wp2_with fail
   refine HGR.out.mono ?_
   rintro e w2 ⟨rfl, hb⟩
   have HB2 := Lib.hid (bw_call HB1.out hb)
   clear hb
   go_wp2_with fail
   go_ret
   exact ⟨rfl, HB2.out⟩
 rw [if_neg hbig] at HGR
 have hk14 : k ≤ 14 := by unfold big47 at hbig; omega
 have hN16 : N ≤ 16 := by unfold big47 at hbig; omega
 clear hbig
 go_wp2_with fail
 refine HGR.out.mono ?_
 rintro e w2 ⟨rfl, hb⟩
 have HB2 := Lib.hid (bw_call HB1.out hb)
 have K12 := Lib.hid (K11.out.below hb K11.out.lt)
 clear hb HGR K11 HB1 p0 p1
 have p0 : w2.cell? ⟨b1, 0, none⟩ = some (.int .i64 N) := K12.out.cell 0
 have p1 : w2.cell? ⟨b1, 1, none⟩ = some (.slice A k c) := K12.out.cell 1
 have HHA : Hid (∀ W, Below w2.heap.size w2 W → Calls Tryz.prog 14 #[.agg #[.int .i64 N, .slice A k c]] W (HandAny W N T)) := Lib.hid fun W hW => by
  have := handed_any N A c T W (by have := HK.out; omega) (by rw [← HK.out]; exact tris_on (bw_call HB2.out hW) HT.out)
  rw [← HK.out] at this
  exact this
 have HIS : Hid (∀ W, Below w2.heap.size w2 W → Calls Tryz.prog 15 #[.agg #[.int .i64 N, .slice A k c]] W (BoolPost W (decide (checkR N T = (0, 0, 0))))) := Lib.hid fun W hW => by
  have := is15_any N A c T W (by have := HK.out; omega) (by rw [← HK.out]; exact tris_on (bw_call HB2.out hW) HT.out)
  rw [← HK.out] at this
  exact this
 have HH2 := Lib.hid (HHA.out w2 (Below.refl _ _))
 clear HHA
 go_wp2_with fail
 refine HH2.out.mono ?_
 rintro e w3 ⟨h, er, rfl, hI, hb⟩
 have HB3 := Lib.hid hb
 have K13 := Lib.hid (K12.out.below hb K12.out.lt)
 clear hb HH2 p0 p1
 have p0 : w3.cell? ⟨b1, 0, none⟩ = some (.int .i64 N) := K13.out.cell 0
 have p1 : w3.cell? ⟨b1, 1, none⟩ = some (.slice A k c) := K13.out.cell 1
 obtain ⟨q, hq⟩ : ∃ q, q = decide (checkR N T = (0, 0, 0)) := ⟨_, rfl⟩
 rw [← hq] at HIS
 have HQ := Lib.hid hq
 clear hq
 have HISX := Lib.hid (HIS.out w3 HB3.out)
 clear HIS
 cases hI with
 | no hno =>
  have hq : q = false := by rw [HQ.out]; exact decide_eq_false hno
  subst hq
  go_wp2_with fail
  refine HISX.out.mono ?_
  rintro e w4 ⟨rfl, hb⟩
  have HB4 := Lib.hid (bw_call HB2.out (bw_call HB3.out hb))
  clear hb
  go_wp2_with fail
  go_ret
  exact ⟨rfl, HB4.out⟩
 | yes m h hN hs hh =>
  subst hN
  have hq : q = true := by rw [HQ.out]; exact decide_eq_true (surf_chk hs)
  subst hq
  have HS := Lib.hid hs
  have HH := Lib.hid hh
  have hm1 := hs.m1
  have HMI : Hid (∀ W, Below w2.heap.size w2 W → Calls Tryz.prog 16 #[.agg #[.int .i64 (m : Int), .slice A k c]] W (SPost W (m : Int) (T.map mirT))) := Lib.hid fun W hW => by
   have := mirror_any (m : Int) A k c T W (by omega) (by rw [HK.out]; rw [HK.out] at HT; exact tris_on (bw_call HB2.out hW) HT.out)
   exact this
  have HRM : Hid (∀ W, Below w2.heap.size w2 W → Calls Tryz.prog 18 #[.agg #[.int .i64 (m : Int), .slice A k c]] W (SPost W (m : Int) (T.map mirT))) := Lib.hid fun W hW => by
   have := refMirror47_any (m : Int) A k c T W (by omega) (by rw [HK.out]; rw [HK.out] at HT; exact tris_on (bw_call HB2.out hW) HT.out)
   exact this
  have hml : (T.map mirT).length = k := by rw [List.length_map]; exact HK.out.symm
  have HHM : Hid (∀ (W : World) (Am : Option Addr) (cm : Nat), TrisAt W W.heap.size Am k (T.map mirT) → Calls Tryz.prog 14 #[.agg #[.int .i64 (m : Int), .slice Am k cm]] W fun e w' => e = .returned (.tuple #[.bool h, .int .i64 0]) ∧ Below W.heap.size W w') := Lib.hid fun W Am cm ht => by
   have := handed_any (m : Int) Am cm (T.map mirT) W (by omega) (by rw [hml]; exact ht)
   rw [hml] at this
   refine this.mono ?_
   rintro e w' ⟨h', er, rfl, hI, hb⟩
   refine ⟨?_, hb⟩
   cases hI with
   | no hno => exact absurd (surf_chk (surf_mir HS.out)) hno
   | yes m' h' e hs' hh' =>
    obtain rfl : m = m' := by omega
    rw [mir_iff, ← HH.out] at hh'
    have : h' = h := by rw [Bool.eq_iff_iff]; exact hh'
    rw [this]
  have HEQ : Hid (∀ (W : World) (Am : Option Addr) (cm : Nat), Below w2.heap.size w2 W → TrisAt W W.heap.size Am k (T.map mirT) → Calls Tryz.prog 19 #[.agg #[.int .i64 (m : Int), .slice A k c], .agg #[.int .i64 (m : Int), .slice Am k cm]] W (BoolPost W (!h))) := Lib.hid fun W Am cm hW ht => by
   have := equal_mir m A Am c cm T W HS.out (by have := HK.out; omega) h HH.out (by rw [← HK.out]; exact tris_on (bw_call HB2.out hW) HT.out) (by rw [← HK.out]; exact ht)
   rw [← HK.out] at this
   exact this
  have HON : Hid (∀ (W : World) (Am : Option Addr) (cm : Nat), Below w2.heap.size w2 W → TrisAt W W.heap.size Am k (T.map mirT) → Calls Tryz.prog 17 #[.agg #[.int .i64 (m : Int), .slice A k c], .agg #[.int .i64 (m : Int), .slice Am k cm], .int .i64 1] W fun e w' => ∃ (Ar : Option Addr) (cr : Nat), e = .returned (.slice Ar (if h then 0 else 1) cr) ∧ Below W.heap.size W w') := Lib.hid fun W Am cm hW ht => by
   have := onto_any m A Am c cm T (T.map mirT) 1 W (by have := HK.out; omega) (by rw [List.length_map]) (by omega) (fun t ht => by have := HS.out.ok t ht; exact ⟨this.a0, this.b0, this.c0⟩) (by omega) (by omega) (by rw [← HK.out]; exact tris_on (bw_call HB2.out hW) HT.out) (by rw [hml]; exact ht)
   rw [hml, ← HK.out] at this
   refine this.mono ?_
   rintro e w' ⟨Ar, cr, rfl, _, hb⟩
   refine ⟨Ar, cr, ?_, hb⟩
   have hi := onto_mir_iff HS.out
   have h01 := onto_mir HS.out
   have hh := HH.out
   cases h with
   | true =>
    have : ((extR T (T.map mirT) m m []).take 1).length = 0 := by
     rcases h01 with h | h
     · exact h
     · exact absurd (hi.1 h) (hh.1 rfl)
    rw [this]; rfl
   | false =>
    have : ((extR T (T.map mirT) m m []).take 1).length = 1 := by
     refine hi.2 (Classical.byContradiction fun hc => ?_)
     have := hh.2 hc
     cases this
    rw [this]; rfl
  have HRN : Hid (∀ W, Below w2.heap.size w2 W → Calls Tryz.prog 20 #[.agg #[.int .i64 (m : Int), .slice A k c], .slice Al nl cl] W (PickPost W (renL (m : Int) T l))) := Lib.hid fun W hW =>
   rename_any (m : Int) A k c T Al nl cl l W (by omega) hnl (tris_on (bw_call HB2.out hW) HT.out) ((HL.out.below (bw_call HB2.out hW)).more (bw_call HB2.out hW).size)
  have HRI : Hid ((renL (m : Int) T l).2.2 ≠ 0 ∨ (renL (m : Int) T l = ((m : Int), T.map (renU l), 0) ∧ permP (m : Int) l)) := Lib.hid (by
   by_cases hp : permP (m : Int) l
   · right
     exact ⟨renL_ok (fit_surf HS.out) hp, hp⟩
   · left
     rw [renL_form (fit_surf HS.out) hp]
     decide)
  have HHR : Hid (permP (m : Int) l → ∀ (W : World) (Am : Option Addr) (cm : Nat), TrisAt W W.heap.size Am k (T.map (renU l)) → Calls Tryz.prog 14 #[.agg #[.int .i64 (m : Int), .slice Am k cm]] W fun e w' => e = .returned (.tuple #[.bool h, .int .i64 0]) ∧ Below W.heap.size W w') := Lib.hid fun hp W Am cm ht => by
   have hrl : (T.map (renU l)).length = k := by rw [List.length_map]; exact HK.out.symm
   have := handed_any (m : Int) Am cm (T.map (renU l)) W (by omega) (by rw [hrl]; exact ht)
   rw [hrl] at this
   refine this.mono ?_
   rintro e w' ⟨h', er, rfl, hI, hb⟩
   refine ⟨?_, hb⟩
   cases hI with
   | no hno => exact absurd (surf_chk (ren_surf47 HS.out hp)) hno
   | yes m' h' e hs' hh' =>
    obtain rfl : m = m' := by omega
    rw [mir_ren HS.out hp, ← HH.out] at hh'
    have : h' = h := by rw [Bool.eq_iff_iff]; exact hh'
    rw [this]
  obtain ⟨M, hM⟩ : ∃ M, M = T.map mirT := ⟨_, rfl⟩
  obtain ⟨R, hR⟩ : ∃ R, R = T.map (renU l) := ⟨_, rfl⟩
  rw [← hM] at HMI HRM HHM HEQ HON hml
  rw [← hR] at HRI HHR
  have hRl : R.length = k := by rw [hR, List.length_map]; exact HK.out.symm
  have HML := Lib.hid hml
  have HRL := Lib.hid hRl
  clear hs hh hM hR hml hRl HQ
  go_wp2_with fail
  refine HISX.out.mono ?_
  rintro e w4 ⟨rfl, hb⟩
  have HB4 := Lib.hid (bw_call HB3.out hb)
  have K14 := Lib.hid (K13.out.below hb K13.out.lt)
  clear hb HISX p0 p1
  have p0 : w4.cell? ⟨b1, 0, none⟩ = some (.int .i64 (m : Int)) := K14.out.cell 0
  have p1 : w4.cell? ⟨b1, 1, none⟩ = some (.slice A k c) := K14.out.cell 1
  have HM4 := Lib.hid (HMI.out w4 HB4.out)
  go_wp2_with fail
  refine HM4.out.mono ?_
  rintro e w5 ⟨Am, cm, rfl, hlm, hb⟩
  rw [HML.out]
  have HB5 := Lib.hid (bw_call HB4.out hb)
  have K15 := Lib.hid (K14.out.below hb K14.out.lt)
  have HH5 := Lib.hid (HHM.out w5 Am cm (by have := LRow.tris hlm; rw [HML.out] at this; exact this))
  clear hb HM4 p0 p1 hlm
  go_wp2_with fail
  refine HH5.out.mono ?_
  rintro e w6 ⟨rfl, hb⟩
  have HBw6 := Lib.hid (bw_call HB5.out hb)
  have K1w6 := Lib.hid (K15.out.below hb K15.out.lt)
  clear hb HH5
  have HONE : Hid (∀ (W : World) (Am : Option Addr) (cm : Nat), Below w2.heap.size w2 W → LRow W w2.heap.size Am cm M → Calls Tryz.prog 17 #[.agg #[.int .i64 (m : Int), .slice A k c], .agg #[.int .i64 (m : Int), .slice Am M.length cm], .int .i64 1] W fun e w' => ∃ (Ar : Option Addr) (cr : Nat), e = .returned (.slice Ar (if h then 0 else 1) cr) ∧ Below W.heap.size W w') := Lib.hid fun W Am cm hW hl => by
   have := LRow.tris hl
   rw [HML.out] at this ⊢
   exact HON.out W Am cm hW this
  have HEQE : Hid (∀ (W : World) (Am : Option Addr) (cm : Nat), Below w2.heap.size w2 W → LRow W w2.heap.size Am cm M → Calls Tryz.prog 19 #[.agg #[.int .i64 (m : Int), .slice A k c], .agg #[.int .i64 (m : Int), .slice Am M.length cm]] W (BoolPost W (!h))) := Lib.hid fun W Am cm hW hl => by
   have := LRow.tris hl
   rw [HML.out] at this ⊢
   exact HEQ.out W Am cm hW this
  clear HON HEQ
  go_upto_region 9 with (fail)
  cases h with
  | true =>
   refine wp_region_held_drew (S := fun w' => w'.cell? ⟨b1, 0, none⟩ = some (.int .i64 (m : Int)) ∧ w'.cell? ⟨b1, 1, none⟩ = some (.slice A k c)) (by kernel_rfl) ⟨(K1w6.out.drew.cell 0), (K1w6.out.drew.cell 1)⟩ (fun hHeld => ?_)
   refine hKk 0 ?_; (try simp only [zQ])
   refine hKk 1 ?_; (try simp only [zQ])
   refine hKk 2 ?_; (try simp only [zQ])
   refine hKk 3 ?_; (try simp only [zQ])
   refine hKk 4 ?_; (try simp only [zQ])
   refine hKk 5 ?_; (try simp only [zQ])
   refine hKk 6 ?_; (try simp only [zQ])
   refine hKk 7 ?_; (try simp only [zQ])
   refine hKk 8 ?_; (try simp only [zQ])
   refine hKk 9 ?_; (try simp only [zQ])
   refine hKk 10 ?_; (try simp only [zQ])
   refine hKk 11 ?_; (try simp only [zQ])
   refine hKk 12 ?_; (try simp only [zQ])
   refine hKk 13 ?_; (try simp only [zQ])
   refine hKk 14 ?_; (try simp only [zQ])
   refine wpAnyH_ready (rs := [15]) (by kernel_rfl) (by simp) ?_
   refine held_cons rfl (fun K hK => ?_) ?_
   · go_simp
     go_wp2_with (go_at_call 18; refine (HRM.out w6.drew (bw_drew HBw6.out)).mono ?_; rintro e v11 ⟨Am2, cm2, rfl, hlm, hb⟩)
     have K1v11 := Lib.hid (blk_call K1w6.out.drew hb)
     have HLMv11 : Hid (LRow v11 w2.heap.size Am2 cm2 M) := Lib.hid (LRow.base hlm (bw_drew HBw6.out).size)
     have HBv11 := Lib.hid (bw_call (bw_drew HBw6.out) hb)
     clear hb
     refine hK.out _ _ ?_ (fun hHeld => ?_)
     · exact ⟨(K1v11.out.cell 0), (K1v11.out.cell 1)⟩
     clear hK K
     (try simp only [zQ])
     refine wpAnyH_ready (rs := [16]) (by kernel_rfl) (by simp) ?_
     refine held_cons rfl (fun K hK => ?_) ?_
     · go_simp
       go_wp2_with (go_at_call 17; refine (HONE.out v11 Am2 cm2 HBv11.out HLMv11.out).mono ?_; rintro e v12 ⟨Ar, cr, rfl, hb⟩)
       have K1v12 := Lib.hid (blk_call K1v11.out hb)
       have HLMv12 := Lib.hid (HLMv11.out.below hb)
       have HBv12 := Lib.hid (bw_call HBv11.out hb)
       clear hb K1v11 HLMv11 HBv11
       refine hK.out _ _ ?_ (fun hHeld => ?_)
       · exact ⟨(K1v12.out.cell 0), (K1v12.out.cell 1)⟩
       clear hK K
       (try simp only [zQ])
       refine hKk 17 ?_; (try simp only [zQ])
       refine hKk 18 ?_; (try simp only [zQ])
       refine hKk 19 ?_; (try simp only [zQ])
       refine hKk 20 ?_; (try simp only [zQ])
       refine hKk 21 ?_; (try simp only [zQ])
       refine hKk 22 ?_; (try simp only [zQ])
       refine hKk 23 ?_; (try simp only [zQ])
       refine hKk 24 ?_; (try simp only [zQ])
       refine wpAnyH_ready (rs := [25]) (by kernel_rfl) (by simp) ?_
       refine held_cons rfl (fun K hK => ?_) ?_
       · go_simp
         go_wp2_with (go_at_call 16; refine (HMI.out v12 HBv12.out).mono ?_; rintro e v13 ⟨Am3, cm3, rfl, hlm, hb⟩)
         have K1v13 := Lib.hid (blk_call K1v12.out hb)
         have HLMv13 := Lib.hid (HLMv12.out.below hb)
         have HLXv13 : Hid (LRow v13 w2.heap.size Am3 cm3 M) := Lib.hid (LRow.base hlm HBv12.out.size)
         have HBv13 := Lib.hid (bw_call HBv12.out hb)
         clear hb K1v12 HLMv12 HBv12
         refine hK.out _ _ ?_ (fun hHeld => ?_)
         · exact ⟨(K1v13.out.cell 0), (K1v13.out.cell 1)⟩
         clear hK K
         (try simp only [zQ])
         refine wpAnyH_ready (rs := [26]) (by kernel_rfl) (by simp) ?_
         refine held_cons rfl (fun K hK => ?_) ?_
         · go_simp
           go_wp2_with (go_at_call 19; refine (HEQE.out v13 Am3 cm3 HBv13.out HLXv13.out).mono ?_; rintro e v14 ⟨rfl, hb⟩)
           have K1v14 := Lib.hid (blk_call K1v13.out hb)
           have HLMv14 := Lib.hid (HLMv13.out.below hb)
           have HLXv14 := Lib.hid (HLXv13.out.below hb)
           have HBv14 := Lib.hid (bw_call HBv13.out hb)
           clear hb K1v13 HLMv13 HLXv13 HBv13
           refine hK.out _ _ ?_ (fun hHeld => ?_)
           · exact ⟨(K1v14.out.cell 0), (K1v14.out.cell 1)⟩
           clear hK K
           (try simp only [zQ])
           refine hKk 27 ?_; (try simp only [zQ])
           refine hKk 28 ?_; (try simp only [zQ])
           refine wpAnyH_done (by kernel_rfl) ?_ _
           have K1n := K1v14
           have HBn := HBv14
           obtain ⟨wX, hwX⟩ : ∃ X, X = v14 := ⟨_, rfl⟩
           rw [← hwX] at K1n HBn ⊢
           clear hwX
           have p0 : wX.cell? ⟨b1, 0, none⟩ = some (.int .i64 (m : Int)) := K1n.out.cell 0
           have p1 : wX.cell? ⟨b1, 1, none⟩ = some (.slice A k c) := K1n.out.cell 1
           have HRX := Lib.hid (HRN.out wX HBn.out)
           go_wp2_with fail
           refine HRX.out.mono ?_
           rintro e w7 ⟨Ax, cx, rfl, hlx, hb⟩
           have HB7 := Lib.hid (bw_call HBn.out hb)
           rcases HRI.out with hne | ⟨he, hp⟩
           · obtain ⟨er, her⟩ : ∃ er, er = (renL (m : Int) T l).2.2 := ⟨_, rfl⟩
             rw [← her] at hne ⊢
             have hneb : (er != 0) = true := by simp [hne]
             clear hlx hb her
             go_wp2_with fail
             go_ret
             exact ⟨rfl, bw_call HB2.out (bw_alloc HB7.out _)⟩
           · rw [he] at hlx ⊢
             dsimp only at hlx ⊢
             have HLR := Lib.hid hlx
             rw [HRL.out]
             clear hlx hb he
             go_upto_region 14 with (fail)
             obtain ⟨wY, hwY⟩ : ∃ X, X = w7.alloc (.cells #[.int .i64 (m : Int), .slice Ax k cx] 24) := ⟨_, rfl⟩
             have KYB : Hid (Blk wY w7.heap.size 24 #[.int .i64 (m : Int), .slice Ax k cx]) := by subst hwY; exact Lib.hid (Blk.new _ _ _)
             have HBY : Hid (Below w2.heap.size w2 wY) := by subst hwY; exact Lib.hid (bw_alloc HB7.out _)
             have HLY : Hid (LRow wY wX.heap.size Ax cx R) := by subst hwY; exact Lib.hid (LRow.alloc HLR.out _)
             rw [← hwY]
             obtain ⟨b9, hb9⟩ : ∃ b, b = w7.heap.size := ⟨_, rfl⟩
             rw [← hb9] at KYB
             simp only [← hb9]
             clear hwY hb9
             have y0 : wY.cell? ⟨b9, 0, none⟩ = some (.int .i64 (m : Int)) := KYB.out.cell 0
             have y1 : wY.cell? ⟨b9, 1, none⟩ = some (.slice Ax k cx) := KYB.out.cell 1
             have HHY := Lib.hid (HHR.out hp wY Ax cx (by have := LRow.tris HLY.out; rw [HRL.out] at this; exact this))
             go_wp2_with fail
             refine HHY.out.mono ?_
             rintro e w8 ⟨rfl, hb⟩
             have HB8 := Lib.hid (bw_call HB2.out (bw_call HBY.out hb))
             clear hb
             go_wp2_with fail
             go_ret
             exact ⟨rfl, HB8.out⟩
         exact AllReadyH.nil
       exact AllReadyH.nil
     exact AllReadyH.nil
   exact AllReadyH.nil
  | false =>
   refine wp_region_held_drew (S := fun w' => w'.cell? ⟨b1, 0, none⟩ = some (.int .i64 (m : Int)) ∧ w'.cell? ⟨b1, 1, none⟩ = some (.slice A k c)) (by kernel_rfl) ⟨(K1w6.out.drew.cell 0), (K1w6.out.drew.cell 1)⟩ (fun hHeld => ?_)
   refine hKk 0 ?_; (try simp only [zQ])
   refine hKk 1 ?_; (try simp only [zQ])
   refine hKk 2 ?_; (try simp only [zQ])
   refine hKk 3 ?_; (try simp only [zQ])
   refine hKk 4 ?_; (try simp only [zQ])
   refine hKk 5 ?_; (try simp only [zQ])
   refine hKk 6 ?_; (try simp only [zQ])
   refine hKk 7 ?_; (try simp only [zQ])
   refine hKk 8 ?_; (try simp only [zQ])
   refine hKk 9 ?_; (try simp only [zQ])
   refine hKk 10 ?_; (try simp only [zQ])
   refine hKk 11 ?_; (try simp only [zQ])
   refine hKk 12 ?_; (try simp only [zQ])
   refine hKk 13 ?_; (try simp only [zQ])
   refine hKk 14 ?_; (try simp only [zQ])
   refine wpAnyH_ready (rs := [15]) (by kernel_rfl) (by simp) ?_
   refine held_cons rfl (fun K hK => ?_) ?_
   · go_simp
     go_wp2_with (go_at_call 18; refine (HRM.out w6.drew (bw_drew HBw6.out)).mono ?_; rintro e v11 ⟨Am2, cm2, rfl, hlm, hb⟩)
     have K1v11 := Lib.hid (blk_call K1w6.out.drew hb)
     have HLMv11 : Hid (LRow v11 w2.heap.size Am2 cm2 M) := Lib.hid (LRow.base hlm (bw_drew HBw6.out).size)
     have HBv11 := Lib.hid (bw_call (bw_drew HBw6.out) hb)
     clear hb
     refine hK.out _ _ ?_ (fun hHeld => ?_)
     · exact ⟨(K1v11.out.cell 0), (K1v11.out.cell 1)⟩
     clear hK K
     (try simp only [zQ])
     refine wpAnyH_ready (rs := [16]) (by kernel_rfl) (by simp) ?_
     refine held_cons rfl (fun K hK => ?_) ?_
     · go_simp
       go_wp2_with (go_at_call 17; refine (HONE.out v11 Am2 cm2 HBv11.out HLMv11.out).mono ?_; rintro e v12 ⟨Ar, cr, rfl, hb⟩)
       have K1v12 := Lib.hid (blk_call K1v11.out hb)
       have HLMv12 := Lib.hid (HLMv11.out.below hb)
       have HBv12 := Lib.hid (bw_call HBv11.out hb)
       clear hb K1v11 HLMv11 HBv11
       refine hK.out _ _ ?_ (fun hHeld => ?_)
       · exact ⟨(K1v12.out.cell 0), (K1v12.out.cell 1)⟩
       clear hK K
       (try simp only [zQ])
       refine hKk 17 ?_; (try simp only [zQ])
       refine hKk 18 ?_; (try simp only [zQ])
       refine hKk 19 ?_; (try simp only [zQ])
       refine hKk 20 ?_; (try simp only [zQ])
       refine hKk 21 ?_; (try simp only [zQ])
       refine hKk 22 ?_; (try simp only [zQ])
       refine hKk 23 ?_; (try simp only [zQ])
       refine hKk 24 ?_; (try simp only [zQ])
       refine wpAnyH_ready (rs := [25]) (by kernel_rfl) (by simp) ?_
       refine held_cons rfl (fun K hK => ?_) ?_
       · go_simp
         go_wp2_with (go_at_call 16; refine (HMI.out v12 HBv12.out).mono ?_; rintro e v13 ⟨Am3, cm3, rfl, hlm, hb⟩)
         have K1v13 := Lib.hid (blk_call K1v12.out hb)
         have HLMv13 := Lib.hid (HLMv12.out.below hb)
         have HLXv13 : Hid (LRow v13 w2.heap.size Am3 cm3 M) := Lib.hid (LRow.base hlm HBv12.out.size)
         have HBv13 := Lib.hid (bw_call HBv12.out hb)
         clear hb K1v12 HLMv12 HBv12
         refine hK.out _ _ ?_ (fun hHeld => ?_)
         · exact ⟨(K1v13.out.cell 0), (K1v13.out.cell 1)⟩
         clear hK K
         (try simp only [zQ])
         refine wpAnyH_ready (rs := [26]) (by kernel_rfl) (by simp) ?_
         refine held_cons rfl (fun K hK => ?_) ?_
         · go_simp
           go_wp2_with (go_at_call 19; refine (HEQE.out v13 Am3 cm3 HBv13.out HLXv13.out).mono ?_; rintro e v14 ⟨rfl, hb⟩)
           have K1v14 := Lib.hid (blk_call K1v13.out hb)
           have HLMv14 := Lib.hid (HLMv13.out.below hb)
           have HLXv14 := Lib.hid (HLXv13.out.below hb)
           have HBv14 := Lib.hid (bw_call HBv13.out hb)
           clear hb K1v13 HLMv13 HLXv13 HBv13
           refine hK.out _ _ ?_ (fun hHeld => ?_)
           · exact ⟨(K1v14.out.cell 0), (K1v14.out.cell 1)⟩
           clear hK K
           (try simp only [zQ])
           refine hKk 27 ?_; (try simp only [zQ])
           refine hKk 28 ?_; (try simp only [zQ])
           refine wpAnyH_done (by kernel_rfl) ?_ _
           have K1n := K1v14
           have HBn := HBv14
           obtain ⟨wX, hwX⟩ : ∃ X, X = v14 := ⟨_, rfl⟩
           rw [← hwX] at K1n HBn ⊢
           clear hwX
           have p0 : wX.cell? ⟨b1, 0, none⟩ = some (.int .i64 (m : Int)) := K1n.out.cell 0
           have p1 : wX.cell? ⟨b1, 1, none⟩ = some (.slice A k c) := K1n.out.cell 1
           have HRX := Lib.hid (HRN.out wX HBn.out)
           go_wp2_with fail
           refine HRX.out.mono ?_
           rintro e w7 ⟨Ax, cx, rfl, hlx, hb⟩
           have HB7 := Lib.hid (bw_call HBn.out hb)
           rcases HRI.out with hne | ⟨he, hp⟩
           · obtain ⟨er, her⟩ : ∃ er, er = (renL (m : Int) T l).2.2 := ⟨_, rfl⟩
             rw [← her] at hne ⊢
             have hneb : (er != 0) = true := by simp [hne]
             clear hlx hb her
             go_wp2_with fail
             go_ret
             exact ⟨rfl, bw_call HB2.out (bw_alloc HB7.out _)⟩
           · rw [he] at hlx ⊢
             dsimp only at hlx ⊢
             have HLR := Lib.hid hlx
             rw [HRL.out]
             clear hlx hb he
             go_upto_region 14 with (fail)
             obtain ⟨wY, hwY⟩ : ∃ X, X = w7.alloc (.cells #[.int .i64 (m : Int), .slice Ax k cx] 24) := ⟨_, rfl⟩
             have KYB : Hid (Blk wY w7.heap.size 24 #[.int .i64 (m : Int), .slice Ax k cx]) := by subst hwY; exact Lib.hid (Blk.new _ _ _)
             have HBY : Hid (Below w2.heap.size w2 wY) := by subst hwY; exact Lib.hid (bw_alloc HB7.out _)
             have HLY : Hid (LRow wY wX.heap.size Ax cx R) := by subst hwY; exact Lib.hid (LRow.alloc HLR.out _)
             rw [← hwY]
             obtain ⟨b9, hb9⟩ : ∃ b, b = w7.heap.size := ⟨_, rfl⟩
             rw [← hb9] at KYB
             simp only [← hb9]
             clear hwY hb9
             have y0 : wY.cell? ⟨b9, 0, none⟩ = some (.int .i64 (m : Int)) := KYB.out.cell 0
             have y1 : wY.cell? ⟨b9, 1, none⟩ = some (.slice Ax k cx) := KYB.out.cell 1
             have HHY := Lib.hid (HHR.out hp wY Ax cx (by have := LRow.tris HLY.out; rw [HRL.out] at this; exact this))
             go_wp2_with fail
             refine HHY.out.mono ?_
             rintro e w8 ⟨rfl, hb⟩
             have HB8 := Lib.hid (bw_call HB2.out (bw_call HBY.out hb))
             clear hb
             go_wp2_with fail
             go_ret
             exact ⟨rfl, HB8.out⟩
         exact AllReadyH.nil
       exact AllReadyH.nil
     exact AllReadyH.nil
   exact AllReadyH.nil
theorem lawHandedN_any (N : Int) (A : Option Addr) (n c : Nat) (T : List Tri) (Al : Option Addr) (nl cl : Nat) (l : List Int) (w : World) (hnl : nl ≤ 9223372036854775807) (ht : TrisAt w w.heap.size A n T) (hl : Reads w w.heap.size 1 Al nl (ZL l)) :
  Calls Tryz.prog 3 #[.agg #[.int .i64 N, .slice A n c], .slice Al nl cl] w (BoolPost w true) := by
 obtain rfl : n = T.length := ht.len.symm
 exact lawHanded_any N A c T Al nl cl l w hnl ht hl
end Go.Proofs.YtiajlmajenabiaaGreat
