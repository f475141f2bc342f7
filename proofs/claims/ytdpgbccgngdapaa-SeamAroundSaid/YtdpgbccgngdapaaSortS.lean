/- Edges sorted by slices.SortFunc, as seam.Edges calls it. No condition. -/
import Derived.Test.YtdpgbccgngdapaaCert1
import Derived.Test.YtdpgbccgngdapaaSoup8
import Derived.Test.YtdpgbccgngdapaaCornerB
import Derived.Test.YtdpgbccgngdapaaShelf31
import Derived.Deep.RegionHeld3
namespace Go.Proofs.Ytdpgbccgngdapaa
open Go.RowKit Go.Sort Go.Shelf

/-- By the first number, then by the second. -/
def cfE (x y : Int × Int) : Int := orI (cmpI x.1 y.1) (cmpI x.2 y.2)
structure GCe (V : World) (g : Nat) (a b c d : Int) : Prop where
  c0 : V.cell? ⟨g, 0, none⟩ = some (.int .i64 a)
  c1 : V.cell? ⟨g, 1, none⟩ = some (.int .i64 b)
  c2 : V.cell? ⟨g + 1, 0, none⟩ = some (.int .i64 c)
  c3 : V.cell? ⟨g + 1, 1, none⟩ = some (.int .i64 d)
theorem GCe.on {V w : World} {g : Nat} {a b c d : Int} (h : GCe V g a b c d) (hg : GR V w) :
    w.cell? ⟨g, 0, none⟩ = some (.int .i64 a) ∧ w.cell? ⟨g, 1, none⟩ = some (.int .i64 b) ∧ w.cell? ⟨g + 1, 0, none⟩ = some (.int .i64 c) ∧ w.cell? ⟨g + 1, 1, none⟩ = some (.int .i64 d) ∧ GR V w :=
  ⟨hg.cell h.c0, hg.cell h.c1, hg.cell h.c2, hg.cell h.c3, hg⟩
set_option maxRecDepth 100000 in
set_option maxHeartbeats 4000000 in
theorem cmpS_any (x y : Int × Int) (W : World) :
    Calls Try.prog 23 #[.agg (cellE x).toArray, .agg (cellE y).toArray] W fun e w' => e = .returned (.int .i64 (cfE x y)) ∧ GR W w' := by
  obtain ⟨a, b⟩ := x
  obtain ⟨c, d⟩ := y
  have h1 := fun W' => compare_any a c W'
  have h2 := fun W' => compare_any b d W'
  have hr : Hid (cfE (a, b) (c, d) = orI (cmpI a c) (cmpI b d)) := Lib.hid rfl
  rw [hr.out]
  generalize cmpI a c = r1 at h1 ⊢
  generalize cmpI b d = r2 at h2 ⊢
  have H1 := Lib.hid h1
  have H2 := Lib.hid h2
  clear h1 h2 hr
  unfold cellE
  go_enter Try.func23, Try.ntmps23
  go_wp2_with fail
  obtain ⟨V, hV⟩ : ∃ V, V = (W.alloc (.cells #[.int .i64 a, .int .i64 b] 39)).alloc (.cells #[.int .i64 c, .int .i64 d] 39) := ⟨_, rfl⟩
  have hg : Hid (GR W V) := by subst hV; exact Lib.hid (((GR.refl W).alloc _).alloc _)
  have hc : Hid (GCe V W.heap.size a b c d) := by
    subst hV
    exact Lib.hid ⟨((Blk.new W 39 #[.int .i64 a, .int .i64 b]).alloc _).cell 0, ((Blk.new W 39 #[.int .i64 a, .int .i64 b]).alloc _).cell 1, by simp, by simp⟩
  rw [← hV]
  clear hV
  generalize W.heap.size = g at hc ⊢
  have GR0 := GR.refl V
  go_region_held3 (fun w' => w'.cell? ⟨g, 0, none⟩ = some (.int .i64 a) ∧ w'.cell? ⟨g, 1, none⟩ = some (.int .i64 b) ∧ w'.cell? ⟨g + 1, 0, none⟩ = some (.int .i64 c) ∧ w'.cell? ⟨g + 1, 1, none⟩ = some (.int .i64 d) ∧ GR V w')
    (first | exact hc.out.on (GR.drew GR0) | exact hc.out.on (GR.alloc (GR.of (by assumption)) _) | exact hc.out.on (GR.of (by assumption)))
    (first | (go_at_call 24; refine (or_new rfl _ _ _).mono ?_; rintro e w' ⟨rfl, rfl⟩) | (go_at_call 25; (first | (with_reducible refine (H1.out _).mono ?_) | (with_reducible refine (H2.out _).mono ?_)); rintro e w' ⟨rfl, rfl⟩))
  go_wp2_with fail
  go_ret
  refine ⟨rfl, ?_⟩
  obtain ⟨q, os, hq⟩ := hg.out
  subst hq
  exact (((GR.refl W).drewN q).grow_ os |>.alloc _).drew
theorem ltOf_cfE (x y : Int × Int) : ltOf cfE x y = true ↔ ltE x y := by
  unfold ltOf cfE orI cmpI ltE
  rw [decide_eq_true_eq]
  by_cases h1 : x.1 < y.1
  · simp [h1]
  · by_cases h2 : y.1 < x.1
    · simp [h1, h2]; omega
    · by_cases h3 : x.2 < y.2
      · simp [h1, h2, h3]; omega
      · by_cases h4 : y.2 < x.2
        · simp [h1, h2, h3, h4]
        · simp [h1, h2, h3, h4]
theorem ltOf_cfE_no (x y : Int × Int) : ltOf cfE x y = false ↔ ¬ ltE x y := by
  rw [← ltOf_cfE]; simp
theorem swoE : SWO (ltOf cfE) where
  irrefl x := by rw [ltOf_cfE_no]; exact ltE_irr x
  trans x y z h1 h2 := by rw [ltOf_cfE] at *; exact ltE_trans h1 h2
  ntrans x y z h1 h2 := by rw [ltOf_cfE_no] at *; unfold ltE at *; omega
theorem totalE (x y : Int × Int) (h1 : ltOf cfE x y = false) (h2 : ltOf cfE y x = false) : x = y := by
  rw [ltOf_cfE_no] at *
  exact ltE_tri h1 h2
def sortE (d : List (Int × Int)) : List (Int × Int) := d.mergeSort fun x y => !(ltOf cfE) y x
/-- A row of edges of the call's own. -/
def ERow (w : World) (B : Nat) (A : Option Addr) (c : Nat) (L : List (Int × Int)) : Prop := w.ownsRow B 39 2 (.slice A L.length c) L.length (L.flatMap cellE)
theorem sortS_any (d : List (Int × Int)) (A : Option Addr) (c B : Nat) (w : World) (h : ERow w B A c d) (hne : d ≠ []) (hd : d.length ≤ 100000000) (hB : B ≤ w.heap.size) :
    Calls Try.prog 22 #[.slice A d.length c, .func (.func 23) #[] #[]] w fun e w' => e = .returned (.tuple #[]) ∧ ERow w' B A c (sortE d) ∧ Below B w w' := by
  unfold ERow at h
  have hpos : 0 < d.length := List.length_pos_iff.2 hne
  obtain ⟨g, cap, hv, hBg, hlt⟩ := h.form hpos
  injection hv with hA _ hc
  subst hA hc
  have eg : ∀ args w, (callFunc 23 args).run Try.prog w = .ok (.enter 23 args) w := enters_of Try.func23 (by kernel_rfl) rfl
  have hcmp : CmpLays Try.prog 23 #[] cellE 2 cfE g 0 d.toArray.size w := fun m os dk _ x y => (cmpS_any x y _).mono fun e w' ⟨he, hg⟩ => ⟨he, hg⟩
  have hH : HoldsK cellE 2 w g 0 d.toArray := own_holds (k := 2) (enc := cellE) (fun _ => rfl) (d := d.toArray) h
  have hcon := AnyQ.slices_SortFunc_total Try.sortS 2 Try.isAgg39 Try.sizeOf39 cellE (fun _ => rfl) (fun x v hv => by simp [cellE] at hv; rcases hv with rfl | rfl <;> rfl) cfE swoE 23 #[] g 0 c d.toArray w eg hcmp hH hlt (by simp; omega) totalE
  rw [show d.toArray.size = d.length by simp] at hcon
  refine hcon.mono ?_
  rintro e w' ⟨he, n, os, hw⟩
  subst hw
  refine ⟨he, ?_, (only_sortWorldK _ _ _ _ _ _ _).below hB (fun k hk e => by omega)⟩
  unfold ERow
  have hs : (sortE d).length = d.length := by unfold sortE; exact List.length_mergeSort _
  have := own_sorted (k := 2) (enc := cellE) (fun _ => rfl) (d := d.toArray) (d' := (sortE d).toArray) (by simp [hs]) n os h
  rw [hs]
  simpa [sortE] using this
theorem erow_of {w : World} {B : Nat} {A : Option Addr} {c : Nat} {L : List (Int × Int)} (h : w.ownsRow B 39 2 (.slice A L.length c) L.length (L.flatMap cellE)) : ERow w B A c L := h
theorem ERow.base {w : World} {B B' : Nat} {A : Option Addr} {c : Nat} {L : List (Int × Int)} (h : ERow w B A c L) (hB : B' ≤ B) : ERow w B' A c L := by
  obtain ⟨h1, h2⟩ := h
  refine ⟨h1, ?_⟩
  rcases h2 with h2 | ⟨g, cap, cur, hv, hb, hr⟩
  · exact .inl h2
  · exact .inr ⟨g, cap, cur, hv, Nat.le_trans hB hb, hr⟩
theorem ERow.below {w w' : World} {B : Nat} {A : Option Addr} {c : Nat} {L : List (Int × Int)} (h : ERow w B A c L) (hb : Below w.heap.size w w') : ERow w' B A c L := own_same h fun k hk => hb.block k (h.lt k hk).2
theorem ERow.nil (w : World) (B : Nat) : ERow w B none 0 [] := World.ownsRow_nil _ _ _ _
theorem sortE_is {ss L : List (Int × Int)} (hn : ss.Nodup) (hL : L.Pairwise ltE) (hm : ∀ x, x ∈ ss ↔ x ∈ L) : sortE ss = L := by
  have hp := List.mergeSort_perm ss (fun x y => !(ltOf cfE) y x)
  refine sorted_ext (r := ltE) (fun _ _ _ => ltE_trans) ltE_irr ?_ hL fun x => ?_
  · have h1 := List.pairwise_mergeSort (le := fun x y : Int × Int => !(ltOf cfE) y x) (fun a b c h h' => ?_) (fun a b => ?_) ss
    · have h2 : (ss.mergeSort (fun x y => !(ltOf cfE) y x)).Nodup := hp.nodup_iff.2 hn
      refine (h1.and h2).imp ?_
      rintro a c ⟨h, h'⟩
      have h3 : ¬ ltE c a := by
        rw [← ltOf_cfE_no]
        simpa using h
      by_cases h4 : ltE a c
      · exact h4
      · exact absurd (ltE_tri h4 h3) h'
    · have h3 : ¬ ltE b a := by rw [← ltOf_cfE_no]; simpa using h
      have h4 : ¬ ltE c b := by rw [← ltOf_cfE_no]; simpa using h'
      have h5 : ltOf cfE c a = false := by
        rw [ltOf_cfE_no]
        unfold ltE at *
        omega
      simp [h5]
    · cases e : ltOf cfE b a with
      | false => simp
      | true =>
        have h5 : ltOf cfE a b = false := by
          rw [ltOf_cfE_no]
          have := (ltOf_cfE _ _).1 e
          unfold ltE at *
          omega
        simp [h5]
  · exact hp.mem_iff.trans (hm x)
theorem ERow.drew {w : World} {B : Nat} {A : Option Addr} {c : Nat} {L : List (Int × Int)} (h : ERow w B A c L) : ERow w.drew B A c L := h
theorem ERow.alloc {w : World} {B : Nat} {A : Option Addr} {c : Nat} {L : List (Int × Int)} (h : ERow w B A c L) (o : Obj) : ERow (w.alloc o) B A c L := h.below ((Below.refl _ _).alloc (Nat.le_refl _) _)
theorem ERow.owns {w : World} {B : Nat} {A : Option Addr} {c : Nat} {L : List (Int × Int)} (h : ERow w B A c L) : w.ownsRow B 39 2 (.slice A L.length c) L.length (L.flatMap cellE) := h
theorem sortS_nil (A : Option Addr) (c : Nat) (w : World) : Calls Try.prog 22 #[.slice A 0 c, .func (.func 23) #[] #[]] w fun e w' => e = .returned (.tuple #[]) ∧ w' = w := AnyF.slices_SortFunc_none Try.sortS A c (.func (.func 23) #[] #[]) w
theorem sortE_len (d : List (Int × Int)) : (sortE d).length = d.length := by unfold sortE; exact List.length_mergeSort _
theorem sortE_mem {d : List (Int × Int)} {x : Int × Int} : x ∈ sortE d ↔ x ∈ d := (List.mergeSort_perm d _).mem_iff
/-- Sorted, whatever there is. -/
theorem sortSE_any (d : List (Int × Int)) (A : Option Addr) (c B : Nat) (w : World) (h : ERow w B A c d) (hd : d.length ≤ 100000000) (hB : B ≤ w.heap.size) :
    Calls Try.prog 22 #[.slice A d.length c, .func (.func 23) #[] #[]] w fun e w' => e = .returned (.tuple #[]) ∧ ERow w' B A c (sortE d) ∧ Below B w w' := by
  by_cases hne : d = []
  · subst hne
    refine (sortS_nil A c w).mono ?_
    rintro e w' ⟨rfl, rfl⟩
    refine ⟨rfl, ?_, Below.refl _ _⟩
    rw [show sortE [] = [] from List.eq_nil_of_length_eq_zero (sortE_len [])]
    exact h
  · exact sortS_any d A c B w h hne hd hB
end Go.Proofs.Ytdpgbccgngdapaa
