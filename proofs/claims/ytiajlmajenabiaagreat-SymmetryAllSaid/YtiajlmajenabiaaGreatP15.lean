/- The small functions of gypsumref15, walked. No condition but sizes. -/
import Derived.Test.YtiajlmajenabiaaGreatCornerB
import Derived.IntWalk
import Derived.Test.YtiajlmajenabiaaGreatPlB
set_option maxRecDepth 100000
set_option maxHeartbeats 16000000
set_option linter.all false
namespace Go.Proofs.YtiajlmajenabiaaGreat
open Go.RowKit
theorem r15Has_any (t : Tri) (v : Int) (w : World) : Calls Tryz.prog 38 #[.agg #[.int .i64 t.a, .int .i64 t.b, .int .i64 t.c], .int .i64 v] w (BoolPost w (hasB t v)) := by
 have HB : Hid (Below w.heap.size w (w.alloc (.cells #[.int .i64 t.a, .int .i64 t.b, .int .i64 t.c] 56))) := Lib.hid (bw_alloc (Below.refl _ _) _)
 unfold hasB
 cases h1 : (t.a == v) with
 | true =>
  go_enter Tryz.func38, Tryz.ntmps38
  go_wp2_with fail
  go_ret
  exact ⟨rfl, HB.out⟩
 | false =>
  cases h2 : (t.b == v) with
  | true =>
   go_enter Tryz.func38, Tryz.ntmps38
   go_wp2_with fail
   go_ret
   exact ⟨rfl, HB.out⟩
  | false =>
   go_enter Tryz.func38, Tryz.ntmps38
   go_wp2_with fail
   go_ret
   exact ⟨rfl, HB.out⟩
end Go.Proofs.YtiajlmajenabiaaGreat
namespace Go.Proofs.YtiajlmajenabiaaGreat
open Go.RowKit
theorem tri_cell {w : World} {g k : Nat} {a : Tri} (h : Blk w g 56 #[.int .i64 a.a, .int .i64 a.b, .int .i64 a.c]) (hk : k < 3) : w.cell? ⟨g, k, none⟩ = some (.int .i64 (cornerT a k)) := by
 rw [h.cell]
 rcases (by omega : k = 0 ∨ k = 1 ∨ k = 2) with rfl | rfl | rfl <;> rfl
def cntB (a b : Tri) : Nat → Nat
 | 0 => 0
 | k + 1 => cntB a b k + if hasB b (cornerT a k) then 1 else 0
def besB (a b : Tri) : Bool := decide (2 ≤ cntB a b 3)
theorem cnt_le (a b : Tri) : ∀ k, cntB a b k ≤ k
 | 0 => Nat.le_refl _
 | k + 1 => by
  have h := cnt_le a b k
  unfold cntB
  split <;> omega
attribute [local irreducible] Blk LRow World.alloc World.setCell World.cell? World.frozen?
theorem beside_any (a b : Tri) (w : World) : Calls Tryz.prog 75 #[.agg #[.int .i64 a.a, .int .i64 a.b, .int .i64 a.c], .agg #[.int .i64 b.a, .int .i64 b.b, .int .i64 b.c]] w (BoolPost w (besB a b)) := by
 obtain ⟨r, HRR⟩ : ∃ r, Hid (besB a b = r) := ⟨_, Lib.hid rfl⟩
 rw [HRR.out]
 obtain ⟨V, hV⟩ : ∃ V, V = (w.alloc (.cells #[.int .i64 a.a, .int .i64 a.b, .int .i64 a.c] 56)).alloc (.cells #[.int .i64 b.a, .int .i64 b.b, .int .i64 b.c] 56) := ⟨_, rfl⟩
 have GX0 : Hid (Blk V w.heap.size 56 #[.int .i64 a.a, .int .i64 a.b, .int .i64 a.c]) := by subst hV; exact Lib.hid ((Blk.new _ _ _).alloc _)
 have GY0 : Hid (Blk V (w.heap.size + 1) 56 #[.int .i64 b.a, .int .i64 b.b, .int .i64 b.c]) := by subst hV; exact Lib.hid (blk_new1 _ _ _ _)
 have HB0 : Hid (Below w.heap.size w V) := by subst hV; exact Lib.hid (bw_alloc (bw_alloc (Below.refl _ _) _) _)
 go_enter Tryz.func75, Tryz.ntmps75
 go_upto_region 1 with (fail)
 rw [← hV]
 clear hV
 obtain ⟨gx, hgx⟩ : ∃ g, g = w.heap.size := ⟨_, rfl⟩
 obtain ⟨gy, hgy⟩ : ∃ g, g = w.heap.size + 1 := ⟨_, rfl⟩
 rw [← hgy] at GY0 ⊢
 rw [← hgx] at GX0
 simp only [← hgx]
 clear hgx hgy
 go_wp2_with fail
 go_loopw [5, 6] (fun nv iv wr => ∃ k : Nat, k ≤ 3 ∧ nv = .int .i64 (cntB a b k : Int) ∧ iv = .int .i64 k ∧ Hid (Blk wr gx 56 #[.int .i64 a.a, .int .i64 a.b, .int .i64 a.c]) ∧ Hid (Blk wr gy 56 #[.int .i64 b.a, .int .i64 b.b, .int .i64 b.c]) ∧ Hid (Below w.heap.size w wr)) (fun _ iv _ => 3 - (intOf iv).toNat)
 case atStart => exact ⟨0, by omega, rfl, rfl, GX0, GY0, HB0⟩
 case round =>
  obtain ⟨k, hk, rfl, rfl, GXwB, GYwB, HBwB⟩ := hrel
  obtain ⟨wB, hwB⟩ : ∃ wB : World, wB = wr := ⟨_, rfl⟩
  rw [← hwB] at GXwB GYwB HBwB ⊢
  clear hwB GX0 GY0 HB0
  have hcn := cnt_le a b k
  by_cases hk3 : k < 3
  · have hki : (k : Int) < 3 := by omega
    have HH := Lib.hid (r15Has_any b (cornerT a k))
    have HCS : Hid (cntB a b (k + 1) = cntB a b k + if hasB b (cornerT a k) then 1 else 0) := Lib.hid rfl
    go_upto_region 5 with (fail)
    cases hh : hasB b (cornerT a k) with
    | true =>
     rw [hh] at HH HCS
     have HC : Hid (cntB a b (k + 1) = cntB a b k + 1) := Lib.hid HCS.out
     clear HCS hh
     generalize cntB a b k = q at *
     refine wp_region_held_drew (S := fun w' => w'.cell? ⟨gx, k, none⟩ = some (.int .i64 (cornerT a k)) ∧ w'.cell? ⟨gy, 0, none⟩ = some (.int .i64 b.a) ∧ w'.cell? ⟨gy, 1, none⟩ = some (.int .i64 b.b) ∧ w'.cell? ⟨gy, 2, none⟩ = some (.int .i64 b.c)) (by kernel_rfl) ⟨(tri_cell GXwB.out.drew hk3), (GYwB.out.drew.cell 0), (GYwB.out.drew.cell 1), (GYwB.out.drew.cell 2)⟩ (fun hHeld => ?_)
     refine hKk 0 ?_; (try simp only [zQ])
     refine hKk 1 ?_; (try simp only [zQ])
     refine hKk 2 ?_; (try simp only [zQ])
     refine hKk 3 ?_; (try simp only [zQ])
     refine wpAnyH_ready (rs := [4]) (by kernel_rfl) (by simp) ?_
     refine held_cons rfl (fun K hK => ?_) ?_
     · go_simp
       go_wp2_with (go_at_call 38; refine (HH.out wB.drew).mono ?_; rintro e v3 ⟨rfl, hb⟩)
       have GXv3 := Lib.hid (blk_call GXwB.out.drew hb)
       have GYv3 := Lib.hid (blk_call GYwB.out.drew hb)
       have HBv3 := Lib.hid (bw_call (bw_drew HBwB.out) hb)
       clear hb
       refine hK.out _ _ ?_ (fun hHeld => ?_)
       · exact ⟨(tri_cell GXv3.out hk3), (GYv3.out.cell 0), (GYv3.out.cell 1), (GYv3.out.cell 2)⟩
       clear hK K
       (try simp only [zQ])
       refine wpAnyH_done (by kernel_rfl) ?_ _
       go_wp2_with fail
       exact ⟨⟨k + 1, by omega, by rw [HC.out]; go_num, by go_num, GXv3, GYv3, HBv3⟩, by simp [intOf]; omega⟩
     exact AllReadyH.nil
    | false =>
     rw [hh] at HH HCS
     have HC : Hid (cntB a b (k + 1) = cntB a b k) := Lib.hid HCS.out
     clear HCS hh
     generalize cntB a b k = q at *
     refine wp_region_held_drew (S := fun w' => w'.cell? ⟨gx, k, none⟩ = some (.int .i64 (cornerT a k)) ∧ w'.cell? ⟨gy, 0, none⟩ = some (.int .i64 b.a) ∧ w'.cell? ⟨gy, 1, none⟩ = some (.int .i64 b.b) ∧ w'.cell? ⟨gy, 2, none⟩ = some (.int .i64 b.c)) (by kernel_rfl) ⟨(tri_cell GXwB.out.drew hk3), (GYwB.out.drew.cell 0), (GYwB.out.drew.cell 1), (GYwB.out.drew.cell 2)⟩ (fun hHeld => ?_)
     refine hKk 0 ?_; (try simp only [zQ])
     refine hKk 1 ?_; (try simp only [zQ])
     refine hKk 2 ?_; (try simp only [zQ])
     refine hKk 3 ?_; (try simp only [zQ])
     refine wpAnyH_ready (rs := [4]) (by kernel_rfl) (by simp) ?_
     refine held_cons rfl (fun K hK => ?_) ?_
     · go_simp
       go_wp2_with (go_at_call 38; refine (HH.out wB.drew).mono ?_; rintro e v3 ⟨rfl, hb⟩)
       have GXv3 := Lib.hid (blk_call GXwB.out.drew hb)
       have GYv3 := Lib.hid (blk_call GYwB.out.drew hb)
       have HBv3 := Lib.hid (bw_call (bw_drew HBwB.out) hb)
       clear hb
       refine hK.out _ _ ?_ (fun hHeld => ?_)
       · exact ⟨(tri_cell GXv3.out hk3), (GYv3.out.cell 0), (GYv3.out.cell 1), (GYv3.out.cell 2)⟩
       clear hK K
       (try simp only [zQ])
       refine wpAnyH_done (by kernel_rfl) ?_ _
       go_wp2_with fail
       exact ⟨⟨k + 1, by omega, by rw [HC.out], by go_num, GXv3, GYv3, HBv3⟩, by simp [intOf]; omega⟩
     exact AllReadyH.nil
  · obtain rfl : k = 3 := by omega
    have HE : Hid (besB a b = decide (2 ≤ cntB a b 3)) := Lib.hid rfl
    rw [HRR.out] at HE
    generalize cntB a b 3 = q at *
    by_cases h2 : 2 ≤ q
    · have h2i : (2 : Int) ≤ (q : Int) := by omega
      have HR : Hid (r = true) := Lib.hid (HE.out.trans (decide_eq_true h2))
      go_wp2_with fail
      go_ret
      exact ⟨by rw [HR.out]; rfl, HBwB.out⟩
    · have h2i : ¬ (2 : Int) ≤ (q : Int) := by omega
      have HR : Hid (r = false) := Lib.hid (HE.out.trans (decide_eq_false h2))
      go_wp2_with fail
      go_ret
      exact ⟨by rw [HR.out]; rfl, HBwB.out⟩
end Go.Proofs.YtiajlmajenabiaaGreat
namespace Go.Proofs.YtiajlmajenabiaaGreat
open Go.RowKit
theorem cnt3 (a b : Tri) : cntB a b 3 = (if hasB b a.a then 1 else 0) + (if hasB b a.b then 1 else 0) + (if hasB b a.c then 1 else 0) := by
 simp [cntB, cornerT]
theorem two3 : ∀ p q r : Bool, 2 ≤ (if p = true then 1 else 0) + (if q = true then 1 else 0) + (if r = true then 1 else 0) ↔ ((p = true ∧ q = true) ∨ (p = true ∧ r = true) ∨ (q = true ∧ r = true)) := by decide
theorem bes_iff {m : Nat} {a b : Tri} {v : Int} (ha : TriOk m a) (hva : v ∈ verts a) (hvb : v ∈ verts b) : besB a b = true ↔ ∃ w, w ≠ v ∧ w ∈ verts a ∧ w ∈ verts b := by
 unfold besB
 rw [decide_eq_true_eq, cnt3, two3, hasB_iff, hasB_iff, hasB_iff]
 have h1 := ha.ab
 have h2 := ha.bc
 have h3 := ha.ca
 have k1 : a.a ∈ verts a := by simp [verts]
 have k2 : a.b ∈ verts a := by simp [verts]
 have k3 : a.c ∈ verts a := by simp [verts]
 constructor
 · rintro (⟨p, q⟩ | ⟨p, q⟩ | ⟨p, q⟩)
   · by_cases e : a.a = v
     · exact ⟨a.b, fun e' => h1 (e.trans e'.symm), k2, q⟩
     · exact ⟨a.a, e, k1, p⟩
   · by_cases e : a.a = v
     · exact ⟨a.c, fun e' => h3 (e'.trans e.symm), k3, q⟩
     · exact ⟨a.a, e, k1, p⟩
   · by_cases e : a.b = v
     · exact ⟨a.c, fun e' => h2 (e.trans e'.symm), k3, q⟩
     · exact ⟨a.b, e, k2, p⟩
 · rintro ⟨w, hw, hwa, hwb⟩
   rcases verts_mem.1 hva with rfl | rfl | rfl <;> rcases verts_mem.1 hwa with rfl | rfl | rfl
   · exact absurd rfl hw
   · exact .inl ⟨hvb, hwb⟩
   · exact .inr (.inl ⟨hvb, hwb⟩)
   · exact .inl ⟨hwb, hvb⟩
   · exact absurd rfl hw
   · exact .inr (.inr ⟨hvb, hwb⟩)
   · exact .inr (.inl ⟨hwb, hvb⟩)
   · exact .inr (.inr ⟨hwb, hvb⟩)
   · exact absurd rfl hw
section
variable {T : List Tri} {S : List Nat} {v : Int} {m : Nat}
def trig (T : List Tri) (p : Nat → Bool) (a b : Nat) : Bool := p a && (!p b && besB (tri T a) (tri T b))
def Clo (T : List Tri) (S : List Nat) (p : Nat → Bool) : Prop := ∀ a ∈ S, ∀ b ∈ S, trig T p a b = false
structure FanSt (T : List Tri) (S : List Nat) (v : Int) (p : Nat → Bool) (many : Nat) : Prop where
 hd : p (S.headD 0) = true
 mem : ∀ j, p j = true → j ∈ S ∧ Reach (fun a b => a ∈ S ∧ b ∈ S ∧ Nbr T v a b) (S.headD 0) j
 cnt : many = (S.filter p).length
theorem FanSt.start (hS : S ≠ []) (hn : S.Nodup) : FanSt T S v (fun u => false || u == S.headD 0) 1 := by
 have hh : S.headD 0 ∈ S := by
  cases S with
  | nil => exact absurd rfl hS
  | cons a l => simp
 refine ⟨by simp, fun j hj => ?_, ?_⟩
 · simp only [Bool.false_or, beq_iff_eq] at hj
   subst hj
   exact ⟨hh, Reach.refl _ _⟩
 · cases S with
   | nil => exact absurd rfl hS
   | cons a l =>
    have h1 := (List.nodup_cons.1 hn).1
    have h2 : l.filter (fun u => false || u == a) = [] := List.filter_eq_nil_iff.2 fun x hx => by
     simp
     rintro rfl
     exact h1 hx
    simp only [List.headD_cons]
    rw [List.filter_cons_of_pos (by simp), h2]
    rfl
theorem filter_add {p : Nat → Bool} {b : Nat} (hn : S.Nodup) (hb : b ∈ S) (hp : p b = false) : (S.filter fun u => p u || u == b).length = (S.filter p).length + 1 := by
 induction S with
 | nil => cases hb
 | cons a l ih =>
  obtain ⟨h1, h2⟩ := List.nodup_cons.1 hn
  by_cases e : a = b
  · subst e
    rw [List.filter_cons_of_pos (by simp), List.filter_cons_of_neg (by simp [hp]), List.length_cons]
    congr 2
    refine List.filter_congr fun x hx => ?_
    have : x ≠ a := fun e => h1 (e ▸ hx)
    simp [this]
  · have hb' : b ∈ l := by
     rcases List.mem_cons.1 hb with h | h
     · exact absurd h.symm e
     · exact h
    have := ih h2 hb'
    by_cases hpa : p a = true
    · rw [List.filter_cons_of_pos (by simp [hpa]), List.filter_cons_of_pos hpa, List.length_cons, List.length_cons, this]
    · rw [List.filter_cons_of_neg (by simp [hpa, e]), List.filter_cons_of_neg hpa, this]
theorem FanSt.step {p : Nat → Bool} {many a b : Nat} (h : FanSt T S v p many) (hn : S.Nodup) (hok : ∀ t ∈ T, TriOk m t) (hS : ∀ j ∈ S, j < T.length ∧ v ∈ verts (tri T j)) (ha : a ∈ S) (hb : b ∈ S) (ht : trig T p a b = true) :
  FanSt T S v (fun u => p u || u == b) (many + 1) := by
 unfold trig at ht
 simp only [Bool.and_eq_true, Bool.not_eq_true'] at ht
 obtain ⟨hpa, hpb, hbs⟩ := ht
 have hN : Nbr T v a b := (bes_iff (hok _ (tri_mem (hS a ha).1)) (hS a ha).2 (hS b hb).2).1 hbs
 refine ⟨by show (p (S.headD 0) || _) = true; rw [h.hd]; rfl, fun j hj => ?_, by rw [filter_add hn hb hpb, h.cnt]⟩
 simp only [Bool.or_eq_true, beq_iff_eq] at hj
 rcases hj with hj | rfl
 · exact h.mem j hj
 · exact ⟨hb, (h.mem a hpa).2.step ⟨ha, hb, hN⟩⟩
theorem FanSt.le {p : Nat → Bool} {many : Nat} (h : FanSt T S v p many) : many ≤ S.length := by
 rw [h.cnt]
 exact List.length_filter_le _ _
def Rnd (T : List Tri) (S : List Nat) (p0 : Nat → Bool) (many0 i k : Nat) (p : Nat → Bool) (many : Nat) : Prop :=
 (¬ Clo T S p0 ∧ many0 < many) ∨ (p = p0 ∧ many = many0 ∧ ∀ i' k' a b, (i' < i ∨ (i' = i ∧ k' < k)) → S[i']? = some a → S[k']? = some b → trig T p0 a b = false)
theorem Rnd.start (p0 : Nat → Bool) (many0 : Nat) : Rnd T S p0 many0 0 0 p0 many0 := .inr ⟨rfl, rfl, fun i' k' a b h => by omega⟩
theorem Rnd.next {p0 p : Nat → Bool} {many0 many i : Nat} (h : Rnd T S p0 many0 i S.length p many) : Rnd T S p0 many0 (i + 1) 0 p many := by
 rcases h with h | ⟨h1, h2, h3⟩
 · exact .inl h
 · refine .inr ⟨h1, h2, fun i' k' a b hik ha hb => ?_⟩
   have hk : k' < S.length := (List.getElem?_eq_some_iff.1 hb).1
   exact h3 i' k' a b (by omega) ha hb
theorem Rnd.no {p0 p : Nat → Bool} {many0 many i k a b : Nat} (h : Rnd T S p0 many0 i k p many) (ha : S[i]? = some a) (hb : S[k]? = some b) (ht : trig T p a b = false) : Rnd T S p0 many0 i (k + 1) p many := by
 rcases h with h | ⟨rfl, h2, h3⟩
 · exact .inl h
 · refine .inr ⟨rfl, h2, fun i' k' a' b' hik ha' hb' => ?_⟩
   by_cases e : i' = i ∧ k' = k
   · obtain ⟨rfl, rfl⟩ := e
     rw [ha] at ha'
     rw [hb] at hb'
     injection ha' with ha'
     injection hb' with hb'
     subst ha' hb'
     exact ht
   · exact h3 i' k' a' b' (by omega) ha' hb'
theorem Rnd.yes {p0 p : Nat → Bool} {many0 many i k a b : Nat} (h : Rnd T S p0 many0 i k p many) (ha : a ∈ S) (hb : b ∈ S) (ht : trig T p a b = true) (q : Nat → Bool) : Rnd T S p0 many0 i (k + 1) q (many + 1) := by
 rcases h with ⟨h1, h2⟩ | ⟨rfl, h2, h3⟩
 · exact .inl ⟨h1, by omega⟩
 · refine .inl ⟨fun hc => ?_, by omega⟩
   rw [hc a ha b hb] at ht
   cases ht
theorem Rnd.done {p0 p : Nat → Bool} {many0 many r : Nat} (h : Rnd T S p0 many0 S.length 0 p many) (h0 : Clo T S p0 ∨ r + 1 ≤ many0) : Clo T S p ∨ r + 1 + 1 ≤ many := by
 rcases h with ⟨h1, h2⟩ | ⟨rfl, rfl, h3⟩
 · rcases h0 with h0 | h0
   · exact absurd h0 h1
   · exact .inr (by omega)
 · refine .inl fun a ha b hb => ?_
   obtain ⟨i, hi⟩ := List.mem_iff_getElem?.1 ha
   obtain ⟨k, hk⟩ := List.mem_iff_getElem?.1 hb
   exact h3 i k a b (.inl (List.getElem?_eq_some_iff.1 hi).1) hi hk
theorem FanSt.all {p : Nat → Bool} {many : Nat} (h : FanSt T S v p many) (hc : Clo T S p ∨ S.length + 1 ≤ many) (hok : ∀ t ∈ T, TriOk m t) (hS : ∀ j ∈ S, j < T.length ∧ v ∈ verts (tri T j)) :
  S.length = many ↔ ∀ k ∈ S, Reach (fun a b => a ∈ S ∧ b ∈ S ∧ Nbr T v a b) (S.headD 0) k := by
 have hcl : Clo T S p := by
  rcases hc with hc | hc
  · exact hc
  · have := h.le
    omega
 rw [h.cnt]
 constructor
 · intro e k hk
   have h1 : S.filter p = S := List.Sublist.eq_of_length (List.filter_sublist ..) e.symm
   have h2 : k ∈ S.filter p := by rw [h1]; exact hk
   exact (h.mem k (List.mem_filter.1 h2).2).2
 · intro hr
   have h1 : S.filter p = S := List.filter_eq_self.2 fun k hk => by
    refine hr k hk (fun j => p j = true) h.hd fun x y hx ⟨hxS, hyS, hN⟩ => ?_
    have := hcl x hxS y hyS
    unfold trig at this
    rw [hx, (bes_iff (hok _ (tri_mem (hS x hxS).1)) (hS x hxS).2 (hS y hyS).2).2 hN] at this
    simpa using this
   rw [h1]
end
end Go.Proofs.YtiajlmajenabiaaGreat
namespace Go.Proofs.YtiajlmajenabiaaGreat
open Go.RowKit
theorem chk_iff {N : Int} {T : List Tri} : checkR N T = (0, 0, 0) ↔ ∃ m : Nat, N = (m : Int) ∧ SurfE m T := by
 constructor
 · intro h
   exact is_surf.1 (checkR_zero (by rw [h])).1
 · intro h
   unfold checkR
   rw [is_surf.2 h]
   rfl
def GoodC (N : Int) (t : Tri) (k : Nat) : Prop := (0 ≤ cornerT t k ∧ cornerT t k < N) ∧ cornerT t k ≠ cornerT t ((k + 1) % 3)
theorem good_ok {m : Nat} {t : Tri} (h : ∀ k, k < 3 → GoodC (m : Int) t k) : TriOk m t := by
 have h0 := h 0 (by omega)
 have h1 := h 1 (by omega)
 have h2 := h 2 (by omega)
 exact ⟨h0.1.1, h0.1.2, h1.1.1, h1.1.2, h2.1.1, h2.1.2, h0.2, h1.2, h2.2⟩
theorem ok_good {m : Nat} {t : Tri} (h : TriOk m t) {k : Nat} (hk : k < 3) : GoodC (m : Int) t k := by
 rcases (by omega : k = 0 ∨ k = 1 ∨ k = 2) with rfl | rfl | rfl
 · exact ⟨⟨h.a0, h.a1⟩, h.ab⟩
 · exact ⟨⟨h.b0, h.b1⟩, h.bc⟩
 · exact ⟨⟨h.c0, h.c1⟩, h.ca⟩
def EdgeEq (t u : Tri) (x y : Nat) : Prop := cornerT t x = cornerT u y ∧ cornerT t ((x + 1) % 3) = cornerT u ((y + 1) % 3)
theorem twice_edges15 {t u : Tri} : twiceB t u = true ↔ ∃ x y, x < 3 ∧ y < 3 ∧ EdgeEq t u x y := by
 unfold twiceB edgeB
 simp only [Bool.or_eq_true, Bool.and_eq_true, beq_iff_eq]
 constructor
 · rintro ((((⟨p, q⟩ | ⟨p, q⟩) | ⟨p, q⟩) | ((⟨p, q⟩ | ⟨p, q⟩) | ⟨p, q⟩)) | ((⟨p, q⟩ | ⟨p, q⟩) | ⟨p, q⟩))
   · exact ⟨0, 0, by omega, by omega, p.symm, q.symm⟩
   · exact ⟨0, 1, by omega, by omega, p.symm, q.symm⟩
   · exact ⟨0, 2, by omega, by omega, p.symm, q.symm⟩
   · exact ⟨1, 0, by omega, by omega, p.symm, q.symm⟩
   · exact ⟨1, 1, by omega, by omega, p.symm, q.symm⟩
   · exact ⟨1, 2, by omega, by omega, p.symm, q.symm⟩
   · exact ⟨2, 0, by omega, by omega, p.symm, q.symm⟩
   · exact ⟨2, 1, by omega, by omega, p.symm, q.symm⟩
   · exact ⟨2, 2, by omega, by omega, p.symm, q.symm⟩
 · rintro ⟨x, y, hx, hy, p, q⟩
   rcases (by omega : x = 0 ∨ x = 1 ∨ x = 2) with rfl | rfl | rfl <;> rcases (by omega : y = 0 ∨ y = 1 ∨ y = 2) with rfl | rfl | rfl
   · exact .inl (.inl (.inl (.inl ⟨p.symm, q.symm⟩)))
   · exact .inl (.inl (.inl (.inr ⟨p.symm, q.symm⟩)))
   · exact .inl (.inl (.inr ⟨p.symm, q.symm⟩))
   · exact .inl (.inr (.inl (.inl ⟨p.symm, q.symm⟩)))
   · exact .inl (.inr (.inl (.inr ⟨p.symm, q.symm⟩)))
   · exact .inl (.inr (.inr ⟨p.symm, q.symm⟩))
   · exact .inr (.inl (.inl ⟨p.symm, q.symm⟩))
   · exact .inr (.inl (.inr ⟨p.symm, q.symm⟩))
   · exact .inr (.inr ⟨p.symm, q.symm⟩)
theorem twice_symm15 (t u : Tri) : twiceB t u = twiceB u t := by
 rw [Bool.eq_iff_iff, twice_edges15, twice_edges15]
 constructor
 · rintro ⟨x, y, hx, hy, p, q⟩
   exact ⟨y, x, hy, hx, p.symm, q.symm⟩
 · rintro ⟨x, y, hx, hy, p, q⟩
   exact ⟨y, x, hy, hx, p.symm, q.symm⟩
theorem mirr_cnt {t u : Tri} : cntB t u 3 = 3 ↔ mirrB t u = true := by
 rw [cnt3]
 unfold mirrB
 cases hasB u t.a <;> cases hasB u t.b <;> cases hasB u t.c <;> simp
theorem mirr_symm15 {m : Nat} {t u : Tri} (ht : TriOk m t) (hu : TriOk m u) : mirrB t u = mirrB u t := by
 rw [Bool.eq_iff_iff, mirrB_iff ht hu, mirrB_iff hu ht]
 exact ⟨fun ⟨x, h, h'⟩ => ⟨x, h', h⟩, fun ⟨x, h, h'⟩ => ⟨x, h', h⟩⟩
def PairOk (T : List Tri) (i : Nat) : Prop := ∀ a b, b < a → a < i → twiceB (tri T a) (tri T b) = false ∧ mirrB (tri T a) (tri T b) = false
def VertOk (T : List Tri) (v : Nat) : Prop := atL T T.length (v : Int) ≠ [] ∧ ∀ k ∈ atL T T.length (v : Int), Reach (fun a b => a ∈ atL T T.length (v : Int) ∧ b ∈ atL T T.length (v : Int) ∧ Nbr T (v : Int) a b) ((atL T T.length (v : Int)).headD 0) k
theorem vert_ok {m : Nat} {T : List Tri} (hok : ∀ t ∈ T, TriOk m t) (v : Nat) : VertOk T v ↔ (∃ t ∈ T, (v : Int) ∈ verts t) ∧ ConnE T (v : Int) := by
 have hS : ∀ i, i ∈ atL T T.length (v : Int) ↔ i < T.length ∧ (v : Int) ∈ verts (tri T i) := fun i => by
  unfold atL
  rw [List.mem_filter, List.mem_range, decide_eq_true_eq]
 have hu : atL T T.length (v : Int) ≠ [] ↔ ∃ t ∈ T, (v : Int) ∈ verts t := by
  constructor
  · intro h
    obtain ⟨i, hi⟩ := List.exists_mem_of_ne_nil _ h
    exact ⟨_, tri_mem ((hS i).1 hi).1, ((hS i).1 hi).2⟩
  · rintro ⟨t, ht, hv⟩ h
    obtain ⟨i, hi, rfl⟩ := tri_idx ht
    have := (hS i).2 ⟨hi, hv⟩
    rw [h] at this
    cases this
 have hc : atL T T.length (v : Int) ≠ [] → ((∀ k ∈ atL T T.length (v : Int), Reach (fun a b => a ∈ atL T T.length (v : Int) ∧ b ∈ atL T T.length (v : Int) ∧ Nbr T (v : Int) a b) ((atL T T.length (v : Int)).headD 0) k) ↔ ConnE T (v : Int)) := fun h0 => by
  rw [← pinched_conn hok v]
  unfold pinchedB
  have e0 : (!(atL T T.length (v : Int)).isEmpty) = true := by
   cases h : atL T T.length (v : Int) with
   | nil => exact absurd h h0
   | cons a l => rfl
  rw [e0, Bool.true_and, pinchB_conn (atL_nodup _ _ _) h0, Bool.not_eq_false', connB_iff]
  exact Iff.rfl
 constructor
 · rintro ⟨h1, h2⟩
   exact ⟨hu.1 h1, (hc h1).1 h2⟩
 · rintro ⟨h1, h2⟩
   have h3 := hu.2 h1
   exact ⟨h3, (hc h3).2 h2⟩
theorem pair_all {m : Nat} {T : List Tri} (hok : ∀ t ∈ T, TriOk m t) : PairOk T T.length ↔ T.Pairwise (fun t u => twiceB t u = false) ∧ T.Pairwise (fun t u => mirrB t u = false) := by
 rw [List.pairwise_iff_getElem, List.pairwise_iff_getElem]
 have ht : ∀ i (h : i < T.length), tri T i = T[i] := fun i h => tri_of (List.getElem?_eq_getElem h)
 constructor
 · intro h
   refine ⟨fun i j hi hj hij => ?_, fun i j hi hj hij => ?_⟩
   · have := (h j i hij hj).1
     rw [ht i hi, ht j hj, twice_symm15] at this
     exact this
   · have := (h j i hij hj).2
     rw [ht i hi, ht j hj, mirr_symm15 (hok _ (List.getElem_mem hj)) (hok _ (List.getElem_mem hi))] at this
     exact this
 · rintro ⟨h1, h2⟩ a b hba ha
   have hb : b < T.length := by omega
   rw [ht a ha, ht b hb]
   refine ⟨?_, ?_⟩
   · rw [twice_symm15]
     exact h1 b a hb ha hba
   · rw [mirr_symm15 (hok _ (List.getElem_mem ha)) (hok _ (List.getElem_mem hb))]
     exact h2 b a hb ha hba
theorem surf_tests {m : Nat} {T : List Tri} (hm : m ≤ 4096) (hT : T.length ≤ 8192) : SurfE m T ↔ (∀ t ∈ T, TriOk m t) ∧ PairOk T T.length ∧ ∀ v, v < m → VertOk T v := by
 constructor
 · intro h
   exact ⟨h.ok, (pair_all h.ok).2 ⟨h.tw, h.mi⟩, fun v hv => (vert_ok h.ok v).2 ⟨h.used v hv, h.con v hv⟩⟩
 · rintro ⟨h1, h2, h3⟩
   obtain ⟨h4, h5⟩ := (pair_all h1).1 h2
   exact ⟨hm, hT, h1, h4, h5, fun v hv => ((vert_ok h1 v).1 (h3 v hv)).1, fun v hv => ((vert_ok h1 v).1 (h3 v hv)).2⟩
end Go.Proofs.YtiajlmajenabiaaGreat
