/- symmetry.All's closure, walked. No condition but sizes. -/
import Derived.Test.YtiajlmajenabiaaGreatAllP
set_option maxRecDepth 100000
set_option maxHeartbeats 16000000
set_option linter.all false
namespace Go.Proofs.YtiajlmajenabiaaGreat
open Go.RowKit
structure GoC (w0 : World) (bl bo bt bu bg gt gu m : Nat) (A : Option Addr) (c : Nat) (ks : List KindV) : Prop where
 l : Blk w0 bl 73 #[.slice A ks.length c]
 o : ∃ v, Blk w0 bo 33 #[v]
 t : Blk w0 bt 25 #[.slice (some ⟨gt, 0, none⟩) m m]
 u : Blk w0 bu 72 #[.slice (some ⟨gu, 0, none⟩) ks.length ks.length]
 g : Blk w0 bg 88 #[.func (.func 52) #[] #[.pointer (some ⟨bl, 0, none⟩), .pointer (some ⟨bo, 0, none⟩), .pointer (some ⟨bt, 0, none⟩), .pointer (some ⟨bu, 0, none⟩), .pointer (some ⟨bg, 0, none⟩)]]
 ft : ∃ cs, Blk w0 gt 3 cs
 fu : ∃ cs, Blk w0 gu 4 cs
 ks : ∃ (w00 : World) (B : Nat), KindsAt w00 B A c ks ∧ Below w00.heap.size w00 w0 ∧ w00.heap.size ≤ bo ∧ w00.heap.size ≤ gt ∧ w00.heap.size ≤ gu
 m : m ≤ 4096
def GF (bo gt gu k : Nat) : Prop := k = bo ∨ k = gt ∨ k = gu
structure GAt (w0 : World) (bo gt gu m K : Nat) (used : Nat → Bool) (s : GSt) (W : World) : Prop where
 o : Only (GF bo gt gu) w0 W
 out : ∃ (Ao : Option Addr) (co : Nat), Blk W bo 33 #[.slice Ao s.1.length co] ∧ WaysAt W w0.heap.size Ao co s.1
 t : Blk W gt 3 (intsA s.2)
 tl : s.2.length = m
 u : Blk W gu 4 (boolA K used)
section
variable {w0 W W' : World} {bl bo bt bu bg gt gu m c : Nat} {A : Option Addr} {ks : List KindV} {used : Nat → Bool} {s : GSt}
theorem GoC.nel (h : GoC w0 bl bo bt bu bg gt gu m A c ks) : (¬ GF bo gt gu bl) ∧ (¬ GF bo gt gu bt) ∧ (¬ GF bo gt gu bu) ∧ ¬ GF bo gt gu bg := by
 obtain ⟨vo, ho⟩ := h.o
 obtain ⟨ct, ht⟩ := h.ft
 obtain ⟨cu, hu⟩ := h.fu
 refine ⟨?_, ?_, ?_, ?_⟩ <;> rintro (e | e | e)
 · exact h.l.ne_ ho (by decide) e
 · exact h.l.ne_ ht (by decide) e
 · exact h.l.ne_ hu (by decide) e
 · exact h.t.ne_ ho (by decide) e
 · exact h.t.ne_ ht (by decide) e
 · exact h.t.ne_ hu (by decide) e
 · exact h.u.ne_ ho (by decide) e
 · exact h.u.ne_ ht (by decide) e
 · exact h.u.ne_ hu (by decide) e
 · exact h.g.ne_ ho (by decide) e
 · exact h.g.ne_ ht (by decide) e
 · exact h.g.ne_ hu (by decide) e
theorem GAt.hl (h : GAt w0 bo gt gu m ks.length used s W) (hc : GoC w0 bl bo bt bu bg gt gu m A c ks) : Blk W bl 73 #[.slice A ks.length c] := hc.l.only h.o hc.nel.1
theorem GAt.ht (h : GAt w0 bo gt gu m ks.length used s W) (hc : GoC w0 bl bo bt bu bg gt gu m A c ks) : Blk W bt 25 #[.slice (some ⟨gt, 0, none⟩) m m] := hc.t.only h.o hc.nel.2.1
theorem GAt.hu (h : GAt w0 bo gt gu m ks.length used s W) (hc : GoC w0 bl bo bt bu bg gt gu m A c ks) : Blk W bu 72 #[.slice (some ⟨gu, 0, none⟩) ks.length ks.length] := hc.u.only h.o hc.nel.2.2.1
theorem GAt.hg (h : GAt w0 bo gt gu m ks.length used s W) (hc : GoC w0 bl bo bt bu bg gt gu m A c ks) : Blk W bg 88 #[.func (.func 52) #[] #[.pointer (some ⟨bl, 0, none⟩), .pointer (some ⟨bo, 0, none⟩), .pointer (some ⟨bt, 0, none⟩), .pointer (some ⟨bu, 0, none⟩), .pointer (some ⟨bg, 0, none⟩)]] := hc.g.only h.o hc.nel.2.2.2
theorem GAt.hks (h : GAt w0 bo gt gu m ks.length used s W) (hc : GoC w0 bl bo bt bu bg gt gu m A c ks) : ∃ (w00 : World) (B : Nat), KindsAt W B A c ks ∧ w00.heap.size ≤ W.heap.size := by
 obtain ⟨w00, B, h1, h2, h3, h4, h5⟩ := hc.ks
 have hb : Below w00.heap.size w00 W := h2.trans (h.o.below h2.size fun k hk hf => by rcases hf with e | e | e <;> omega)
 exact ⟨w00, B, h1.below hb, hb.size⟩
theorem GAt.below (h : GAt w0 bo gt gu m ks.length used s W) (hb : Below W.heap.size W W') : GAt w0 bo gt gu m ks.length used s W' := by
 obtain ⟨Ao, co, h1, h2⟩ := h.out
 exact ⟨h.o.trans (Only.of_below hb _), ⟨Ao, co, h1.below hb h1.lt, h2.below hb⟩, h.t.below hb h.t.lt, h.tl, h.u.below hb h.u.lt⟩
theorem GAt.alloc (h : GAt w0 bo gt gu m ks.length used s W) (o : Obj) : GAt w0 bo gt gu m ks.length used s (W.alloc o) := h.below (bw_alloc (Below.refl _ _) o)
theorem GAt.drew (h : GAt w0 bo gt gu m ks.length used s W) : GAt w0 bo gt gu m ks.length used s W.drew := h.below (bw_drew (Below.refl _ _))
theorem only_gf (h : Only (GF bo gt gu) w0 W) {g : Nat} (hg : GF bo gt gu g) (o : Nat) (u : Value) : Only (GF bo gt gu) w0 (W.setCell ⟨g, o, none⟩ u) := h.setCell (p := ⟨g, o, none⟩) (Or.inl hg) u
theorem GAt.mark (h : GAt w0 bo gt gu m ks.length used s W) (j : Nat) (b : Bool) : GAt w0 bo gt gu m ks.length (updF used j b) s (W.setCell ⟨gu, j, none⟩ (.bool b)) := by
 obtain ⟨Ao, co, h1, h2⟩ := h.out
 refine ⟨only_gf h.o (.inr (.inr rfl)) j _, ⟨Ao, co, h1.far (p := ⟨gu, j, none⟩) (h1.ne_ h.u (by decide)) _, h2.off h.u (by decide) (by decide) j _⟩, h.t.far (p := ⟨gu, j, none⟩) (h.t.ne_ h.u (by decide)) _, h.tl, ?_⟩
 have := h.u.set_ j (.bool b)
 rw [boolA_set] at this
 exact this
theorem GAt.write (h : GAt w0 bo gt gu m ks.length used s W) (hgt : gt < w0.heap.size) (j : Nat) (v : Int) : GAt w0 bo gt gu m ks.length used (s.1, s.2.set j v) (W.setCell ⟨gt, j, none⟩ (.int .i64 v)) := by
 obtain ⟨Ao, co, h1, h2⟩ := h.out
 refine ⟨only_gf h.o (.inr (.inl rfl)) j _, ⟨Ao, co, h1.far (p := ⟨gt, j, none⟩) (h1.ne_ h.t (by decide)) _, h2.same fun el sz n z xs _ ho => own_same ho fun q hq => Below.heap_setCell _ ⟨gt, j, none⟩ _ q fun e => by have := (World.ownsRow.lt ho q hq).1; have e : q = gt := e; omega⟩, ?_, by simpa using h.tl, h.u.far (p := ⟨gt, j, none⟩) (h.u.ne_ h.t (by decide)) _⟩
 have := h.t.set_ j (.int .i64 v)
 rw [intsA_set] at this
 exact this
end
theorem int_leaf {w0 W : World} {bl bo bt bu bg gt gu m c : Nat} {A : Option Addr} {ks : List KindV} {used : Nat → Bool} {s : GSt} (hc : GoC w0 bl bo bt bu bg gt gu m A c ks) (h : GAt w0 bo gt gu m ks.length used s W) : ∀ W', Below W.heap.size W W' →
  Calls Tryz.prog 53 #[.slice (some ⟨gt, 0, none⟩) m m] W' fun e w' => ∃ (A3 : Option Addr) (c3 : Nat), e = .returned (.slice A3 m c3) ∧ IR w' W'.heap.size A3 c3 s.2 ∧ Below W'.heap.size W' w' := fun W' hW => by
 have h1 := h.below hW
 have h2 := ints_own h1.t (Nat.zero_le _) (by have := h.tl; have := hc.m; unfold maxLen; omega)
 unfold IR at h2
 rw [h.tl] at h2
 refine (clone_own W' 0 gt m m m s.2 h2 (by have := hc.m; omega) (Nat.le_refl _)).mono ?_
 rintro e w' ⟨v', rfl, ho, hb⟩
 rw [List.take_of_length_le (by rw [h.tl]; exact Nat.le_refl _)] at ho
 obtain ⟨A3, c3, rfl, _⟩ := own_form ho
 refine ⟨A3, c3, rfl, ?_, hb⟩
 unfold IR
 rw [h.tl]
 exact ho
attribute [local irreducible] Blk World.alloc World.setCell World.cell? World.frozen? MapV MapI
theorem goLeaf_any {w0 : World} {bl bo bt bu bg gt gu m c : Nat} {A : Option Addr} {ks : List KindV} (used : Nat → Bool) (s : GSt) (W : World) (hc : GoC w0 bl bo bt bu bg gt gu m A c ks) (hb : s.1.length ≤ 100000) (hK : ks.length ≤ 1000) (h : GAt w0 bo gt gu m ks.length used s W) :
  Calls Tryz.prog 52 #[.int .i64 (ks.length : Int), .pointer (some ⟨bl, 0, none⟩), .pointer (some ⟨bo, 0, none⟩), .pointer (some ⟨bt, 0, none⟩), .pointer (some ⟨bu, 0, none⟩), .pointer (some ⟨bg, 0, none⟩)] W (fun e W' => e = .returned (.tuple #[]) ∧ GAt w0 bo gt gu m ks.length used (s.1 ++ [s.2], s.2) W') := by
 obtain ⟨i3, hi3, jz0, jz1, jz2⟩ := info_parts ints_info47
 have HC := Lib.hid hc
 have GAW := Lib.hid h
 obtain ⟨Ao, co, hko, hws⟩ := h.out
 have HCL := Lib.hid (int_leaf hc h)
 have KLW := h.hl hc
 have KTW := h.ht hc
 obtain ⟨no, hno⟩ : ∃ n, n = s.1.length := ⟨_, rfl⟩
 rw [← hno] at hko hb
 have HNO := Lib.hid hno
 have COW : Hid (CellQ W ⟨bo, 0, none⟩ (.slice Ao no co)) := Lib.hid ⟨hko.cell 0, hko.lt⟩
 have CTW : Hid (CellQ W ⟨bt, 0, none⟩ (.slice (some ⟨gt, 0, none⟩) m m)) := Lib.hid ⟨KTW.cell 0, KTW.lt⟩
 have WSW := Lib.hid hws
 have HBW : Hid (Below W.heap.size W W) := Lib.hid (Below.refl _ _)
 have HW0 : Hid (w0.heap.size ≤ W.heap.size) := Lib.hid h.o.size
 obtain ⟨K, hKe⟩ : ∃ K, K = ks.length := ⟨_, rfl⟩
 rw [← hKe] at KLW hK ⊢
 have HKE := Lib.hid hKe
 have l0 : W.cell? ⟨bl, 0, none⟩ = some (.slice A K c) := KLW.cell 0
 have hkk : ((K : Int) == (K : Int)) = true := by simp
 clear h hc hno hko hws KLW KTW hKe
 go_enter Tryz.func52, Tryz.ntmps52
 go_upto_region 1 with (fail)
 refine wp_region_till (S := fun w' => w'.cell? ⟨bo, 0, none⟩ = some (.slice Ao no co) ∧ w'.cell? ⟨bt, 0, none⟩ = some (.slice (some ⟨gt, 0, none⟩) m m)) 5 (by kernel_rfl) ⟨(COW.out.drew.c), (CTW.out.drew.c)⟩ (fun hHeld => ?_)
 refine tKk 0 ?_; (try simp only [zQ])
 refine tKk 1 ?_; (try simp only [zQ])
 refine Till.ready (rs := [2]) (by kernel_rfl) (by simp) ?_
 refine TillEach.cons rfl (fun K hK => ?_) ?_
 · go_simp
   go_wp2_with (go_at_call 53; refine (HCL.out W.drew (bw_drew HBW.out)).mono ?_; rintro e v1 ⟨A3, c3, rfl, hi3', hb⟩)
   have COv1 := Lib.hid (COW.out.drew.below hb)
   have CTv1 := Lib.hid (CTW.out.drew.below hb)
   have GAv1 := Lib.hid (GAW.out.drew.below hb)
   have WSv1 := Lib.hid (WSW.out.drew.below hb)
   have HIv1 : Hid (IR v1 w0.heap.size A3 c3 s.2) := Lib.hid (own_low hi3' (Nat.le_trans HW0.out (bw_drew HBW.out).size))
   have HBv1 := Lib.hid (bw_call (bw_drew HBW.out) hb)
   clear hb
   refine hK.out _ _ ?_ (fun hHeld => ?_)
   · exact ⟨(COv1.out.c), (CTv1.out.c)⟩
   clear hK K
   (try simp only [zQ])
   refine Till.ready (rs := [3]) (by kernel_rfl) (by simp) ?_
   refine TillEach.cons rfl (fun K hK => ?_) ?_
   · go_simp
     go_wp2_with fail
     obtain ⟨v2, hvU⟩ : ∃ U, U = v1.alloc (.cells #[.slice A3 m c3] 25) := ⟨_, rfl⟩
     have COv2 : Hid (CellQ v2 ⟨bo, 0, none⟩ (.slice Ao no co)) := by subst hvU; exact Lib.hid (COv1.out.below (bw_alloc (Below.refl _ _) _))
     have CTv2 : Hid (CellQ v2 ⟨bt, 0, none⟩ (.slice (some ⟨gt, 0, none⟩) m m)) := by subst hvU; exact Lib.hid (CTv1.out.below (bw_alloc (Below.refl _ _) _))
     have GAv2 : Hid (GAt w0 bo gt gu m ks.length used s v2) := by subst hvU; exact Lib.hid (GAv1.out.alloc _)
     have WSv2 : Hid (WaysAt v2 w0.heap.size Ao co s.1) := by subst hvU; exact Lib.hid (WSv1.out.alloc _)
     have HIv2 : Hid (IR v2 w0.heap.size A3 c3 s.2) := by subst hvU; exact Lib.hid (IR.alloc HIv1.out _)
     have KNv2 : Hid (Blk v2 v1.heap.size 25 #[.slice A3 m c3]) := by subst hvU; exact Lib.hid (Blk.new _ _ _)
     have HSv2 : Hid (w0.heap.size ≤ v2.heap.size) := Lib.hid GAv2.out.o.size
     rw [← hvU]
     obtain ⟨bn, hbn⟩ : ∃ b, b = v1.heap.size := ⟨_, rfl⟩
     rw [← hbn] at KNv2
     simp only [← hbn]
     have HBv2 : Hid (Below v2.heap.size v2 v2) := Lib.hid (Below.refl _ _)
     clear hvU hbn COv1 CTv1 GAv1 WSv1 HIv1 HBv1
     obtain ⟨LW, hLW, hLo, hLi⟩ := WSv2.out.ex
     rw [← HNO.out] at hLo
     have HLW := Lib.hid hLW
     have HLo := Lib.hid hLo
     have HLi := Lib.hid hLi
     clear hLW hLo hLi
     refine hK.out _ _ ?_ (fun hHeld => ?_)
     · exact ⟨(COv2.out.c), (CTv2.out.c)⟩
     clear hK K
     (try simp only [zQ])
     refine Till.ready (rs := [4]) (by kernel_rfl) (by simp) ?_
     refine TillEach.cons rfl (fun K hK => ?_) ?_
     · refine step_append_sl _ (by rfl) (.tmp 17) (.tmp 20) _ (by rfl) w0.heap.size 25 i3 _ 1 24 Tryz.underlying33 hi3 jz0 jz1 jz2 rfl (by omega) (.slice Ao no co) no (LW.map wayC) (by rfl) HLo.out v2.heap.size (some ⟨bn, 0, none⟩) 1 1 [.slice A3 m c3] (by rfl) ⟨rfl, fun _ => ⟨_, rfl, KNv2.out.lt, fun j u hj => by rw [show (⟨bn, 0, none⟩ : Addr).add j = ⟨bn, j, none⟩ by unfold Addr.add; split <;> simp_all]; rw [KNv2.out.cell]; simpa using hj⟩⟩ (by simp [Value.oneCell']) (by simp only [maxLen]; omega) (by omega) HSv2.out ?_
       intro A5 c5 v3 hown5 hg5 hat5
       have HO5 := Lib.hid hown5
       have HG5 := Lib.hid hg5
       have hnb : some bo ≠ (Value.slice Ao no co).ownBlock := fun e => by
        obtain ⟨_, _, hk, _⟩ := GAv2.out.out
        exact own_blk_ne HLo.out hk (by decide) e.symm
       have COv3 : Hid (CellQ v3 ⟨bo, 0, none⟩ (.slice Ao no co)) := Lib.hid ⟨(World.cell?_of_block (hg5.block bo COv2.out.lt hnb)).trans COv2.out.c, Nat.lt_of_lt_of_le COv2.out.lt hg5.size⟩
       have hnt : some bt ≠ (Value.slice Ao no co).ownBlock := fun e => by
        have h1 := (World.ownsRow.lt HLo.out bt e.symm).1
        have h2 := HC.out.t.lt
        omega
       have CTv3 : Hid (CellQ v3 ⟨bt, 0, none⟩ (.slice (some ⟨gt, 0, none⟩) m m)) := Lib.hid ⟨(World.cell?_of_block (hg5.block bt CTv2.out.lt hnt)).trans CTv2.out.c, Nat.lt_of_lt_of_le CTv2.out.lt hg5.size⟩
       have hfz : v3.frozen? ⟨bo, 0, none⟩ = false := (World.frozen?_of_block (hg5.block bo COv2.out.lt hnb)).trans (by obtain ⟨_, _, hk, _⟩ := GAv2.out.out; exact hk.frozen 0)
       have HNB := Lib.hid hnb
       have KKv3 : Hid (GAt w0 bo gt gu m ks.length used s v2) := GAv2
       have HBv3 : Hid (Below v3.heap.size v3 v3) := Lib.hid (Below.refl _ _)
       clear hown5 hg5 hat5 hnb hnt
       refine hK.out _ _ ?_ (fun hHeld => ?_)
       · exact ⟨(COv3.out.c), (CTv3.out.c)⟩
       clear hK K
       (try simp only [zQ])
       refine Till.ready (rs := [5]) (by kernel_rfl) (by simp) ?_
       refine TillEach.last rfl (fun K hK => ?_)
       · go_simp
         refine hK.out _ _ ?_
         clear hK K
         (try simp only [zQ])
         refine Till.done (by kernel_rfl) ?_ _
         have cc := COv3.out.c
         go_wp2_with fail
         refine bodyPost_ret (results_none rfl _ _ _) rfl ⟨rfl, ?_⟩
         have hg := HG5.out
         have hG := KKv3.out
         obtain ⟨_, _, hk, _⟩ := hG.out
         have hrow : ∀ x, (Value.slice Ao no co).ownBlock = some x → w0.heap.size ≤ x := fun x hx => (World.ownsRow.lt HLo.out x hx).1
         have hgt : some gt ≠ (Value.slice Ao no co).ownBlock := fun e => own_blk_ne HLo.out hG.t (by decide) e.symm
         have hgu : some gu ≠ (Value.slice Ao no co).ownBlock := fun e => own_blk_ne HLo.out hG.u (by decide) e.symm
         have hk2 := hk.grown hg HNB.out
         have ht2 := hG.t.grown hg hgt
         have hu2 := hG.u.grown hg hgu
         refine ⟨only_gf (hG.o.grown hg fun x hx => .inr (hrow x hx)) (.inl rfl) 0 _, ⟨A5, c5, ?_, ?_⟩, ht2.far (p := ⟨bo, 0, none⟩) (ht2.ne_ hk2 (by decide)) _, hG.tl, by rw [HKE.out]; exact hu2.far (p := ⟨bo, 0, none⟩) (hu2.ne_ hk2 (by decide)) _⟩
         · have := hk2.set_ 0 (.slice A5 (no + 1) c5)
           rw [List.length_append, ← HNO.out]
           simpa using this
         · have ho := HO5.out
           have hlo := HLo.out
           rw [HNO.out] at ho hg hlo
           have hi3 := HIv2.out
           unfold IR at hi3
           refine (WaysAt.push (c := co) ⟨⟨LW, HLW.out, hlo, HLi.out⟩⟩ (Aw := A3) (cw := c3) HIv2.out hg HLW.out HLi.out hlo ?_).off hk2 (by decide) (by decide) 0 _
           have e : wayC ((A3, c3), s.2) = .slice A3 m c3 := by unfold wayC; dsimp only; rw [hG.tl]
           rw [e]
           exact ho
     exact TillEach.nil
   exact TillEach.nil
 exact TillEach.nil
theorem GoC.kind {w0 : World} {bl bo bt bu bg gt gu m c gk : Nat} {ks : List KindV} (hc : GoC w0 bl bo bt bu bg gt gu m (some ⟨gk, 0, none⟩) c ks) {j : Nat} (hj : j < ks.length) :
  ∃ (B : Nat) (At Aw : Option Addr) (ct cw : Nat) (k : KindV), ks[j]? = some k ∧ (∀ (used : Nat → Bool) (s : GSt) (W : World), GAt w0 bo gt gu m ks.length used s W →
   CellQ W ⟨gk, j * 3, none⟩ (.int .i64 k.M) ∧ CellQ W ⟨gk, j * 3 + 1, none⟩ (.slice At k.L.length ct) ∧ CellQ W ⟨gk, j * 3 + 2, none⟩ (.slice Aw k.ws.length cw) ∧ LRow W B At ct k.L) ∧
   ∀ p, p < k.ws.length → ∃ (gw : Nat) (Ap : Option Addr) (cp : Nat), Aw = some ⟨gw, 0, none⟩ ∧ ∀ (used : Nat → Bool) (s : GSt) (W : World), GAt w0 bo gt gu m ks.length used s W → CellQ W ⟨gw, p, none⟩ (.slice Ap (k.ws.getD p []).length cp) ∧ IR W B Ap cp (k.ws.getD p []) := by
 obtain ⟨w00, B, h1, h2, h3, h4, h5⟩ := hc.ks
 obtain ⟨g1, At, Aw, ct, cw, k, hA, hk, y0, y1, y2, hl, hw⟩ := h1.at_ hj
 injection hA with hA
 injection hA with hA
 subst hA
 have hlt : gk < w00.heap.size := World.block_lt_of_cell? w00 _ y0
 have hbel : ∀ (used : Nat → Bool) (s : GSt) (W : World), GAt w0 bo gt gu m ks.length used s W → Below w00.heap.size w00 W := fun used s W h => h2.trans (h.o.below h2.size fun k hk hf => by rcases hf with e | e | e <;> omega)
 refine ⟨B, At, Aw, ct, cw, k, hk, fun used s W h => ?_, fun p hp => ?_⟩
 · have hb := hbel used s W h
   have hlt2 : gk < W.heap.size := Nat.lt_of_lt_of_le hlt hb.size
   exact ⟨⟨(hb.cell (p := ⟨gk, _, none⟩) hlt).trans y0, hlt2⟩, ⟨(hb.cell (p := ⟨gk, _, none⟩) hlt).trans y1, hlt2⟩, ⟨(hb.cell (p := ⟨gk, _, none⟩) hlt).trans y2, hlt2⟩, LRow.below hl hb⟩
 · obtain ⟨gw, Ap, cp, hA, hcell, hir⟩ := hw.at_ hp
   have hlw : gw < w00.heap.size := World.block_lt_of_cell? w00 _ hcell
   refine ⟨gw, Ap, cp, hA, fun used s W h => ?_⟩
   have hb := hbel used s W h
   exact ⟨⟨(hb.cell (p := ⟨gw, _, none⟩) hlw).trans hcell, Nat.lt_of_lt_of_le hlw hb.size⟩, hir.below hb⟩
theorem updF_back (used : Nat → Bool) {j : Nat} (h : used j = false) : updF (updF used j true) j false = used := by
 funext x
 unfold updF
 by_cases hx : x = j
 · rw [if_pos hx, hx, h]
 · rw [if_neg hx, if_neg hx]
def GoPost (w0 : World) (bo gt gu m K : Nat) (used : Nat → Bool) (s : GSt) (e : Ending) (W' : World) : Prop := e = .returned (.tuple #[]) ∧ GAt w0 bo gt gu m K used s W'
theorem goStep_any {w0 : World} {bl bo bt bu bg gt gu m c : Nat} {A : Option Addr} {ks : List KindV} (hc : GoC w0 bl bo bt bu bg gt gu m A c ks) (hok : KOk m ks) (hK : ks.length ≤ 1000) (d i : Nat) (hid : i + (d + 1) = ks.length)
  (IH : ∀ (used : Nat → Bool) (s : GSt) (W : World), (goR ks d (i + 1) used s).1.length ≤ 100000 → GAt w0 bo gt gu m ks.length used s W →
   Calls Tryz.prog 52 #[.int .i64 ((i : Int) + 1), .pointer (some ⟨bl, 0, none⟩), .pointer (some ⟨bo, 0, none⟩), .pointer (some ⟨bt, 0, none⟩), .pointer (some ⟨bu, 0, none⟩), .pointer (some ⟨bg, 0, none⟩)] W (GoPost w0 bo gt gu m ks.length used (goR ks d (i + 1) used s)))
  (used : Nat → Bool) (s : GSt) (W : World) (hb : (goR ks (d + 1) i used s).1.length ≤ 100000) (h : GAt w0 bo gt gu m ks.length used s W) :
  Calls Tryz.prog 52 #[.int .i64 (i : Int), .pointer (some ⟨bl, 0, none⟩), .pointer (some ⟨bo, 0, none⟩), .pointer (some ⟨bt, 0, none⟩), .pointer (some ⟨bu, 0, none⟩), .pointer (some ⟨bg, 0, none⟩)] W (GoPost w0 bo gt gu m ks.length used (goR ks (d + 1) i used s)) := by
 obtain ⟨_, _, hk0, _⟩ := h.hks hc
 obtain ⟨gk, _, _, _, _, ki, hA, hki, _⟩ := hk0.at_ (i := i) (by omega)
 subst hA
 rw [goR_succ] at hb ⊢
 obtain ⟨K, hKe⟩ : ∃ K, K = ks.length := ⟨_, rfl⟩
 have hiK : i < K := by omega
 have HC := Lib.hid hc
 have GTL : Hid (gt < w0.heap.size) := Lib.hid (by obtain ⟨cs, hh⟩ := hc.ft; exact hh.lt)
 have HOK := Lib.hid hok
 have HIH := Lib.hid IH
 have HB := Lib.hid hb
 have HKI := Lib.hid hki
 have HKE := Lib.hid hKe
 have HA0 : Hid (GAt w0 bo gt gu m ks.length used (kindR ks d i used 0 s) W) := Lib.hid (by rw [kindR_zero]; exact h)
 obtain ⟨V, hV⟩ : ∃ V, V = ki.ws.getD 0 [] := ⟨_, rfl⟩
 have HV : Hid ((kAt ks i).ws.getD 0 [] = V) := Lib.hid (by rw [kAt_some hki, hV])
 have HV0 := Lib.hid hV
 obtain ⟨nV, hnV⟩ : ∃ n, n = V.length := ⟨_, rfl⟩
 have HNV := Lib.hid hnV
 have hkim := List.mem_of_getElem? hki
 have HVM : Hid ((V.length : Int) = ki.M ∧ ∀ v ∈ V, 0 ≤ v ∧ v < (m : Int)) := Lib.hid (by
  have h1 := hok.pos ki hkim
  have h2 : V ∈ ki.ws := by
   rw [hV]
   cases hw : ki.ws with
   | nil => exact absurd hw h1
   | cons x l => simp
  exact hok.way ki hkim V h2)
 have hnV1 : nV ≤ 1000000 := by have h1 := HVM.out.1; have h2 := (hok.short ki hkim).2.2; omega
 have l0 : W.cell? ⟨bl, 0, none⟩ = some (.slice (some ⟨gk, 0, none⟩) K c) := by rw [hKe]; exact (h.hl hc).cell 0
 have hne : ((i : Int) == (K : Int)) = false := by simp; omega
 rw [← hKe] at hK ⊢
 clear hc hok IH hb hki hKe h hk0 hV hkim hid hnV
 go_enter Tryz.func52, Tryz.ntmps52
 go_wp2_with fail
 go_loopw [24] (fun jv wr => ∃ j : Nat, j ≤ K ∧ jv = .int .i64 (j : Int) ∧ Hid (GAt w0 bo gt gu m ks.length used (kindR ks d i used j s) wr)) (fun jv _ => K - (intOf jv).toNat)
 case atStart => exact ⟨0, by omega, rfl, HA0⟩
 case round =>
  clear HA0 l0
  obtain ⟨j, hj, rfl, HGr⟩ := hrel
  obtain ⟨wE, hwE⟩ : ∃ wE : World, wE = wr := ⟨_, rfl⟩
  rw [← hwE] at HGr ⊢
  clear hwE
  by_cases hjK : j < K
  · have hji : (j : Int) < (K : Int) := by omega
    obtain ⟨B, At, Aw, ct, cw, kj, hkj, hall, hway⟩ := HC.out.kind (j := j) (by rw [← HKE.out]; exact hjK)
    obtain ⟨⟨y0, _⟩, ⟨y1, _⟩, ⟨y2, _⟩, _⟩ := hall _ _ _ HGr.out
    have hjm := List.mem_of_getElem? hkj
    obtain ⟨nl, hnl⟩ : ∃ x, x = kj.L.length := ⟨_, rfl⟩
    obtain ⟨nw, hnw⟩ : ∃ x, x = kj.ws.length := ⟨_, rfl⟩
    rw [← hnl] at y1
    rw [← hnw] at y2
    have hnl1 : nl ≤ 1000 := by rw [hnl]; exact (HOK.out.short kj hjm).1
    have hnw1 : nw ≤ 1000000 := by rw [hnw]; exact (HOK.out.short kj hjm).2.1
    have HKJ := Lib.hid hkj
    have HNl := Lib.hid hnl
    have HNw := Lib.hid hnw
    have HJM := Lib.hid hjm
    have HALL := Lib.hid hall
    have HWAY := Lib.hid hway
    clear hkj hjm hnl hnw hall hway
    go_upto_region 5 with (fail)
    obtain ⟨wF, hwF⟩ : ∃ U, U = wE.alloc (.cells #[.int .i64 kj.M, .slice At nl ct, .slice Aw nw cw] 91) := ⟨_, rfl⟩
    have KXwF : Hid (Blk wF wE.heap.size 91 #[.int .i64 kj.M, .slice At nl ct, .slice Aw nw cw]) := by subst hwF; exact Lib.hid (Blk.new _ _ _)
    have GAwF : Hid (GAt w0 bo gt gu m ks.length used (kindR ks d i used j s) wF) := by subst hwF; exact Lib.hid (HGr.out.alloc _)
    have HWF0 : Hid (w0.heap.size ≤ wE.heap.size) := Lib.hid HGr.out.o.size
    rw [← hwF]
    obtain ⟨b8, hb8⟩ : ∃ b, b = wE.heap.size := ⟨_, rfl⟩
    rw [← hb8] at KXwF HWF0
    simp only [← hb8]
    clear hwF hb8 HGr y0 y1 y2
    have HBwF : Hid (Below wF.heap.size wF wF) := Lib.hid (Below.refl _ _)
    have CUwF : Hid (CellQ wF ⟨bu, 0, none⟩ (.slice (some ⟨gu, 0, none⟩) K K)) := Lib.hid ⟨by rw [HKE.out]; exact (GAwF.out.hu HC.out).cell 0, (GAwF.out.hu HC.out).lt⟩
    cases hu : used j with
    | true =>
     have CJwF : Hid (CellQ wF ⟨gu, j, none⟩ (.bool true)) := Lib.hid ⟨by rw [GAwF.out.u.cell, boolA_at _ (by rw [← HKE.out]; exact hjK), hu], GAwF.out.u.lt⟩
     have HKR : Hid (kindR ks d i used (j + 1) s = kindR ks d i used j s) := Lib.hid (by rw [kindR_succ, hu]; rfl)
     clear hu
     refine wp_region_held_drew (S := fun w' => w'.cell? ⟨bu, 0, none⟩ = some (.slice (some ⟨gu, 0, none⟩) K K) ∧ w'.cell? ⟨gu, j, none⟩ = some (.bool true)) (by kernel_rfl) ⟨(CUwF.out.drew.c), (CJwF.out.drew.c)⟩ (fun hHeld => ?_)
     refine hKk 0 ?_; (try simp only [zQ])
     refine hKk 1 ?_; (try simp only [zQ])
     refine hKk 2 ?_; (try simp only [zQ])
     refine hKk 3 ?_; (try simp only [zQ])
     refine hKk 4 ?_; (try simp only [zQ])
     refine hRk 5 ?_; (try simp only [zQ])
     refine hRk 6 ?_; (try simp only [zQ])
     refine hRk 7 ?_; (try simp only [zQ])
     refine hRk 8 ?_; (try simp only [zQ])
     refine hRk 9 ?_; (try simp only [zQ])
     refine hRk 10 ?_; (try simp only [zQ])
     refine hRk 11 ?_; (try simp only [zQ])
     refine hRk 12 ?_; (try simp only [zQ])
     refine hRk 13 ?_; (try simp only [zQ])
     refine hKk 14 ?_; (try simp only [zQ])
     refine wpAnyH_done (by kernel_rfl) ?_ _
     have HG2 : Hid (GAt w0 bo gt gu m ks.length used (kindR ks d i used (j + 1) s) wF.drew) := Lib.hid (by rw [HKR.out]; exact GAwF.out.drew)
     go_wp2_with fail
     go_roundw
     case rel => exact ⟨j + 1, by omega, by go_num, HG2⟩
     case measure => simp [intOf]; omega
    | false =>
     have HU := Lib.hid hu
     have CJwF : Hid (CellQ wF ⟨gu, j, none⟩ (.bool false)) := Lib.hid ⟨by rw [GAwF.out.u.cell, boolA_at _ (by rw [← HKE.out]; exact hjK), hu], GAwF.out.u.lt⟩
     have CLwF : Hid (CellQ wF ⟨bl, 0, none⟩ (.slice (some ⟨gk, 0, none⟩) K c)) := Lib.hid ⟨by rw [HKE.out]; exact (GAwF.out.hl HC.out).cell 0, (GAwF.out.hl HC.out).lt⟩
     obtain ⟨B2, At2, Aw2, ct2, cw2, ki2, hki2, hall2, hway2⟩ := HC.out.kind (j := i) (by rw [← HKE.out]; exact hiK)
     obtain rfl : ki2 = ki := by have := HKI.out; rw [hki2] at this; injection this
     have HALL2 := Lib.hid hall2
     have HWAY2 := Lib.hid hway2
     obtain ⟨q0, q1, _, hli⟩ := hall2 _ _ _ GAwF.out
     obtain ⟨_, _, _, hlj⟩ := HALL.out _ _ _ GAwF.out
     obtain ⟨nl2, hnl2⟩ : ∃ x, x = ki2.L.length := ⟨_, rfl⟩
     have hnl3 : nl2 ≤ 1000 := by rw [hnl2]; exact (HOK.out.short ki2 (List.mem_of_getElem? hki2)).1
     rw [← hnl2] at q1
     have CXwF := Lib.hid q0
     have CYwF := Lib.hid q1
     have HSM : Hid (∀ W', Below wF.heap.size wF W' → Calls Tryz.prog 29 #[.agg #[.int .i64 kj.M, .slice At nl ct], .agg #[.int .i64 ki2.M, .slice At2 nl2 ct2]] W' (BoolPost W' (alikeK kj ki2))) := Lib.hid fun W' hW' => by
      have h1 := soupSame_dec kj.M ki2.M kj.L ki2.L At At2 nl nl2 ct ct2 W' (by omega) (by omega) (by rw [HNl.out]; exact LRow.tris (LRow.below hlj hW')) (by rw [hnl2]; exact LRow.tris (LRow.below hli hW'))
      exact h1
     have HALK : Hid (kindR ks d i used (j + 1) s = if !alikeK kj ki2 then kindR ks d i used j s else wayR ks d i used j kj.ws.length (kindR ks d i used j s)) := Lib.hid (by rw [kindR_succ, hu, kAt_some HKJ.out, kAt_some HKI.out, Bool.false_or])
     clear hu hall2 hway2 q0 q1 hli hlj hnl2 hki2
     cases hal : alikeK kj ki2 with
     | false =>
      have HKR : Hid (kindR ks d i used (j + 1) s = kindR ks d i used j s) := Lib.hid (by rw [HALK.out, hal]; rfl)
      rw [hal] at HSM
      clear hal
      refine wp_region_held_drew (S := fun w' => w'.cell? ⟨bu, 0, none⟩ = some (.slice (some ⟨gu, 0, none⟩) K K) ∧ w'.cell? ⟨gu, j, none⟩ = some (.bool false) ∧ w'.cell? ⟨bl, 0, none⟩ = some (.slice (some ⟨gk, 0, none⟩) K c) ∧ w'.cell? ⟨gk, i * 3, none⟩ = some (.int .i64 ki2.M) ∧ w'.cell? ⟨gk, i * 3 + 1, none⟩ = some (.slice At2 nl2 ct2) ∧ w'.cell? ⟨b8, 0, none⟩ = some (.int .i64 kj.M) ∧ w'.cell? ⟨b8, 1, none⟩ = some (.slice At nl ct)) (by kernel_rfl) ⟨(CUwF.out.drew.c), (CJwF.out.drew.c), (CLwF.out.drew.c), (CXwF.out.drew.c), (CYwF.out.drew.c), (KXwF.out.drew.cell 0), (KXwF.out.drew.cell 1)⟩ (fun hHeld => ?_)
      refine hKk 0 ?_; (try simp only [zQ])
      refine hKk 1 ?_; (try simp only [zQ])
      refine hKk 2 ?_; (try simp only [zQ])
      refine hKk 3 ?_; (try simp only [zQ])
      refine hKk 4 ?_; (try simp only [zQ])
      refine hKk 5 ?_; (try simp only [zQ])
      refine hKk 6 ?_; (try simp only [zQ])
      refine hKk 7 ?_; (try simp only [zQ])
      refine hKk 8 ?_; (try simp only [zQ])
      refine hKk 9 ?_; (try simp only [zQ])
      refine hKk 10 ?_; (try simp only [zQ])
      refine hKk 11 ?_; (try simp only [zQ])
      refine wpAnyH_ready (rs := [12]) (by kernel_rfl) (by simp) ?_
      refine held_cons rfl (fun K hK => ?_) ?_
      · go_simp
        go_wp2_with (go_at_call 29; refine (HSM.out wF.drew (bw_drew HBwF.out)).mono ?_; rintro e v1 ⟨rfl, hb⟩)
        have CUv1 := Lib.hid (CUwF.out.drew.below hb)
        have CJv1 := Lib.hid (CJwF.out.drew.below hb)
        have CLv1 := Lib.hid (CLwF.out.drew.below hb)
        have CXv1 := Lib.hid (CXwF.out.drew.below hb)
        have CYv1 := Lib.hid (CYwF.out.drew.below hb)
        have KXv1 := Lib.hid (blk_call KXwF.out.drew hb)
        have GAv1 := Lib.hid (GAwF.out.drew.below hb)
        have HBv1 := Lib.hid (bw_call (bw_drew HBwF.out) hb)
        clear hb
        refine hK.out _ _ ?_ (fun hHeld => ?_)
        · exact ⟨(CUv1.out.c), (CJv1.out.c), (CLv1.out.c), (CXv1.out.c), (CYv1.out.c), (KXv1.out.cell 0), (KXv1.out.cell 1)⟩
        clear hK K
        (try simp only [zQ])
        refine hKk 13 ?_; (try simp only [zQ])
        refine hKk 14 ?_; (try simp only [zQ])
        refine wpAnyH_done (by kernel_rfl) ?_ _
        have HG2 : Hid (GAt w0 bo gt gu m ks.length used (kindR ks d i used (j + 1) s) v1) := Lib.hid (by rw [HKR.out]; exact GAv1.out)
        go_wp2_with fail
        go_roundw
        case rel => exact ⟨j + 1, by omega, by go_num, HG2⟩
        case measure => simp [intOf]; omega
      exact AllReadyH.nil
     | true =>
      have HKR : Hid (kindR ks d i used (j + 1) s = wayR ks d i used j kj.ws.length (kindR ks d i used j s)) := Lib.hid (by rw [HALK.out, hal]; rfl)
      rw [hal] at HSM
      have HALT : Hid (alikeK kj ki2 = true) := Lib.hid hal
      clear hal
      refine wp_region_held_drew (S := fun w' => w'.cell? ⟨bu, 0, none⟩ = some (.slice (some ⟨gu, 0, none⟩) K K) ∧ w'.cell? ⟨gu, j, none⟩ = some (.bool false) ∧ w'.cell? ⟨bl, 0, none⟩ = some (.slice (some ⟨gk, 0, none⟩) K c) ∧ w'.cell? ⟨gk, i * 3, none⟩ = some (.int .i64 ki2.M) ∧ w'.cell? ⟨gk, i * 3 + 1, none⟩ = some (.slice At2 nl2 ct2) ∧ w'.cell? ⟨b8, 0, none⟩ = some (.int .i64 kj.M) ∧ w'.cell? ⟨b8, 1, none⟩ = some (.slice At nl ct)) (by kernel_rfl) ⟨(CUwF.out.drew.c), (CJwF.out.drew.c), (CLwF.out.drew.c), (CXwF.out.drew.c), (CYwF.out.drew.c), (KXwF.out.drew.cell 0), (KXwF.out.drew.cell 1)⟩ (fun hHeld => ?_)
      refine hKk 0 ?_; (try simp only [zQ])
      refine hKk 1 ?_; (try simp only [zQ])
      refine hKk 2 ?_; (try simp only [zQ])
      refine hKk 3 ?_; (try simp only [zQ])
      refine hKk 4 ?_; (try simp only [zQ])
      refine hKk 5 ?_; (try simp only [zQ])
      refine hKk 6 ?_; (try simp only [zQ])
      refine hKk 7 ?_; (try simp only [zQ])
      refine hKk 8 ?_; (try simp only [zQ])
      refine hKk 9 ?_; (try simp only [zQ])
      refine hKk 10 ?_; (try simp only [zQ])
      refine hKk 11 ?_; (try simp only [zQ])
      refine wpAnyH_ready (rs := [12]) (by kernel_rfl) (by simp) ?_
      refine held_cons rfl (fun K hK => ?_) ?_
      · go_simp
        go_wp2_with (go_at_call 29; refine (HSM.out wF.drew (bw_drew HBwF.out)).mono ?_; rintro e v1 ⟨rfl, hb⟩)
        have CUv1 := Lib.hid (CUwF.out.drew.below hb)
        have CJv1 := Lib.hid (CJwF.out.drew.below hb)
        have CLv1 := Lib.hid (CLwF.out.drew.below hb)
        have CXv1 := Lib.hid (CXwF.out.drew.below hb)
        have CYv1 := Lib.hid (CYwF.out.drew.below hb)
        have KXv1 := Lib.hid (blk_call KXwF.out.drew hb)
        have GAv1 := Lib.hid (GAwF.out.drew.below hb)
        have HBv1 := Lib.hid (bw_call (bw_drew HBwF.out) hb)
        clear hb
        refine hK.out _ _ ?_ (fun hHeld => ?_)
        · exact ⟨(CUv1.out.c), (CJv1.out.c), (CLv1.out.c), (CXv1.out.c), (CYv1.out.c), (KXv1.out.cell 0), (KXv1.out.cell 1)⟩
        clear hK K
        (try simp only [zQ])
        refine hKk 13 ?_; (try simp only [zQ])
        refine hKk 14 ?_; (try simp only [zQ])
        refine wpAnyH_done (by kernel_rfl) ?_ _
        obtain ⟨st, hst⟩ : ∃ st, st = kindR ks d i used j s := ⟨_, rfl⟩
        have HST := Lib.hid hst
        have GA1 : Hid (GAt w0 bo gt gu m ks.length used st v1) := Lib.hid (by rw [hst]; exact GAv1.out)
        have x2 : v1.cell? ⟨b8, 2, none⟩ = some (.slice Aw nw cw) := KXv1.out.cell 2
        have c1 : v1.cell? ⟨bu, 0, none⟩ = some (.slice (some ⟨gu, 0, none⟩) K K) := CUv1.out.c
        have c2 : v1.cell? ⟨gu, j, none⟩ = some (.bool false) := CJv1.out.c
        have f2 := GA1.out.u.frozen j
        have hne8 : b8 ≠ gu := KXv1.out.ne_ GA1.out.u (by decide)
        have GA2 : Hid (GAt w0 bo gt gu m ks.length (updF used j true) (wayR ks d i used j 0 st) (v1.setCell ⟨gu, j, none⟩ (.bool true))) := Lib.hid (by rw [wayR_zero]; exact GA1.out.mark j true)
        rw [← hst] at HKR
        have HBD : Hid (∀ p, p ≤ nw → (wayR ks d i used j p st).1.length ≤ 100000) := Lib.hid fun p hp => by
         have h1 := wayR_upto ks d i used j st (p := p) (q := kj.ws.length) (by rw [← HNw.out]; exact hp)
         have h2 := kindR_upto ks d i used s (p := j + 1) (q := ks.length) (by rw [← HKE.out]; omega)
         rw [HKR.out] at h2
         have h3 := HB.out
         omega
        clear hst CUv1 CJv1 CLv1 CXv1 CYv1 GAv1 HBv1 HSM CUwF CJwF CLwF CXwF CYwF KXwF GAwF HBwF
        go_wp2_with fail
        obtain ⟨wH, hwH⟩ : ∃ U, U = v1.setCell ⟨gu, j, none⟩ (.bool true) := ⟨_, rfl⟩
        rw [← hwH] at GA2 ⊢
        clear hwH KXv1 GA1 x2 c1 c2 f2
        go_loopw [50] (fun pv wr => ∃ p : Nat, p ≤ nw ∧ pv = .int .i64 (p : Int) ∧ Hid (GAt w0 bo gt gu m ks.length (updF used j true) (wayR ks d i used j p st) wr)) (fun pv _ => nw - (intOf pv).toNat)
        case atStart => exact ⟨0, by omega, rfl, GA2⟩
        case round =>
         clear GA2
         obtain ⟨p, hp, rfl, GP⟩ := hrel
         obtain ⟨wI, hwI⟩ : ∃ wI : World, wI = wr := ⟨_, rfl⟩
         rw [← hwI] at GP ⊢
         clear hwI
         by_cases hpw : p < nw
         · have hpi : (p : Int) < (nw : Int) := by omega
           obtain ⟨gw, Ap, cp, hAw, hwp⟩ := HWAY.out p (by rw [← HNw.out]; exact hpw)
           obtain ⟨gv, Av, cv, hAv, hwv⟩ := HWAY2.out 0 (List.length_pos_iff.2 (HOK.out.pos ki2 (List.mem_of_getElem? HKI.out)))
           rw [← HV0.out] at hwv
           obtain ⟨way, hway⟩ : ∃ w, w = kj.ws.getD p [] := ⟨_, rfl⟩
           rw [← hway] at hwp
           have hwm : kj.ws[p]? = some way := by
            have hpl : p < kj.ws.length := by rw [← HNw.out]; exact hpw
            rw [hway, List.getElem?_eq_getElem hpl]
            simp [List.getD, List.getElem?_eq_getElem hpl]
           have HWM := Lib.hid hwm
           have hwl : way.length = nV := by
            have h1 := (HOK.out.way kj HJM.out way (List.mem_of_getElem? hwm)).1
            have h2 := HVM.out.1
            have h3 := HNV.out
            have h4 : kj.M = ki2.M := (of_decide_eq_true HALT.out).1
            omega
           have hwr : ∀ v ∈ way, 0 ≤ v ∧ v < (m : Int) := (HOK.out.way kj HJM.out way (List.mem_of_getElem? hwm)).2
           have HWL := Lib.hid hwl
           have HWP := Lib.hid hwp
           have HWV := Lib.hid hwv
           obtain ⟨⟨y0, _⟩, _⟩ := hwp _ _ _ GP.out
           obtain ⟨⟨z0, _⟩, _⟩ := hwv _ _ _ GP.out
           obtain ⟨_, _, ⟨z2, _⟩, _⟩ := HALL2.out _ _ _ GP.out
           have l0 : wI.cell? ⟨bl, 0, none⟩ = some (.slice (some ⟨gk, 0, none⟩) K c) := by rw [HKE.out]; exact (GP.out.hl HC.out).cell 0
           obtain ⟨nw2, hnw2⟩ : ∃ n, n = ki2.ws.length := ⟨_, rfl⟩
           rw [← hnw2] at z2
           have hnw3 : (0 : Int) < (nw2 : Int) := by
            have := List.length_pos_iff.2 (HOK.out.pos ki2 (List.mem_of_getElem? HKI.out))
            omega
           rw [← HNV.out] at z0
           rw [hwl] at y0
           have hiKi : (i : Int) < (K : Int) := by omega
           have HWI0 : Hid (GAt w0 bo gt gu m ks.length (updF used j true) ((wayR ks d i used j p st).1, setW V way 0 (wayR ks d i used j p st).2) wI) := Lib.hid GP.out
           subst hAw hAv
           clear hway hwm hwp hwv hnw2
           go_wp2_with fail
           go_loopw [62] (fun nv wr => ∃ n : Nat, n ≤ nV ∧ nv = .int .i64 (n : Int) ∧ Hid (GAt w0 bo gt gu m ks.length (updF used j true) ((wayR ks d i used j p st).1, setW V way n (wayR ks d i used j p st).2) wr)) (fun nv _ => nV - (intOf nv).toNat)
           case atStart => exact ⟨0, by omega, rfl, HWI0⟩
           case round =>
            clear HWI0 GP y0 z0 z2 l0
            obtain ⟨n, hn, rfl, GN⟩ := hrel
            obtain ⟨wJ, hwJ⟩ : ∃ wJ : World, wJ = wr := ⟨_, rfl⟩
            rw [← hwJ] at GN ⊢
            clear hwJ
            by_cases hnl : n < nV
            · have hni : (n : Int) < (nV : Int) := by omega
              have hnV2 : n < V.length := by rw [← HNV.out]; exact hnl
              obtain ⟨ad, hAd, cq⟩ := IR.cellQ (HWV.out _ _ _ GN.out).2 (List.getElem?_eq_getElem hnV2)
              obtain ⟨x, hx⟩ : ∃ x, x = V[n] := ⟨_, rfl⟩
              have hxr := HVM.out.2 x (by rw [hx]; exact List.getElem_mem hnV2)
              obtain ⟨xn, rfl⟩ : ∃ q : Nat, x = (q : Int) := ⟨x.toNat, by omega⟩
              rw [← hx] at cq
              have hnw4 : n < way.length := by rw [hwl]; exact hnl
              obtain ⟨ae, hAe, cw'⟩ := IR.cellQ (HWP.out _ _ _ GN.out).2 (List.getElem?_eq_getElem hnw4)
              obtain ⟨y, hy⟩ : ∃ y, y = way[n] := ⟨_, rfl⟩
              rw [← hy] at cw'
              have HXV : Hid ((V.getD n 0).toNat = xn ∧ way.getD n 0 = y) := Lib.hid ⟨by rw [List.getD, List.getElem?_eq_getElem hnV2, ← hx]; rfl, by rw [List.getD, List.getElem?_eq_getElem hnw4, ← hy]; rfl⟩
              have d0 := cq.c
              have CAwJ := Lib.hid cw'
              have hxm : (xn : Int) < (m : Int) := hxr.2
              have hxl : xn < m := by omega
              have CTwJ : Hid (CellQ wJ ⟨bt, 0, none⟩ (.slice (some ⟨gt, 0, none⟩) m m)) := Lib.hid ⟨(GN.out.ht HC.out).cell 0, (GN.out.ht HC.out).lt⟩
              have GTwJ : Hid (CellQ wJ ⟨gt, xn, none⟩ (.int .i64 ((setW V way n (wayR ks d i used j p st).2).getD xn 0))) := Lib.hid ⟨by rw [GN.out.t.cell]; exact intsA_at (by rw [GN.out.tl]; exact hxl), GN.out.t.lt⟩
              have HFZ : Hid (wJ.frozen? ⟨gt, xn, none⟩ = false) := Lib.hid (GN.out.t.frozen xn)
              have HBwJ : Hid (Below wJ.heap.size wJ wJ) := Lib.hid (Below.refl _ _)
              subst hAd hAe
              have e0 := GTwJ.out.c
              have f0 := HFZ.out
              clear cq cw' hx hy hxr
              go_upto_region 13 with (fail)
              refine wp_region_till (S := fun w' => w'.cell? ⟨bt, 0, none⟩ = some (.slice (some ⟨gt, 0, none⟩) m m) ∧ w'.cell? (ae.add n) = some (.int .i64 y) ∧ w'.cell? ⟨gt, xn, none⟩ = some (.int .i64 ((setW V way n (wayR ks d i used j p st).2).getD xn 0))) 7 (by kernel_rfl) ⟨(CTwJ.out.drew.c), (CAwJ.out.drew.c), (GTwJ.out.drew.c)⟩ (fun hHeld => ?_)
              refine tKk 0 ?_; (try simp only [zQ])
              refine tKk 1 ?_; (try simp only [zQ])
              refine tKk 2 ?_; (try simp only [zQ])
              refine tKk 3 ?_; (try simp only [zQ])
              refine tKk 4 ?_; (try simp only [zQ])
              refine tKk 5 ?_; (try simp only [zQ])
              refine tKk 6 ?_; (try simp only [zQ])
              refine Till.ready (rs := [7]) (by kernel_rfl) (by simp) ?_
              refine TillEach.last rfl (fun K hK => ?_)
              · go_simp
                refine hK.out _ _ ?_
                clear hK K
                (try simp only [zQ])
                refine Till.done (by kernel_rfl) ?_ _
                have HG4 : Hid (GAt w0 bo gt gu m ks.length (updF used j true) ((wayR ks d i used j p st).1, setW V way (n + 1) (wayR ks d i used j p st).2) ((wJ.setCell ⟨gt, xn, none⟩ (.int .i64 y)).drew)) := Lib.hid (by
                 have h1 := GN.out.write GTL.out xn y
                 rw [setW, HXV.out.1, HXV.out.2]
                 exact h1.drew)
                go_wp2_with fail
                go_roundw
                case rel => exact ⟨n + 1, by omega, by go_num, HG4⟩
                case measure => simp [intOf]; omega
            · have hni : ¬ (n : Int) < (nV : Int) := by omega
              have HSX : Hid (goR ks d (i + 1) (updF used j true) ((wayR ks d i used j p st).1, setW V way n (wayR ks d i used j p st).2) = wayR ks d i used j (p + 1) st) := Lib.hid (by
               have h1 := wayR_succ (ks := ks) (d := d) (i := i) (used := used) (j := j) (p := p) (s := st) (way := way) (by rw [kAt_some HKJ.out]; exact HWM.out)
               rw [h1, HV.out, show n = V.length by have := HNV.out; omega])
              have HCA := Lib.hid (HIH.out (updF used j true) ((wayR ks d i used j p st).1, setW V way n (wayR ks d i used j p st).2) wJ (by rw [HSX.out]; exact HBD.out (p + 1) (by omega)) GN.out)
              rw [HSX.out] at HCA
              have g0 := (GN.out.hg HC.out).cell 0
              have u1 : IntKind.i64.wrap ((i : Int) + 1) = (i : Int) + 1 := by rw [IntKind.wrap_i64]; omega
              simp at g0
              go_wp2_with fail
              refine HCA.out.mono ?_
              rintro e wK ⟨rfl, hG⟩
              have GK := Lib.hid hG
              clear hG
              go_wp2_with fail
              go_roundw
              case rel => exact ⟨p + 1, by omega, by go_num, GK⟩
              case measure => simp [intOf]; omega
         · obtain rfl : p = nw := by omega
           have HG3 : Hid (GAt w0 bo gt gu m ks.length used (kindR ks d i used (j + 1) s) (wI.setCell ⟨gu, j, none⟩ (.bool false))) := Lib.hid (by
            have h1 := GP.out.mark j false
            rw [updF_back used HU.out, HNw.out, ← HKR.out] at h1
            exact h1)
           have c1 : wI.cell? ⟨bu, 0, none⟩ = some (.slice (some ⟨gu, 0, none⟩) K K) := by rw [HKE.out]; exact (GP.out.hu HC.out).cell 0
           have c2 : wI.cell? ⟨gu, j, none⟩ = some (.bool true) := by rw [GP.out.u.cell, boolA_at _ (by rw [← HKE.out]; exact hjK), updF_at]
           have f2 := GP.out.u.frozen j
           go_wp2_with fail
           go_roundw
           case rel => exact ⟨j + 1, by omega, by go_num, HG3⟩
           case measure => simp [intOf]; omega
      exact AllReadyH.nil
  · obtain rfl : j = K := by omega
    go_wp2_with fail
    refine bodyPost_end (results_none rfl _ _ _) rfl ⟨rfl, ?_⟩
    have := HGr.out
    rw [HKE.out] at this ⊢
    exact this
theorem go1_any {w0 : World} {bl bo bt bu bg gt gu m c : Nat} {A : Option Addr} {ks : List KindV} (hc : GoC w0 bl bo bt bu bg gt gu m A c ks) (hok : KOk m ks) (hK : ks.length ≤ 1000) :
  ∀ (d i : Nat) (used : Nat → Bool) (s : GSt) (W : World), i + d = ks.length → (goR ks d i used s).1.length ≤ 100000 → GAt w0 bo gt gu m ks.length used s W →
   Calls Tryz.prog 52 #[.int .i64 (i : Int), .pointer (some ⟨bl, 0, none⟩), .pointer (some ⟨bo, 0, none⟩), .pointer (some ⟨bt, 0, none⟩), .pointer (some ⟨bu, 0, none⟩), .pointer (some ⟨bg, 0, none⟩)] W (GoPost w0 bo gt gu m ks.length used (goR ks d i used s))
 | 0, i, used, s, W, hi, hb, h => by
  obtain rfl : i = ks.length := by omega
  have hb' : (s.1 ++ [s.2]).length ≤ 100000 := hb
  rw [List.length_append] at hb'
  exact goLeaf_any used s W hc (by omega) hK h
 | d + 1, i, used, s, W, hi, hb, h =>
  goStep_any hc hok hK d i hi (fun used' s' W' hb' h' => by
   have := go1_any hc hok hK d (i + 1) used' s' W' (by omega) hb' h'
   rw [show ((i + 1 : Nat) : Int) = (i : Int) + 1 from rfl] at this
   exact this) used s W hb h
end Go.Proofs.YtiajlmajenabiaaGreat
