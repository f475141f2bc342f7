/- soup.Rename, walked. No condition. -/
import Derived.Test.YtcahbcminonfbaaRen8
import Derived.Test.YtcahbcminonfbaaEach8
namespace Go.Proofs.Ytcahbcminonfbaa
open Go.RowKit

set_option linter.unusedSimpArgs false
set_option linter.unusedVariables false
attribute [local irreducible] Blk LRow IRow World.alloc World.setCell World.cell? World.frozen?
set_option maxRecDepth 100000 in
set_option maxHeartbeats 8000000 in
theorem rename1_any (t : Tri) (gl : Nat) (Al : Option Addr) (m cl : Nat) (l : List Int) (B : Nat) (w : World) (hg : Blk w gl 25 #[.slice Al m cl]) (hl : Reads w B 1 Al m (ZL l)) (hB : B ≤ w.heap.size) (hi : inL m t) :
    Calls Try.prog 45 #[.agg #[.int .i64 t.a, .int .i64 t.b, .int .i64 t.c], .pointer (some ⟨gl, 0, none⟩)] w fun e w' => e = .returned (.agg #[.int .i64 (renT l t).a, .int .i64 (renT l t).b, .int .i64 (renT l t).c]) ∧ Below w.heap.size w w' := by
  obtain ⟨⟨a0, a1⟩, ⟨b0, b1⟩, c0, c1⟩ := hi
  obtain ⟨ta, tb, tc⟩ := t
  simp only at a0 a1 b0 b1 c0 c1
  obtain ⟨an, rfl⟩ := Int.eq_ofNat_of_zero_le a0
  obtain ⟨bn, rfl⟩ := Int.eq_ofNat_of_zero_le b0
  obtain ⟨cn, rfl⟩ := Int.eq_ofNat_of_zero_le c0
  obtain ⟨adl, eAl, hadl, htc⟩ := to_cells (hl.more hB) (by omega)
  subst eAl
  have q0 := htc an (by omega)
  have q1 := htc bn (by omega)
  have q2 := htc cn (by omega)
  clear htc
  unfold renT
  simp only
  generalize toL l an = xa at *
  generalize toL l bn = xb at *
  generalize toL l cn = xc at *
  have HG0 := Lib.hid hg
  clear hg hl
  go_enter Try.func45, Try.ntmps45
  go_upto_region 1 with (fail)
  obtain ⟨V, hV⟩ : ∃ V, V = (w.alloc (.cells #[.int .i64 an, .int .i64 bn, .int .i64 cn] 78)).alloc (.cells #[.int .i64 0, .int .i64 0, .int .i64 0] 78) := ⟨_, rfl⟩
  have HX : Hid (Blk V w.heap.size 78 #[.int .i64 an, .int .i64 bn, .int .i64 cn]) := by subst hV; exact Lib.hid ((Blk.new _ _ _).alloc _)
  have HR : Hid (Blk V (w.heap.size + 1) 78 #[.int .i64 0, .int .i64 0, .int .i64 0]) := by subst hV; exact Lib.hid (blk_new1 _ _ _ _)
  have HB : Hid (Below w.heap.size w V) := by subst hV; exact Lib.hid (bw_alloc (bw_alloc (Below.refl _ _) _) _)
  rw [← hV]
  clear hV
  have HG := Lib.hid (blk_call HG0.out HB.out)
  have k0 : V.drew.cell? ⟨gl, 0, none⟩ = some (.slice (some adl) m cl) := HG.out.drew.cell 0
  obtain ⟨y0, y1, y2⟩ := tri_cells HR.out
  have z0 := HR.out.frozen 0
  have z1 := HR.out.frozen 1
  have z2 := HR.out.frozen 2
  have HS : Hid (V.drew.cell? ⟨gl, 0, none⟩ = some (.slice (some adl) m cl) ∧ V.drew.cell? ⟨w.heap.size, 0, none⟩ = some (.int .i64 an) ∧ V.drew.cell? ⟨w.heap.size, 1, none⟩ = some (.int .i64 bn) ∧ V.drew.cell? ⟨w.heap.size, 2, none⟩ = some (.int .i64 cn) ∧ V.drew.cell? (adl.add an) = some (.int .i64 xa) ∧ V.drew.cell? (adl.add bn) = some (.int .i64 xb) ∧ V.drew.cell? (adl.add cn) = some (.int .i64 xc) ∧ V.drew.frozen? ⟨w.heap.size + 1, 0, none⟩ = false ∧ V.drew.frozen? ⟨w.heap.size + 1, 1, none⟩ = false ∧ V.drew.frozen? ⟨w.heap.size + 1, 2, none⟩ = false) := Lib.hid ⟨k0, (tri_cells HX.out.drew).1, (tri_cells HX.out.drew).2.1, (tri_cells HX.out.drew).2.2, ((bw_drew HB.out).cell (by rw [block_of_add]; exact hadl)).trans q0, ((bw_drew HB.out).cell (by rw [block_of_add]; exact hadl)).trans q1, ((bw_drew HB.out).cell (by rw [block_of_add]; exact hadl)).trans q2, HR.out.drew.frozen 0, HR.out.drew.frozen 1, HR.out.drew.frozen 2⟩
  clear k0 q0 q1 q2 HG0
  refine wp_region_till (S := fun w' => w'.cell? ⟨gl, 0, none⟩ = some (.slice (some adl) m cl) ∧ w'.cell? ⟨w.heap.size, 0, none⟩ = some (.int .i64 an) ∧ w'.cell? ⟨w.heap.size, 1, none⟩ = some (.int .i64 bn) ∧ w'.cell? ⟨w.heap.size, 2, none⟩ = some (.int .i64 cn) ∧ w'.cell? (adl.add an) = some (.int .i64 xa) ∧ w'.cell? (adl.add bn) = some (.int .i64 xb) ∧ w'.cell? (adl.add cn) = some (.int .i64 xc) ∧ w'.frozen? ⟨w.heap.size + 1, 0, none⟩ = false ∧ w'.frozen? ⟨w.heap.size + 1, 1, none⟩ = false ∧ w'.frozen? ⟨w.heap.size + 1, 2, none⟩ = false) 16 (by kernel_rfl) HS.out (fun hHeld => ?_)
  refine Till.take (i := 0) (v := ?vt1) rfl (by kernel_rfl) (by kernel_rfl) (by kernel_rfl) (by kernel_rfl) (fun _ _ _ h => h) (Or.inl ⟨by rfl, ?ht1⟩) (by assumption) ?restt1
  case ht1 => (intro w hSw; (try dsimp only at hSw); go_simp; try with_reducible rfl)
  (try simp only [Act.put, List.setIfInBounds_toArray, List.set_cons_zero, List.set_cons_succ])
  refine Till.take (i := 1) (v := ?vt2) rfl (by kernel_rfl) (by kernel_rfl) (by kernel_rfl) (by kernel_rfl) (fun _ _ _ h => h) (Or.inl ⟨by rfl, ?ht2⟩) (by assumption) ?restt2
  case ht2 => (intro w hSw; (try dsimp only at hSw); go_simp; try with_reducible rfl)
  (try simp only [Act.put, List.setIfInBounds_toArray, List.set_cons_zero, List.set_cons_succ])
  refine Till.take (i := 2) (v := ?vt3) rfl (by kernel_rfl) (by kernel_rfl) (by kernel_rfl) (by kernel_rfl) (fun _ _ _ h => h) (Or.inl ⟨by rfl, ?ht3⟩) (by assumption) ?restt3
  case ht3 => (intro w hSw; (try dsimp only at hSw); go_simp; try with_reducible rfl)
  (try simp only [Act.put, List.setIfInBounds_toArray, List.set_cons_zero, List.set_cons_succ])
  refine Till.take (i := 3) (v := ?vt4) rfl (by kernel_rfl) (by kernel_rfl) (by kernel_rfl) (by kernel_rfl) (fun _ _ _ h => h) (Or.inl ⟨by rfl, ?ht4⟩) (by assumption) ?restt4
  case ht4 => (intro w hSw; (try dsimp only at hSw); go_simp; try with_reducible rfl)
  (try simp only [Act.put, List.setIfInBounds_toArray, List.set_cons_zero, List.set_cons_succ])
  refine Till.take (i := 4) (v := ?vt5) rfl (by kernel_rfl) (by kernel_rfl) (by kernel_rfl) (by kernel_rfl) (fun _ _ _ h => h) (Or.inl ⟨by rfl, ?ht5⟩) (by assumption) ?restt5
  case ht5 => (intro w hSw; (try dsimp only at hSw); go_simp; try with_reducible rfl)
  (try simp only [Act.put, List.setIfInBounds_toArray, List.set_cons_zero, List.set_cons_succ])
  refine Till.take (i := 5) (v := ?vt6) rfl (by kernel_rfl) (by kernel_rfl) (by kernel_rfl) (by kernel_rfl) (fun _ _ _ h => h) (Or.inl ⟨by rfl, ?ht6⟩) (by assumption) ?restt6
  case ht6 => (intro w hSw; (try dsimp only at hSw); go_simp; try with_reducible rfl)
  (try simp only [Act.put, List.setIfInBounds_toArray, List.set_cons_zero, List.set_cons_succ])
  refine Till.take (i := 6) (v := ?vt7) rfl (by kernel_rfl) (by kernel_rfl) (by kernel_rfl) (by kernel_rfl) (fun _ _ _ h => h) (Or.inl ⟨by rfl, ?ht7⟩) (by assumption) ?restt7
  case ht7 => (intro w hSw; (try dsimp only at hSw); go_simp; try with_reducible rfl)
  (try simp only [Act.put, List.setIfInBounds_toArray, List.set_cons_zero, List.set_cons_succ])
  refine Till.take (i := 7) (v := ?vt8) rfl (by kernel_rfl) (by kernel_rfl) (by kernel_rfl) (by kernel_rfl) (fun _ _ _ h => h) (Or.inl ⟨by rfl, ?ht8⟩) (by assumption) ?restt8
  case ht8 => (intro w hSw; (try dsimp only at hSw); go_simp; try with_reducible rfl)
  (try simp only [Act.put, List.setIfInBounds_toArray, List.set_cons_zero, List.set_cons_succ])
  refine Till.take (i := 8) (v := ?vt9) rfl (by kernel_rfl) (by kernel_rfl) (by kernel_rfl) (by kernel_rfl) (fun _ _ _ h => h) (Or.inl ⟨by rfl, ?ht9⟩) (by assumption) ?restt9
  case ht9 => (intro w hSw; (try dsimp only at hSw); go_simp; try with_reducible rfl)
  (try simp only [Act.put, List.setIfInBounds_toArray, List.set_cons_zero, List.set_cons_succ])
  refine Till.take (i := 9) (v := ?vt10) rfl (by kernel_rfl) (by kernel_rfl) (by kernel_rfl) (by kernel_rfl) (fun _ _ _ h => h) (Or.inl ⟨by rfl, ?ht10⟩) (by assumption) ?restt10
  case ht10 => (intro w hSw; (try dsimp only at hSw); go_simp; try with_reducible rfl)
  (try simp only [Act.put, List.setIfInBounds_toArray, List.set_cons_zero, List.set_cons_succ])
  refine Till.take (i := 10) (v := ?vt11) rfl (by kernel_rfl) (by kernel_rfl) (by kernel_rfl) (by kernel_rfl) (fun _ _ _ h => h) (Or.inl ⟨by rfl, ?ht11⟩) (by assumption) ?restt11
  case ht11 => (intro w hSw; (try dsimp only at hSw); go_simp; try with_reducible rfl)
  (try simp only [Act.put, List.setIfInBounds_toArray, List.set_cons_zero, List.set_cons_succ])
  refine Till.take (i := 11) (v := ?vt12) rfl (by kernel_rfl) (by kernel_rfl) (by kernel_rfl) (by kernel_rfl) (fun _ _ _ h => h) (Or.inl ⟨by rfl, ?ht12⟩) (by assumption) ?restt12
  case ht12 => (intro w hSw; (try dsimp only at hSw); go_simp; try with_reducible rfl)
  (try simp only [Act.put, List.setIfInBounds_toArray, List.set_cons_zero, List.set_cons_succ])
  refine Till.take (i := 12) (v := ?vt13) rfl (by kernel_rfl) (by kernel_rfl) (by kernel_rfl) (by kernel_rfl) (fun _ _ _ h => h) (Or.inl ⟨by rfl, ?ht13⟩) (by assumption) ?restt13
  case ht13 => (intro w hSw; (try dsimp only at hSw); go_simp; try with_reducible rfl)
  (try simp only [Act.put, List.setIfInBounds_toArray, List.set_cons_zero, List.set_cons_succ])
  refine Till.take (i := 13) (v := ?vt14) rfl (by kernel_rfl) (by kernel_rfl) (by kernel_rfl) (by kernel_rfl) (fun _ _ _ h => h) (Or.inl ⟨by rfl, ?ht14⟩) (by assumption) ?restt14
  case ht14 => (intro w hSw; (try dsimp only at hSw); go_simp; try with_reducible rfl)
  (try simp only [Act.put, List.setIfInBounds_toArray, List.set_cons_zero, List.set_cons_succ])
  refine Till.take (i := 14) (v := ?vt15) rfl (by kernel_rfl) (by kernel_rfl) (by kernel_rfl) (by kernel_rfl) (fun _ _ _ h => h) (Or.inl ⟨by rfl, ?ht15⟩) (by assumption) ?restt15
  case ht15 => (intro w hSw; (try dsimp only at hSw); go_simp; try with_reducible rfl)
  (try simp only [Act.put, List.setIfInBounds_toArray, List.set_cons_zero, List.set_cons_succ])
  refine Till.take (i := 15) (v := ?vt16) rfl (by kernel_rfl) (by kernel_rfl) (by kernel_rfl) (by kernel_rfl) (fun _ _ _ h => h) (Or.inl ⟨by rfl, ?ht16⟩) (by assumption) ?restt16
  case ht16 => (intro w hSw; (try dsimp only at hSw); go_simp; try with_reducible rfl)
  (try simp only [Act.put, List.setIfInBounds_toArray, List.set_cons_zero, List.set_cons_succ])
  refine Till.ready (rs := [16]) (by kernel_rfl) (by simp) ?_
  refine TillEach.last rfl (fun K hK => ?_)
  · go_simp
    refine hK.out _ _ ?_
    clear hK K
    (try simp only [Act.put, List.setIfInBounds_toArray, List.set_cons_zero, List.set_cons_succ])
    refine Till.done (by kernel_rfl) ?_ _
    go_wp2_with fail
    have HR2 := Lib.hid ((((HR.out.set_ 0 (.int .i64 xa)).set_ 1 (.int .i64 xb)).set_ 2 (.int .i64 xc)).drew)
    have HB2 := Lib.hid (bw_drew (bw_set (bw_set (bw_set HB.out (p := ⟨w.heap.size + 1, 0, none⟩) (Nat.le_succ _) (.int .i64 xa)) (p := ⟨w.heap.size + 1, 1, none⟩) (Nat.le_succ _) (.int .i64 xb)) (p := ⟨w.heap.size + 1, 2, none⟩) (Nat.le_succ _) (.int .i64 xc)))
    have f0 := HR2.out.cell 0
    have f1 := HR2.out.cell 1
    have f2 := HR2.out.cell 2
    simp at f0 f1 f2
    refine bodyPost_ret (v := .agg #[.int .i64 xa, .int .i64 xb, .int .i64 xc]) ?_ rfl ⟨rfl, HB2.out⟩
    simp [results, Try.results45, go_sem, f0, f1, f2]
/-- What a soup is by other numbers, and an error's number. -/
def renL (N : Int) (T : List Tri) (l : List Int) : Int × List Tri × Int := if fitL N T = false then (0, [], 1) else if permP N l then (N, T.map (renT l), 0) else (0, [], 3)
structure RS (W0 w : World) (gs gl gr : Nat) (N : Int) (A : Option Addr) (n c : Nat) (Al : Option Addr) (m cl : Nat) : Prop where
  s : Blk w gs 24 #[.int .i64 N, .slice A n c]
  l : Blk w gl 25 #[.slice Al m cl]
  r : Blk w gr 24 #[.int .i64 0, .slice none 0 0]
  b : Below W0.heap.size W0 w
  hr : W0.heap.size ≤ gr
section
variable {W0 w w' : World} {gs gl gr : Nat} {N : Int} {A Al : Option Addr} {n c m cl : Nat}
theorem RS.on (h : RS W0 w gs gl gr N A n c Al m cl) (hb : Below w.heap.size w w') : RS W0 w' gs gl gr N A n c Al m cl := ⟨blk_call h.s hb, blk_call h.l hb, blk_call h.r hb, bw_call h.b hb, h.hr⟩
theorem RS.alloc (h : RS W0 w gs gl gr N A n c Al m cl) (o : Obj) : RS W0 (w.alloc o) gs gl gr N A n c Al m cl := ⟨h.s.alloc o, h.l.alloc o, h.r.alloc o, bw_alloc h.b o, h.hr⟩
theorem RS.far (h : RS W0 w gs gl gr N A n c Al m cl) {p : Addr} (h1 : gs ≠ p.block) (h2 : gl ≠ p.block) (h3 : gr ≠ p.block) (h4 : W0.heap.size ≤ p.block) (u : Value) : RS W0 (w.setCell p u) gs gl gr N A n c Al m cl := ⟨h.s.far h1 u, h.l.far h2 u, h.r.far h3 u, bw_set h.b h4 u, h.hr⟩
theorem RS.cells (h : RS W0 w gs gl gr N A n c Al m cl) : w.cell? ⟨gs, 0, none⟩ = some (.int .i64 N) ∧ w.cell? ⟨gs, 1, none⟩ = some (.slice A n c) ∧ w.cell? ⟨gl, 0, none⟩ = some (.slice Al m cl) ∧ w.cell? ⟨gr, 0, none⟩ = some (.int .i64 0) ∧ w.cell? ⟨gr, 1, none⟩ = some (.slice none 0 0) ∧ w.frozen? ⟨gr, 0, none⟩ = false ∧ w.frozen? ⟨gr, 1, none⟩ = false := ⟨h.s.cell 0, h.s.cell 1, h.l.cell 0, h.r.cell 0, h.r.cell 1, h.r.frozen 0, h.r.frozen 1⟩
end
def seenTo (l : List Int) (k v : Nat) : Bool := decide ((v : Int) ∈ l.take k)
theorem seen_snoc {l : List Int} {k x : Nat} (h : l[k]? = some (x : Int)) : (fun u => seenTo l k u || u == x) = seenTo l (k + 1) := by
  funext u
  unfold seenTo
  rw [take_snoc_I l k h, Bool.eq_iff_iff]
  simp only [Bool.or_eq_true, decide_eq_true_eq, beq_iff_eq, List.mem_append, List.mem_singleton, Int.natCast_inj]
theorem take_nodup {l : List Int} {k : Nat} {x : Int} (h : l[k]? = some x) (hn : (l.take k).Nodup) (hx : x ∉ l.take k) : (l.take (k + 1)).Nodup := by
  rw [take_snoc_I l k h, List.nodup_append]
  refine ⟨hn, by simp, fun a ha b hb => ?_⟩
  obtain rfl := List.mem_singleton.1 hb
  rintro rfl
  exact hx ha
theorem not_nodup {l : List Int} {k : Nat} {x : Int} (h : l[k]? = some x) (hx : x ∈ l.take k) : ¬ l.Nodup := fun hn => by
  have h1 : (l.take (k + 1)).Nodup := hn.sublist (List.take_sublist _ _)
  rw [take_snoc_I l k h, List.nodup_append] at h1
  exact h1.2.2 x hx x (by simp) rfl
theorem renL_form {N : Int} {T : List Tri} {l : List Int} (hf : fitL N T = true) (h : ¬ permP N l) : renL N T l = (0, [], 3) := by
  unfold renL
  rw [if_neg (by rw [hf]; simp), if_neg h]
theorem renL_ok {N : Int} {T : List Tri} {l : List Int} (hf : fitL N T = true) (h : permP N l) : renL N T l = (N, T.map (renT l), 0) := by
  unfold renL
  rw [if_neg (by rw [hf]; simp), if_pos h]
set_option maxRecDepth 100000 in
set_option maxHeartbeats 8000000 in
theorem rename_any (N : Int) (A : Option Addr) (n c : Nat) (T : List Tri) (Al : Option Addr) (m cl : Nat) (l : List Int) (w : World) (hn : n ≤ 8192) (hm : m ≤ 9223372036854775807) (ht : TrisAt w w.heap.size A n T) (hl : Reads w w.heap.size 1 Al m (ZL l)) :
    Calls Try.prog 18 #[.agg #[.int .i64 N, .slice A n c], .slice Al m cl] w (PickPost w (renL N T l)) := by
  obtain rfl : n = T.length := ht.len.symm
  obtain rfl : m = l.length := by have := hl.1; simp [ZL] at this; exact this.symm
  have HT := Lib.hid ht
  have HL := Lib.hid hl
  clear ht hl
  go_enter Try.func18, Try.ntmps18
  go_upto_region 1 with (fail)
  obtain ⟨V, hV⟩ : ∃ V, V = ((w.alloc (.cells #[.int .i64 N, .slice A T.length c] 24)).alloc (.cells #[.slice Al l.length cl] 25)).alloc (.cells #[.int .i64 0, .slice none 0 0] 24) := ⟨_, rfl⟩
  have HP : Hid (RS w V w.heap.size (w.heap.size + 1) (w.heap.size + 2) N A T.length c Al l.length cl) := by subst hV; exact Lib.hid ⟨((Blk.new _ _ _).alloc _).alloc _, (blk_new1 _ _ _ _).alloc _, Blk.new_ (by simp) _ _, bw_alloc (bw_alloc (bw_alloc (Below.refl _ _) _) _) _, by omega⟩
  rw [← hV]
  clear hV
  obtain ⟨gs, hgs⟩ : ∃ gs, gs = w.heap.size := ⟨_, rfl⟩
  obtain ⟨gl, hgl⟩ : ∃ gl, gl = w.heap.size + 1 := ⟨_, rfl⟩
  obtain ⟨gr, hgr⟩ : ∃ gr, gr = w.heap.size + 2 := ⟨_, rfl⟩
  rw [← hgr, ← hgl] at HP ⊢
  have HP : Hid (RS w V gs gl gr N A T.length c Al l.length cl) := by rw [hgs]; exact HP
  simp only [← hgs]
  clear hgs hgl hgr
  obtain ⟨s0, s1, l0, r0, r1, r2, r3⟩ := HP.out.cells
  go_wp2_with fail
  refine (fits_any N A T.length c T V (by omega) ((HT.out.below HP.out.b).more HP.out.b.size)).mono ?_
  rintro e w1 ⟨rfl, hb⟩
  have HP1 := Lib.hid (HP.out.on hb)
  clear hb HP s0 s1 l0 r0 r1 r2 r3
  obtain ⟨s0, s1, l0, r0, r1, r2, r3⟩ := HP1.out.cells
  cases hf : fitL N T with
  | false =>
    have HQ : Hid (renL N T l = (0, [], 1)) := Lib.hid (by unfold renL; rw [if_pos hf])
    go_wp2_with fail
    obtain ⟨f0, f1, _, _, _⟩ := soup_facts (soup_set HP1.out.r (.int .i64 0) (.slice none 0 0))
    refine bodyPost_ret (v := .tuple #[.agg #[.int .i64 0, .slice none 0 0], .int .i64 1]) ?_ rfl (pick_post HQ.out (LRow.nil _ _) (bw_set (bw_set HP1.out.b HP1.out.hr _) HP1.out.hr _))
    simp [results, Try.results18, go_sem, f0, f1]
  | true =>
    have hfn := fit_N hf
    have HFI : Hid (permP N l → ∀ t ∈ T, inL l.length t) := Lib.hid (fun hp t ht => by
      obtain ⟨i, hi, e⟩ := List.mem_iff_getElem.1 ht
      have h := (fitT_iff.1 (fit_tri hf hi)).1
      rw [tri_of (List.getElem?_eq_getElem hi), e] at h
      have := hp.1
      unfold inL
      omega)
    have HQF := Lib.hid (@renL_form N T l hf)
    have HQO := Lib.hid (@renL_ok N T l hf)
    clear hf
    obtain ⟨Nn, rfl⟩ := Int.eq_ofNat_of_zero_le hfn.1
    obtain ⟨i1, hi1, hy0, hy1, hy2⟩ := info_parts bool_info
    have hmk := fun W => run_make_rowN (P := Try.prog) 57 4 i1 (.bool false) Try.underlying57 hi1 hy0 .i64 .i64 Nn Nn (Nat.le_refl _) (by rw [hy2]; omega) (by omega) W
    rw [hy1, Nat.mul_one, madeBools] at hmk
    obtain ⟨w2, hw2⟩ : ∃ w2, w2 = w1.alloc (.cells (bools Nn fun _ => false) 4) := ⟨_, rfl⟩
    have HP2 : Hid (RS w w2 gs gl gr Nn A T.length c Al l.length cl) := by subst hw2; exact Lib.hid (HP1.out.alloc _)
    have HK2 : Hid (Blk w2 w1.heap.size 4 (bools Nn fun _ => false)) := by subst hw2; exact Lib.hid (Blk.new _ _ _)
    have F2 := HP2.out.cells
    rw [hw2] at F2
    obtain ⟨p0, p1, pl, _, _, _, _⟩ := F2
    have HGB : Hid (gs ≠ w1.heap.size ∧ gl ≠ w1.heap.size ∧ gr ≠ w1.heap.size ∧ w.heap.size ≤ w1.heap.size) := Lib.hid ⟨Nat.ne_of_lt HP1.out.s.lt, Nat.ne_of_lt HP1.out.l.lt, Nat.ne_of_lt HP1.out.r.lt, HP1.out.b.size⟩
    go_wp2_with fail
    rw [← hw2]
    generalize w1.heap.size = gb at *
    clear hw2 HP1 s0 s1 l0 r0 r1 r2 r3 p0 p1 pl hmk
    go_loopw [18] (fun iv wr => ∃ k : Nat, k ≤ l.length ∧ iv = .int .i64 k ∧ Hid ((l.take k).Nodup ∧ ∀ x ∈ l.take k, 0 ≤ x ∧ x < (Nn : Int)) ∧ Hid (Blk wr gb 4 (bools Nn (seenTo l k))) ∧ Hid (RS w wr gs gl gr Nn A T.length c Al l.length cl)) (fun iv _ => l.length - (intOf iv).toNat)
    case atStart => exact ⟨0, by omega, rfl, Lib.hid ⟨by simp, by simp⟩, (show seenTo l 0 = fun _ => false by funext v; simp [seenTo]) ▸ HK2, HP2⟩
    case round =>
      obtain ⟨k, hk, rfl, HN, HKK, HPK⟩ := hrel
      obtain ⟨w3, hw3⟩ : ∃ w3 : World, w3 = wr := ⟨_, rfl⟩
      rw [← hw3] at HKK HPK ⊢
      clear hw3 HP2 HK2
      obtain ⟨s0, s1, l0, r0, r1, r2, r3⟩ := HPK.out.cells
      by_cases hlt : k < l.length
      · obtain ⟨ad, u, eA, had, hu, hc⟩ := (HL.out.below HPK.out.b).at_ hlt
        obtain ⟨x, hx, rfl⟩ := zl_at hu
        have HX := Lib.hid hx
        have hk0 : (0 : Int) ≤ (k : Int) := by omega
        have hk1 : (k : Int) < (l.length : Int) := by omega
        subst eA
        clear hu hx had
        by_cases hx0 : x < 0
        · have HQ := Lib.hid (HQF.out fun h => by have := (h.2.2 x (List.mem_of_getElem? HX.out)).1; omega)
          go_wp2_with fail
          obtain ⟨f0, f1, _, _, _⟩ := soup_facts (soup_set HPK.out.r (.int .i64 0) (.slice none 0 0))
          refine bodyPost_ret (v := .tuple #[.agg #[.int .i64 0, .slice none 0 0], .int .i64 3]) ?_ rfl (pick_post HQ.out (LRow.nil _ _) (bw_set (bw_set HPK.out.b HPK.out.hr _) HPK.out.hr _))
          simp [results, Try.results18, go_sem, f0, f1]
        by_cases hx1 : (Nn : Int) ≤ x
        · have HQ := Lib.hid (HQF.out fun h => by have := (h.2.2 x (List.mem_of_getElem? HX.out)).2; omega)
          go_wp2_with fail
          obtain ⟨f0, f1, _, _, _⟩ := soup_facts (soup_set HPK.out.r (.int .i64 0) (.slice none 0 0))
          refine bodyPost_ret (v := .tuple #[.agg #[.int .i64 0, .slice none 0 0], .int .i64 3]) ?_ rfl (pick_post HQ.out (LRow.nil _ _) (bw_set (bw_set HPK.out.b HPK.out.hr _) HPK.out.hr _))
          simp [results, Try.results18, go_sem, f0, f1]
        obtain ⟨xn, rfl⟩ := Int.eq_ofNat_of_zero_le (show 0 ≤ x by omega)
        have hxn : xn < Nn := by omega
        have b0 := HKK.out.cell xn
        have b1 := HKK.out.frozen xn
        rw [bools_at _ hxn] at b0
        by_cases hsn : (xn : Int) ∈ l.take k
        · have HQ := Lib.hid (HQF.out fun h => not_nodup HX.out hsn h.2.1)
          have hse : seenTo l k xn = true := by unfold seenTo; exact decide_eq_true hsn
          rw [hse] at b0
          go_wp2_with fail
          obtain ⟨f0, f1, _, _, _⟩ := soup_facts (soup_set HPK.out.r (.int .i64 0) (.slice none 0 0))
          refine bodyPost_ret (v := .tuple #[.agg #[.int .i64 0, .slice none 0 0], .int .i64 3]) ?_ rfl (pick_post HQ.out (LRow.nil _ _) (bw_set (bw_set HPK.out.b HPK.out.hr _) HPK.out.hr _))
          simp [results, Try.results18, go_sem, f0, f1]
        · have hse : seenTo l k xn = false := by unfold seenTo; exact decide_eq_false hsn
          have HN2 := Lib.hid (take_nodup HX.out HN.out.1 hsn)
          have HI2 : Hid (∀ x ∈ l.take (k + 1), 0 ≤ x ∧ x < (Nn : Int)) := Lib.hid (by
            rw [take_snoc_I l k HX.out]
            intro y hy
            rcases List.mem_append.1 hy with hy | hy
            · exact HN.out.2 y hy
            · obtain rfl := List.mem_singleton.1 hy
              omega)
          rw [hse] at b0
          clear hsn hse
          go_wp2_with fail
          refine ⟨⟨k + 1, by omega, by go_num, Lib.hid ⟨HN2.out, HI2.out⟩, Lib.hid ?_, Lib.hid (HPK.out.far HGB.out.1 HGB.out.2.1 HGB.out.2.2.1 HGB.out.2.2.2 _)⟩, by simp [intOf]; omega⟩
          have h1 := HKK.out.set_ xn (.bool true)
          rw [bools_set, seen_snoc HX.out] at h1
          exact h1
      · obtain rfl : k = l.length := by omega
        rw [List.take_length] at HN
        by_cases hlN : (l.length : Int) = (Nn : Int)
        · have HPM : Hid (permP (Nn : Int) l) := Lib.hid ⟨hlN, HN.out.1, HN.out.2⟩
          have HQ := Lib.hid (HQO.out HPM.out)
          have HTI := Lib.hid (HFI.out HPM.out)
          go_wp2_with fail
          refine (eachR_any (renT l) gl Nn A T.length c T w3 (by omega) ((HT.out.below HPK.out.b).more HPK.out.b.size) (fun t ht W hW => rename1_any t gl Al l.length cl l W.heap.size W (blk_call HPK.out.l hW) ((HL.out.below (bw_call HPK.out.b hW)).more (bw_size (bw_call HPK.out.b hW))) (Nat.le_refl _) (HTI.out t ht))).mono ?_
          rintro e w4 ⟨A1, c1, rfl, hr, hb⟩
          have HP4 := Lib.hid (HPK.out.on hb)
          have HR4 := Lib.hid (LRow.base hr HPK.out.b.size)
          clear hb hr HPK s0 s1 l0 r0 r1 r2 r3
          obtain ⟨s0, s1, l0, r0, r1, r2, r3⟩ := HP4.out.cells
          go_wp2_with fail
          obtain ⟨f0, f1, _, _, _⟩ := soup_facts (soup_set HP4.out.r (.int .i64 Nn) (.slice A1 (T.map (renT l)).length c1))
          rw [List.length_map] at f0 f1
          refine bodyPost_ret (v := .tuple #[.agg #[.int .i64 Nn, .slice A1 (T.map (renT l)).length c1], .int .i64 0]) ?_ rfl (pick_post HQ.out (HR4.out.soup_set HP4.out.r _ _) (bw_set (bw_set HP4.out.b HP4.out.hr _) HP4.out.hr _))
          simp [results, Try.results18, go_sem, f0, f1]
        · have HQ := Lib.hid (HQF.out fun h => hlN h.1)
          go_wp2_with fail
          obtain ⟨f0, f1, _, _, _⟩ := soup_facts (soup_set HPK.out.r (.int .i64 0) (.slice none 0 0))
          refine bodyPost_ret (v := .tuple #[.agg #[.int .i64 0, .slice none 0 0], .int .i64 3]) ?_ rfl (pick_post HQ.out (LRow.nil _ _) (bw_set (bw_set HPK.out.b HPK.out.hr _) HPK.out.hr _))
          simp [results, Try.results18, go_sem, f0, f1]
end Go.Proofs.Ytcahbcminonfbaa
