/- gypsumref47.find and Onto, walked. No condition but sizes. -/
import Derived.Test.YtiajlmajenabiaaGreatFits
import Derived.Test.YtiajlmajenabiaaGreatSh47
set_option maxRecDepth 100000
set_option maxHeartbeats 16000000
set_option linter.all false
namespace Go.Proofs.YtiajlmajenabiaaGreat
open Go.RowKit
theorem zl_oneF (L : List Int) : ∀ u ∈ ZL L, u.oneCell' = true := fun u hu => by
 unfold ZL at hu
 obtain ⟨x, _, rfl⟩ := List.mem_map.1 hu
 rfl
theorem blk_ne47 {W : World} {a b : Nat} {t : TypeId} {cs ds : Array Value} (h : Blk W a t cs) (h' : Blk W b t ds) (hne : cs ≠ ds) : a ≠ b := fun e => by
 subst e
 unfold Blk at h h'
 rw [h] at h'
 injection h' with h'
 injection h' with h'
 exact hne h'
theorem reads_blk47 {W : World} {g : Nat} {t : TypeId} {u : Value} (h : Blk W g t #[u]) : Reads W W.heap.size 1 (some ⟨g, 0, none⟩) 1 [u] := ⟨rfl, fun _ => ⟨_, rfl, h.lt, fun k v hk => by
 obtain rfl : k = 0 := by have := (List.getElem?_eq_some_iff.1 hk).1; simpa using this
 have hv : u = v := by simpa using hk
 rw [← hv, show (⟨g, 0, none⟩ : Addr).add 0 = ⟨g, 0, none⟩ by simp [Addr.add]]
 exact h.cell 0⟩⟩
def RowsPost (w : World) (ws : List (List Int)) (e : Ending) (w' : World) : Prop :=
 ∃ (A : Option Addr) (c : Nat), e = .returned (.slice A ws.length c) ∧ WaysAt w' w.heap.size A c ws ∧ Below w.heap.size w w'
theorem WaysAt.append {W W' : World} {B B' c n n' c2 : Nat} {A A2 : Option Addr} {ws ws' : List (List Int)} {L L' : List Way} (hn : n = ws.length) (hn' : n' = ws'.length) (hB : B ≤ B') (hL : L.map Prod.snd = ws) (h3 : ∀ x ∈ L, IR W B x.1.1 x.1.2 x.2) (h2 : W.ownsRow B 25 1 (.slice A n c) n (L.map wayC))
  (hL' : L'.map Prod.snd = ws') (h3' : ∀ x ∈ L', IR W B' x.1.1 x.1.2 x.2) (hg : W.grownBy W' (Value.slice A n c).ownBlock)
  (ho : W'.ownsRow B 25 1 (.slice A2 (n + n') c2) (n + n') (L.map wayC ++ L'.map wayC)) : WaysAt W' B A2 c2 (ws ++ ws') := by
 subst hn hn'
 refine ⟨⟨L ++ L', by rw [List.map_append, hL, hL'], ?_, fun x hx => ?_⟩⟩
 · rw [List.length_append, List.map_append]
   exact ho
 · have key : ∀ y : Way, IR W B y.1.1 y.1.2 y.2 → IR W' B y.1.1 y.1.2 y.2 := fun y hy => own_grow2 hy hg h2 (by decide)
   rcases List.mem_append.1 hx with hx | hx
   · exact key x (h3 x hx)
   · exact key x (own_low (h3' x hx) hB)
theorem ways_one {W : World} {B c : Nat} {A : Option Addr} {l : List Int} {n : Nat} (hn : n = l.length) (h : IR W B A c l) (hB : B ≤ W.heap.size) : WaysAt (W.alloc (.cells #[.slice A n c] 25)) B (some ⟨W.heap.size, 0, none⟩) 1 [l] := by
 subst hn
 refine ⟨⟨[((A, c), l)], rfl, World.ownsRow_lit W #[.slice A l.length c] 1 hB (by unfold maxLen; omega) rfl, fun x hx => ?_⟩⟩
 rw [List.mem_singleton.1 hx]
 exact h.alloc _
def fmR (T U : List Tri) (m d : Nat) (l : List Int) (i : Nat) : List (List Int) := (List.range i).flatMap fun (w : Nat) => if fitsR T U l (w : Int) then extR T U m d (l ++ [(w : Int)]) else []
theorem fmR_succ (T U : List Tri) (m d : Nat) (l : List Int) (i : Nat) : fmR T U m d l (i + 1) = fmR T U m d l i ++ if fitsR T U l (i : Int) then extR T U m d (l ++ [(i : Int)]) else [] := by
 unfold fmR
 rw [List.range_succ, List.flatMap_append]
 simp
theorem fmR_pre (T U : List Tri) (m d : Nat) (l : List Int) {i : Nat} : ∀ {j : Nat}, i ≤ j → ∃ t, fmR T U m d l j = fmR T U m d l i ++ t
 | 0, h => by obtain rfl : i = 0 := by omega
              exact ⟨[], by simp⟩
 | j + 1, h => by
  rcases Nat.eq_or_lt_of_le h with e | h
  · exact ⟨[], by rw [e]; simp⟩
  · obtain ⟨t, ht⟩ := fmR_pre T U m d l (show i ≤ j by omega)
    exact ⟨_, by rw [fmR_succ, ht, List.append_assoc]⟩
attribute [local irreducible] Blk World.alloc World.setCell World.cell? World.frozen? MapV MapI
theorem findLeaf_any (m : Nat) (M : Int) (A Ax At : Option Addr) (c cx ct n nx : Nat) (most : Int) (l : List Int) (w : World) (hl : l.length = m) (hm : m ≤ 1000) (hto : Reads w w.heap.size 1 At l.length (ZL l)) :
  Calls Tryz.prog 42 #[.agg #[.int .i64 (m : Int), .slice A n c], .agg #[.int .i64 M, .slice Ax nx cx], .slice At l.length ct, .int .i64 most] w (RowsPost w [l]) := by
 obtain ⟨i0, hi0, hz0, hz1, hz2⟩ := info_parts int_infoC
 have HL := Lib.hid hto
 have HM := Lib.hid hl
 rw [hl]
 rw [hl] at HL
 clear hto hl
 go_enter Tryz.func42, Tryz.ntmps42
 go_upto_region 1 with (fail)
 obtain ⟨wA, hwA⟩ : ∃ X, X = (w.alloc (.cells #[.int .i64 (m : Int), .slice A n c] 24)).alloc (.cells #[.int .i64 M, .slice Ax nx cx] 24) := ⟨_, rfl⟩
 have K1A : Hid (Blk wA w.heap.size 24 #[.int .i64 (m : Int), .slice A n c]) := by subst hwA; exact Lib.hid ((Blk.new _ _ _).alloc _)
 have HBA : Hid (Below w.heap.size w wA) := by subst hwA; exact Lib.hid (bw_alloc (bw_alloc (Below.refl _ _) _) _)
 rw [← hwA]
 obtain ⟨b2, hb2⟩ : ∃ b, b = w.heap.size + 1 := ⟨_, rfl⟩
 obtain ⟨b1, hb1⟩ : ∃ b, b = w.heap.size := ⟨_, rfl⟩
 rw [← hb1] at K1A
 simp only [← hb2]
 simp only [← hb1]
 clear hwA hb1 hb2
 have p0 : wA.cell? ⟨b1, 0, none⟩ = some (.int .i64 (m : Int)) := K1A.out.cell 0
 have hmm : ((m : Int) == (m : Int)) = true := by simp
 go_upto_region 2 with (fail)
 go_wp2_with (at_builtin; go_must (refine wpList_append_sl _ rfl (.tmp 16) (.tmp 17) _ rfl w.heap.size 3 i0 _ 1 8 Tryz.underlying25 hi0 hz0 hz1 hz2 rfl (by omega) (.slice (some ⟨wA.heap.size, 0, none⟩) 0 0) 0 [] rfl (own_at (Blk.new _ _ _) HBA.out.size) w.heap.size At m ct (ZL l) rfl (HL.out.below (bw_alloc HBA.out _)) (zl_oneF l) (by simp only [maxLen]; omega) (by omega) (bw_size (bw_alloc HBA.out (.cells #[] 3))) ?_); intro A5 c5 w5 hown5 hg5 hat5)
 have HB5 : Hid (Below w.heap.size w w5) := Lib.hid (bw_grow (bw_alloc HBA.out _) hg5 fun x hx => by
  have : wA.heap.size = x := by simpa [Value.ownBlock] using hx
  have := HBA.out.size
  omega)
 have HI5 : Hid (IR w5 w.heap.size A5 c5 l) := Lib.hid (ir_of hown5 (by rw [HM.out]; omega) (by simp))
 go_ret
 refine ⟨_, 1, rfl, ?_, bw_alloc HB5.out _⟩
 have := ways_one (n := m) HM.out.symm HI5.out HB5.out.size
 simpa using this
theorem findStep_any (m : Nat) (M : Int) (A Ax : Option Addr) (c cx : Nat) (T U : List Tri) (hT : T.length ≤ 1000) (hU : U.length ≤ 1000) (hm : m ≤ 1000) (hok : ∀ t ∈ T, 0 ≤ t.a ∧ 0 ≤ t.b ∧ 0 ≤ t.c) (d : Nat)
  (IH : ∀ (At : Option Addr) (ct : Nat) (l : List Int) (most : Nat) (w : World), l.length + d = m → 1 ≤ most → most ≤ 2000 → TrisAt w w.heap.size A T.length T → TrisAt w w.heap.size Ax U.length U → Reads w w.heap.size 1 At l.length (ZL l) →
   Calls Tryz.prog 42 #[.agg #[.int .i64 (m : Int), .slice A T.length c], .agg #[.int .i64 M, .slice Ax U.length cx], .slice At l.length ct, .int .i64 (most : Int)] w (RowsPost w ((extR T U m d l).take most)))
  (At : Option Addr) (ct : Nat) (l : List Int) (most : Nat) (w : World) (hl : l.length + (d + 1) = m) (h1 : 1 ≤ most) (h2 : most ≤ 2000) (ht : TrisAt w w.heap.size A T.length T) (hu : TrisAt w w.heap.size Ax U.length U) (hto : Reads w w.heap.size 1 At l.length (ZL l)) :
  Calls Tryz.prog 42 #[.agg #[.int .i64 (m : Int), .slice A T.length c], .agg #[.int .i64 M, .slice Ax U.length cx], .slice At l.length ct, .int .i64 (most : Int)] w (RowsPost w ((extR T U m (d + 1) l).take most)) := by
 obtain ⟨i0, hi0, hz0, hz1, hz2⟩ := info_parts int_infoC
 obtain ⟨i3, hi3, jz0, jz1, jz2⟩ := info_parts ints_info47
 have HT := Lib.hid ht
 have HU := Lib.hid hu
 have HL := Lib.hid hto
 have HFI : Hid (∀ (v : Int) (W : World), Below w.heap.size w W → Calls Tryz.prog 76 #[.agg #[.int .i64 (m : Int), .slice A T.length c], .agg #[.int .i64 M, .slice Ax U.length cx], .slice At l.length ct, .int .i64 (l.length : Int), .int .i64 v] W (BoolPost W (fitsR T U l v))) := Lib.hid fun v W hW =>
  fits47_any (m : Int) M A Ax At c cx ct T U l v W hT hU (by omega) hok (tris_on hW ht) (tris_on hW hu) ((hto.below hW).more hW.size)
 have HIH : Hid (∀ (A' : Option Addr) (c' : Nat) (v : Nat) (mo : Nat) (W : World), Below w.heap.size w W → 1 ≤ mo → mo ≤ 2000 → Reads W W.heap.size 1 A' (l.length + 1) (ZL (l ++ [(v : Int)])) →
   Calls Tryz.prog 42 #[.agg #[.int .i64 (m : Int), .slice A T.length c], .agg #[.int .i64 M, .slice Ax U.length cx], .slice A' (l.length + 1) c', .int .i64 (mo : Int)] W (RowsPost W ((extR T U m d (l ++ [(v : Int)])).take mo))) := Lib.hid fun A' c' v mo W hW ha hb hr => by
  have := IH A' c' (l ++ [(v : Int)]) mo W (by rw [List.length_append, List.length_singleton]; omega) ha hb (tris_on hW ht) (tris_on hW hu) (by rw [List.length_append, List.length_singleton]; exact hr)
  rw [List.length_append, List.length_singleton] at this
  exact this
 have HEX : Hid (extR T U m (d + 1) l = fmR T U m d l m) := Lib.hid rfl
 obtain ⟨R, hR⟩ : ∃ R, R = (extR T U m (d + 1) l).take most := ⟨_, rfl⟩
 have HR := Lib.hid hR
 rw [← hR]
 obtain ⟨k, hk⟩ : ∃ k, k = l.length := ⟨_, rfl⟩
 rw [← hk] at HL HFI HIH ⊢
 have HK := Lib.hid hk
 have hkm : ¬ (k : Int) = (m : Int) := by omega
 have hkb : ((k : Int) == (m : Int)) = false := by simp; omega
 have hk1 : k ≤ 1000 := by omega
 obtain ⟨n, hn⟩ : ∃ k, k = T.length := ⟨_, rfl⟩
 rw [← hn] at HT HFI HIH ⊢
 obtain ⟨nx, hnx⟩ : ∃ k, k = U.length := ⟨_, rfl⟩
 rw [← hnx] at HU HFI HIH ⊢
 clear ht hu hto IH hR hl hk hn hnx hT hU hok
 go_enter Tryz.func42, Tryz.ntmps42
 go_upto_region 1 with (fail)
 obtain ⟨wA, hwA⟩ : ∃ X, X = (w.alloc (.cells #[.int .i64 (m : Int), .slice A n c] 24)).alloc (.cells #[.int .i64 M, .slice Ax nx cx] 24) := ⟨_, rfl⟩
 have K1A : Hid (Blk wA w.heap.size 24 #[.int .i64 (m : Int), .slice A n c]) := by subst hwA; exact Lib.hid ((Blk.new _ _ _).alloc _)
 have K2A : Hid (Blk wA (w.heap.size + 1) 24 #[.int .i64 M, .slice Ax nx cx]) := by subst hwA; exact Lib.hid (Blk.new_ (by rw [World.size_alloc]) _ _)
 have HBA : Hid (Below w.heap.size w wA) := by subst hwA; exact Lib.hid (bw_alloc (bw_alloc (Below.refl _ _) _) _)
 rw [← hwA]
 obtain ⟨b2, hb2⟩ : ∃ b, b = w.heap.size + 1 := ⟨_, rfl⟩
 obtain ⟨b1, hb1⟩ : ∃ b, b = w.heap.size := ⟨_, rfl⟩
 have HG1 : Hid (w.heap.size ≤ b1) := Lib.hid (by omega)
 have HG2 : Hid (w.heap.size ≤ b2) := Lib.hid (by omega)
 rw [← hb2] at K2A
 rw [← hb1] at K1A
 simp only [← hb2]
 simp only [← hb1]
 clear hwA hb1 hb2
 have p0 : wA.cell? ⟨b1, 0, none⟩ = some (.int .i64 (m : Int)) := K1A.out.cell 0
 go_wp2_with fail
 go_loopw [9, 10] (fun ov iv wr => ∃ (i no : Nat) (Ao : Option Addr) (co : Nat), i ≤ m ∧ ov = .slice Ao no co ∧ iv = .int .i64 (i : Int) ∧ no ≤ most ∧ Hid (no = ((fmR T U m d l i).take most).length) ∧ Hid (WaysAt wr w.heap.size Ao co ((fmR T U m d l i).take most)) ∧ Hid (Blk wr b1 24 #[.int .i64 (m : Int), .slice A n c]) ∧ Hid (Blk wr b2 24 #[.int .i64 M, .slice Ax nx cx]) ∧ Hid (Below w.heap.size w wr)) (fun _ iv _ => m - (intOf iv).toNat)
 case atStart => exact ⟨0, 0, none, 0, by omega, rfl, rfl, by omega, Lib.hid (by simp [fmR]), Lib.hid (by simp [fmR]; exact WaysAt.nil _ _), K1A, K2A, HBA⟩
 case round =>
  obtain ⟨i, no, Ao, co, him, rfl, rfl, hno, HNO, HWS, KSw, KXw, HBw⟩ := hrel
  obtain ⟨wE, hwE⟩ : ∃ wE : World, wE = wr := ⟨_, rfl⟩
  rw [← hwE] at HWS KSw KXw HBw ⊢
  clear hwE K1A K2A HBA p0
  have p0 : wE.cell? ⟨b1, 0, none⟩ = some (.int .i64 (m : Int)) := KSw.out.cell 0
  by_cases hii : i < m
  · have hiI : (i : Int) < (m : Int) := by omega
    by_cases hnm : no < most
    · have hnI : (no : Int) < (most : Int) := by omega
      have HFM : Hid ((fmR T U m d l i).take most = fmR T U m d l i ∧ no = (fmR T U m d l i).length) := Lib.hid (by
       have := HNO.out
       rw [List.length_take] at this
       have h3 : (fmR T U m d l i).length ≤ most := by omega
       exact ⟨List.take_of_length_le h3, by omega⟩)
      have p1 : wE.cell? ⟨b1, 1, none⟩ = some (.slice A n c) := KSw.out.cell 1
      have p2 : wE.cell? ⟨b2, 0, none⟩ = some (.int .i64 M) := KXw.out.cell 0
      have p3 : wE.cell? ⟨b2, 1, none⟩ = some (.slice Ax nx cx) := KXw.out.cell 1
      have HFT := Lib.hid (HFI.out (i : Int) wE HBw.out)
      obtain ⟨q, hq⟩ : ∃ q, q = fitsR T U l (i : Int) := ⟨_, rfl⟩
      rw [← hq] at HFT
      have HQ := Lib.hid hq
      clear hq
      cases q with
      | false =>
       have HNX : Hid (fmR T U m d l (i + 1) = fmR T U m d l i) := Lib.hid (by rw [fmR_succ, ← HQ.out]; simp)
       go_wp2_with fail
       refine HFT.out.mono ?_
       rintro e w1 ⟨rfl, hb⟩
       have HB1 := Lib.hid (bw_call HBw.out hb)
       have KS1 := Lib.hid (KSw.out.below hb KSw.out.lt)
       have KX1 := Lib.hid (KXw.out.below hb KXw.out.lt)
       have HW1 : Hid (WaysAt w1 w.heap.size Ao co ((fmR T U m d l (i + 1)).take most)) := Lib.hid (by rw [HNX.out]; exact HWS.out.below hb)
       have HN1 : Hid (no = ((fmR T U m d l (i + 1)).take most).length) := Lib.hid (by rw [HNX.out]; exact HNO.out)
       clear hb p0 p1 p2 p3
       go_wp2_with fail
       go_roundw
       case rel => exact ⟨i + 1, no, Ao, co, by omega, rfl, by go_num, hno, HN1, HW1, KS1, KX1, HB1⟩
       case measure => simp [intOf]; omega
      | true =>
       have HNX : Hid ((fmR T U m d l (i + 1)).take most = (fmR T U m d l i).take most ++ (extR T U m d (l ++ [(i : Int)])).take (most - no)) := Lib.hid (by
        rw [fmR_succ, ← HQ.out, if_pos rfl, List.take_append, ← HFM.out.2])
       obtain ⟨mo, hmo⟩ : ∃ mo, mo = most - no := ⟨_, rfl⟩
       have hmI : (most : Int) - (no : Int) = (mo : Int) := by omega
       have hmo1 : 1 ≤ mo := by omega
       have hmw : IntKind.i64.wrap (mo : Int) = (mo : Int) := IntWalk.i64_in _ (by omega)
       have hmo2 : mo ≤ 2000 := by omega
       rw [← hmo] at HNX
       clear hmo
       go_upto_region 8 with (go_at_call 76; refine HFT.out.mono ?_; rintro e w0 ⟨rfl, hb⟩)
       have HB0 := Lib.hid (bw_call HBw.out hb)
       have KS0 := Lib.hid (KSw.out.below hb KSw.out.lt)
       have KX0 := Lib.hid (KXw.out.below hb KXw.out.lt)
       have HW0 : Hid (WaysAt w0 w.heap.size Ao co ((fmR T U m d l i).take most)) := Lib.hid (HWS.out.below hb)
       clear hb p0 p1 p2 p3 KSw KXw HBw HWS
       obtain ⟨out, hout⟩ : ∃ o, o = (fmR T U m d l i).take most := ⟨_, rfl⟩
       rw [← hout] at HW0 HNX
       have HNO2 : Hid (no = out.length) := Lib.hid (by rw [hout]; exact HNO.out)
       obtain ⟨ext, hext⟩ : ∃ o, o = (extR T U m d (l ++ [(i : Int)])).take mo := ⟨_, rfl⟩
       have HFX : Hid (∀ (A' : Option Addr) (c' : Nat) (W : World), Below w.heap.size w W → Reads W W.heap.size 1 A' (k + 1) (ZL (l ++ [(i : Int)])) → Calls Tryz.prog 42 #[.agg #[.int .i64 (m : Int), .slice A n c], .agg #[.int .i64 M, .slice Ax nx cx], .slice A' (k + 1) c', .int .i64 (mo : Int)] W (RowsPost W ext)) := Lib.hid fun A' c' W hW hr => by
        rw [hext]
        exact HIH.out A' c' i mo W hW hmo1 hmo2 hr
       have HEL : Hid (ext.length ≤ 2000) := Lib.hid (by rw [hext, List.length_take]; omega)
       rw [← hext] at HNX
       clear hout hext HNO HFM
       have K10w0 : Hid (CellQ w0 ⟨b1, 0, none⟩ (.int .i64 (m : Int))) := Lib.hid ⟨KS0.out.cell 0, KS0.out.lt⟩
       have K11w0 : Hid (CellQ w0 ⟨b1, 1, none⟩ (.slice A n c)) := Lib.hid ⟨KS0.out.cell 1, KS0.out.lt⟩
       have K20w0 : Hid (CellQ w0 ⟨b2, 0, none⟩ (.int .i64 M)) := Lib.hid ⟨KX0.out.cell 0, KX0.out.lt⟩
       have K21w0 : Hid (CellQ w0 ⟨b2, 1, none⟩ (.slice Ax nx cx)) := Lib.hid ⟨KX0.out.cell 1, KX0.out.lt⟩
       have HQw0 : Hid (Below w0.heap.size w0 w0) := Lib.hid (Below.refl _ _)
       refine wp_region_till (S := fun w' => w'.cell? ⟨b1, 0, none⟩ = some (.int .i64 (m : Int)) ∧ w'.cell? ⟨b1, 1, none⟩ = some (.slice A n c) ∧ w'.cell? ⟨b2, 0, none⟩ = some (.int .i64 M) ∧ w'.cell? ⟨b2, 1, none⟩ = some (.slice Ax nx cx)) 15 (by kernel_rfl) ⟨(K10w0.out.drew.c), (K11w0.out.drew.c), (K20w0.out.drew.c), (K21w0.out.drew.c)⟩ (fun hHeld => ?_)
       refine tKk 0 ?_; (try simp only [zQ])
       refine tKk 1 ?_; (try simp only [zQ])
       refine tKk 2 ?_; (try simp only [zQ])
       refine tKk 4 ?_; (try simp only [zQ])
       refine tKk 6 ?_; (try simp only [zQ])
       refine tKk 9 ?_; (try simp only [zQ])
       refine tKk 10 ?_; (try simp only [zQ])
       refine tKk 11 ?_; (try simp only [zQ])
       refine tKk 12 ?_; (try simp only [zQ])
       refine Till.ready (rs := [3, 7]) (by kernel_rfl) (by simp) ?_
       refine TillEach.cons rfl (fun K hK => ?_) ?_
       · go_simp
         go_wp2_with fail
         obtain ⟨v3, hvU⟩ : ∃ U, U = (w0.alloc (.cells #[] 3)).drew := ⟨_, rfl⟩
         have HQv3 : Hid (Below w0.heap.size w0 v3) := by subst hvU; first | exact Lib.hid (bw_alloc HQw0.out _) | exact Lib.hid (bw_drew (bw_alloc HQw0.out _))
         have KEv3 : Hid (Blk v3 w0.heap.size 3 #[]) := by subst hvU; first | exact Lib.hid (Blk.new _ _ _) | exact Lib.hid (Blk.new _ _ _).drew
         try (have KIv3 : Hid (Blk v3 g7 3 #[.int .i64 (i : Int)]) := (by subst hvU; exact Lib.hid (KIw0.out.alloc _)))
         rw [← hvU]
         obtain ⟨g3, hg3⟩ : ∃ g, g = w0.heap.size := ⟨_, rfl⟩
         have HG3 : Hid (w0.heap.size ≤ g3) := Lib.hid (by rw [hg3]; exact HQw0.out.size)
         rw [← hg3] at KEv3
         simp only [← hg3]
         clear hvU hg3
         have K10v3 : Hid (CellQ v3 ⟨b1, 0, none⟩ (.int .i64 (m : Int))) := Lib.hid (K10w0.out.below HQv3.out)
         have K11v3 : Hid (CellQ v3 ⟨b1, 1, none⟩ (.slice A n c)) := Lib.hid (K11w0.out.below HQv3.out)
         have K20v3 : Hid (CellQ v3 ⟨b2, 0, none⟩ (.int .i64 M)) := Lib.hid (K20w0.out.below HQv3.out)
         have K21v3 : Hid (CellQ v3 ⟨b2, 1, none⟩ (.slice Ax nx cx)) := Lib.hid (K21w0.out.below HQv3.out)
         refine hK.out _ _ ?_ (fun hHeld => ?_)
         · exact ⟨(K10v3.out.c), (K11v3.out.c), (K20v3.out.c), (K21v3.out.c)⟩
         clear hK K
         (try simp only [zQ])
         refine Till.ready (rs := [5, 7]) (by kernel_rfl) (by simp) ?_
         refine TillEach.cons rfl (fun K hK => ?_) ?_
         · refine step_append_sl _ (by rfl) (.tmp 42) (.tmp 43) _ (by rfl) w0.heap.size 3 i0 _ 1 8 Tryz.underlying25 hi0 hz0 hz1 hz2 rfl (by omega) (.slice (some ⟨g3, 0, none⟩) 0 0) 0 [] (by rfl) (own_at KEv3.out HG3.out) w.heap.size At k ct (ZL l) (by rfl) (HL.out.below (bw_call HB0.out HQv3.out)) (zl_oneF l) (by simp only [maxLen]; omega) (by omega) HQv3.out.size ?_
           intro A5 c5 v4 hown5 hg5 hat5
           have HQv4 : Hid (Below w0.heap.size w0 v4) := Lib.hid (bw_grow HQv3.out hg5 fun x hx => by
            have e : g3 = x := by simpa [Value.ownBlock] using hx
            rw [← e]
            exact HG3.out)
           have KTv4 : Hid (IR v4 w0.heap.size A5 c5 l) := Lib.hid (ir_of hown5 (by rw [HK.out]; omega) (by simp))
           try (have KIv4 : Hid (Blk v4 g7 3 #[.int .i64 (i : Int)]) := Lib.hid (KIv3.out.grown hg5 (by simp [Value.ownBlock]; exact fun e => blk_ne47 KIv3.out KEv3.out (by simp) e)))
           clear hown5 hg5 hat5
           have K10v4 : Hid (CellQ v4 ⟨b1, 0, none⟩ (.int .i64 (m : Int))) := Lib.hid (K10w0.out.below HQv4.out)
           have K11v4 : Hid (CellQ v4 ⟨b1, 1, none⟩ (.slice A n c)) := Lib.hid (K11w0.out.below HQv4.out)
           have K20v4 : Hid (CellQ v4 ⟨b2, 0, none⟩ (.int .i64 M)) := Lib.hid (K20w0.out.below HQv4.out)
           have K21v4 : Hid (CellQ v4 ⟨b2, 1, none⟩ (.slice Ax nx cx)) := Lib.hid (K21w0.out.below HQv4.out)
           refine hK.out _ _ ?_ (fun hHeld => ?_)
           · exact ⟨(K10v4.out.c), (K11v4.out.c), (K20v4.out.c), (K21v4.out.c)⟩
           clear hK K
           (try simp only [zQ])
           refine Till.ready (rs := [7]) (by kernel_rfl) (by simp) ?_
           refine TillEach.cons rfl (fun K hK => ?_) ?_
           · go_simp
             go_wp2_with fail
             obtain ⟨v5, hvU⟩ : ∃ U, U = (v4.alloc (.cells #[.int .i64 (i : Int)] 3)) := ⟨_, rfl⟩
             have HQv5 : Hid (Below w0.heap.size w0 v5) := by subst hvU; first | exact Lib.hid (bw_alloc HQv4.out _) | exact Lib.hid (bw_drew (bw_alloc HQv4.out _))
             have KIv5 : Hid (Blk v5 v4.heap.size 3 #[.int .i64 (i : Int)]) := by subst hvU; first | exact Lib.hid (Blk.new _ _ _) | exact Lib.hid (Blk.new _ _ _).drew
             try (have KEv5 : Hid (Blk v5 g3 3 #[]) := (by subst hvU; exact Lib.hid (KEv4.out.alloc _)))
             try (have KTv5 : Hid (IR v5 w0.heap.size A5 c5 l) := (by subst hvU; exact Lib.hid (KTv4.out.alloc _)))
             rw [← hvU]
             obtain ⟨g7, hg7⟩ : ∃ g, g = v4.heap.size := ⟨_, rfl⟩
             have HG7 : Hid (w0.heap.size ≤ g7) := Lib.hid (by rw [hg7]; exact HQv4.out.size)
             rw [← hg7] at KIv5
             simp only [← hg7]
             clear hvU hg7
             have K10v5 : Hid (CellQ v5 ⟨b1, 0, none⟩ (.int .i64 (m : Int))) := Lib.hid (K10w0.out.below HQv5.out)
             have K11v5 : Hid (CellQ v5 ⟨b1, 1, none⟩ (.slice A n c)) := Lib.hid (K11w0.out.below HQv5.out)
             have K20v5 : Hid (CellQ v5 ⟨b2, 0, none⟩ (.int .i64 M)) := Lib.hid (K20w0.out.below HQv5.out)
             have K21v5 : Hid (CellQ v5 ⟨b2, 1, none⟩ (.slice Ax nx cx)) := Lib.hid (K21w0.out.below HQv5.out)
             refine hK.out _ _ ?_ (fun hHeld => ?_)
             · exact ⟨(K10v5.out.c), (K11v5.out.c), (K20v5.out.c), (K21v5.out.c)⟩
             clear hK K
             (try simp only [zQ])
             refine Till.ready (rs := [8]) (by kernel_rfl) (by simp) ?_
             refine TillEach.cons rfl (fun K hK => ?_) ?_
             · refine step_append_sl _ (by rfl) (.tmp 44) (.tmp 46) _ (by rfl) w0.heap.size 3 i0 _ 1 8 Tryz.underlying25 hi0 hz0 hz1 hz2 rfl (by omega) (.slice A5 (0 + k) c5) k (ZL l) (by rw [Nat.zero_add]; rfl) (by have h := KTv5.out; unfold IR at h; rw [← HK.out] at h; rw [Nat.zero_add]; exact h) v5.heap.size (some ⟨g7, 0, none⟩) 1 1 [.int .i64 (i : Int)] (by rfl) (reads_blk47 KIv5.out) (by simp [Value.oneCell']) (by simp only [maxLen]; omega) (by omega) HQv5.out.size ?_
               intro A8 c8 v6 hown5 hg5 hat5
               have HQv6 : Hid (Below w0.heap.size w0 v6) := Lib.hid (bw_grow HQv5.out hg5 fun x hx => (World.ownsRow.lt KTv5.out x (by rw [← HK.out, ← Nat.zero_add k]; exact hx)).1)
               have KFv6 : Hid (Reads v6 v6.heap.size 1 A8 (k + 1) (ZL (l ++ [(i : Int)]))) := Lib.hid (by
                have := Reads.of_own hown5
                unfold ZL at this ⊢
                rw [List.map_append]
                exact this)
               clear hown5 hg5 hat5
               have K10v6 : Hid (CellQ v6 ⟨b1, 0, none⟩ (.int .i64 (m : Int))) := Lib.hid (K10w0.out.below HQv6.out)
               have K11v6 : Hid (CellQ v6 ⟨b1, 1, none⟩ (.slice A n c)) := Lib.hid (K11w0.out.below HQv6.out)
               have K20v6 : Hid (CellQ v6 ⟨b2, 0, none⟩ (.int .i64 M)) := Lib.hid (K20w0.out.below HQv6.out)
               have K21v6 : Hid (CellQ v6 ⟨b2, 1, none⟩ (.slice Ax nx cx)) := Lib.hid (K21w0.out.below HQv6.out)
               refine hK.out _ _ ?_ (fun hHeld => ?_)
               · exact ⟨(K10v6.out.c), (K11v6.out.c), (K20v6.out.c), (K21v6.out.c)⟩
               clear hK K
               (try simp only [zQ])
               refine Till.ready (rs := [13]) (by kernel_rfl) (by simp) ?_
               refine TillEach.cons rfl (fun K hK => ?_) ?_
               · go_simp
                 go_wp2_with (go_at_call 42; refine (HFX.out A8 c8 v6 (bw_call HB0.out HQv6.out) KFv6.out).mono ?_; rintro e v7 ⟨A9, c9, rfl, hws, hb⟩)
                 have K10v7 := Lib.hid (K10v6.out.below hb)
                 have K11v7 := Lib.hid (K11v6.out.below hb)
                 have K20v7 := Lib.hid (K20v6.out.below hb)
                 have K21v7 := Lib.hid (K21v6.out.below hb)
                 have KRv7 : Hid (WaysAt v7 w0.heap.size A9 c9 ext) := Lib.hid (hws.base HQv6.out.size)
                 have HQv7 := Lib.hid (bw_call HQv6.out hb)
                 clear hb K10v6 K11v6 K20v6 K21v6 HQv6
                 refine hK.out _ _ ?_ (fun hHeld => ?_)
                 · exact ⟨(K10v7.out.c), (K11v7.out.c), (K20v7.out.c), (K21v7.out.c)⟩
                 clear hK K
                 (try simp only [zQ])
                 refine Till.ready (rs := [14]) (by kernel_rfl) (by simp) ?_
                 refine TillEach.cons rfl (fun K hK => ?_) ?_
                 · obtain ⟨L, hL, hLo, hLi⟩ := (HW0.out.below HQv7.out).ex
                   obtain ⟨L2, hL2, hLo2, hLi2⟩ := KRv7.out.ex
                   rw [← HNO2.out] at hLo
                   have HLo := Lib.hid hLo
                   clear hLo
                   refine step_append_sl _ (by rfl) (.tmp 39) (.tmp 52) _ (by rfl) w.heap.size 25 i3 _ 1 24 Tryz.underlying33 hi3 jz0 jz1 jz2 rfl (by omega) (.slice Ao no co) no (L.map wayC) (by rfl) HLo.out v7.heap.size A9 ext.length c9 (L2.map wayC) (by rfl) (Reads.of_own hLo2) (fun u hu => by obtain ⟨y, _, rfl⟩ := List.mem_map.1 hu; rfl) (by have := HEL.out; simp only [maxLen]; omega) (by have := HEL.out; omega) (bw_call HB0.out HQv7.out).size ?_
                   intro A6 c6 v8 hown5 hg5 hat5
                   have HWN : Hid (WaysAt v8 w.heap.size A6 c6 (out ++ ext)) := Lib.hid (WaysAt.append HNO2.out rfl HB0.out.size hL hLi HLo.out hL2 hLi2 hg5 hown5)
                   have HBV : Hid (Below w.heap.size w v8) := Lib.hid (bw_grow (bw_call HB0.out HQv7.out) hg5 fun x hx => (World.ownsRow.lt HLo.out x hx).1)
                   have KSV : Hid (Blk v8 b1 24 #[.int .i64 (m : Int), .slice A n c]) := Lib.hid ((KS0.out.below HQv7.out KS0.out.lt).grown hg5 (fun e => own_blk_ne HLo.out (KS0.out.below HQv7.out KS0.out.lt) (by decide) e.symm))
                   have KXV : Hid (Blk v8 b2 24 #[.int .i64 M, .slice Ax nx cx]) := Lib.hid ((KX0.out.below HQv7.out KX0.out.lt).grown hg5 (fun e => own_blk_ne HLo.out (KX0.out.below HQv7.out KX0.out.lt) (by decide) e.symm))
                   clear hown5 hg5 hat5
                   have K10v8 : Hid (CellQ v8 ⟨b1, 0, none⟩ (.int .i64 (m : Int))) := Lib.hid ⟨KSV.out.cell 0, KSV.out.lt⟩
                   have K11v8 : Hid (CellQ v8 ⟨b1, 1, none⟩ (.slice A n c)) := Lib.hid ⟨KSV.out.cell 1, KSV.out.lt⟩
                   have K20v8 : Hid (CellQ v8 ⟨b2, 0, none⟩ (.int .i64 M)) := Lib.hid ⟨KXV.out.cell 0, KXV.out.lt⟩
                   have K21v8 : Hid (CellQ v8 ⟨b2, 1, none⟩ (.slice Ax nx cx)) := Lib.hid ⟨KXV.out.cell 1, KXV.out.lt⟩
                   refine hK.out _ _ ?_ (fun hHeld => ?_)
                   · exact ⟨(K10v8.out.c), (K11v8.out.c), (K20v8.out.c), (K21v8.out.c)⟩
                   clear hK K
                   (try simp only [zQ])
                   refine Till.ready (rs := [15]) (by kernel_rfl) (by simp) ?_
                   refine TillEach.last rfl (fun K hK => ?_)
                   · go_simp
                     refine hK.out _ _ ?_
                     clear hK K
                     (try simp only [zQ])
                     refine Till.done (by kernel_rfl) ?_ _
                     have HW1 : Hid (WaysAt v8 w.heap.size A6 c6 ((fmR T U m d l (i + 1)).take most)) := Lib.hid (by rw [HNX.out]; exact HWN.out)
                     have HN1 : Hid (no + ext.length = ((fmR T U m d l (i + 1)).take most).length) := Lib.hid (by rw [HNX.out, List.length_append, ← HNO2.out])
                     have hle : no + ext.length ≤ most := by
                      have := HN1.out
                      rw [List.length_take] at this
                      omega
                     go_wp2_with fail
                     go_roundw
                     case rel => exact ⟨i + 1, no + ext.length, A6, c6, by omega, rfl, by go_num, hle, HN1, HW1, KSV, KXV, HBV⟩
                     case measure => simp [intOf]; omega
                 exact TillEach.nil
               exact TillEach.nil
             exact TillEach.nil
           exact TillEach.nil
         refine TillEach.cons rfl (fun K hK => ?_) ?_
         · go_simp
           go_wp2_with fail
           obtain ⟨v4, hvU⟩ : ∃ U, U = (v3.alloc (.cells #[.int .i64 (i : Int)] 3)) := ⟨_, rfl⟩
           have HQv4 : Hid (Below w0.heap.size w0 v4) := by subst hvU; first | exact Lib.hid (bw_alloc HQv3.out _) | exact Lib.hid (bw_drew (bw_alloc HQv3.out _))
           have KIv4 : Hid (Blk v4 v3.heap.size 3 #[.int .i64 (i : Int)]) := by subst hvU; first | exact Lib.hid (Blk.new _ _ _) | exact Lib.hid (Blk.new _ _ _).drew
           try (have KEv4 : Hid (Blk v4 g3 3 #[]) := (by subst hvU; exact Lib.hid (KEv3.out.alloc _)))
           try (have KTv4 : Hid (IR v4 w0.heap.size A5 c5 l) := (by subst hvU; exact Lib.hid (KTv3.out.alloc _)))
           rw [← hvU]
           obtain ⟨g7, hg7⟩ : ∃ g, g = v3.heap.size := ⟨_, rfl⟩
           have HG7 : Hid (w0.heap.size ≤ g7) := Lib.hid (by rw [hg7]; exact HQv3.out.size)
           rw [← hg7] at KIv4
           simp only [← hg7]
           clear hvU hg7
           have K10v4 : Hid (CellQ v4 ⟨b1, 0, none⟩ (.int .i64 (m : Int))) := Lib.hid (K10w0.out.below HQv4.out)
           have K11v4 : Hid (CellQ v4 ⟨b1, 1, none⟩ (.slice A n c)) := Lib.hid (K11w0.out.below HQv4.out)
           have K20v4 : Hid (CellQ v4 ⟨b2, 0, none⟩ (.int .i64 M)) := Lib.hid (K20w0.out.below HQv4.out)
           have K21v4 : Hid (CellQ v4 ⟨b2, 1, none⟩ (.slice Ax nx cx)) := Lib.hid (K21w0.out.below HQv4.out)
           refine hK.out _ _ ?_ (fun hHeld => ?_)
           · exact ⟨(K10v4.out.c), (K11v4.out.c), (K20v4.out.c), (K21v4.out.c)⟩
           clear hK K
           (try simp only [zQ])
           refine Till.ready (rs := [5]) (by kernel_rfl) (by simp) ?_
           refine TillEach.cons rfl (fun K hK => ?_) ?_
           · refine step_append_sl _ (by rfl) (.tmp 42) (.tmp 43) _ (by rfl) w0.heap.size 3 i0 _ 1 8 Tryz.underlying25 hi0 hz0 hz1 hz2 rfl (by omega) (.slice (some ⟨g3, 0, none⟩) 0 0) 0 [] (by rfl) (own_at KEv4.out HG3.out) w.heap.size At k ct (ZL l) (by rfl) (HL.out.below (bw_call HB0.out HQv4.out)) (zl_oneF l) (by simp only [maxLen]; omega) (by omega) HQv4.out.size ?_
             intro A5 c5 v5 hown5 hg5 hat5
             have HQv5 : Hid (Below w0.heap.size w0 v5) := Lib.hid (bw_grow HQv4.out hg5 fun x hx => by
              have e : g3 = x := by simpa [Value.ownBlock] using hx
              rw [← e]
              exact HG3.out)
             have KTv5 : Hid (IR v5 w0.heap.size A5 c5 l) := Lib.hid (ir_of hown5 (by rw [HK.out]; omega) (by simp))
             try (have KIv5 : Hid (Blk v5 g7 3 #[.int .i64 (i : Int)]) := Lib.hid (KIv4.out.grown hg5 (by simp [Value.ownBlock]; exact fun e => blk_ne47 KIv4.out KEv4.out (by simp) e)))
             clear hown5 hg5 hat5
             have K10v5 : Hid (CellQ v5 ⟨b1, 0, none⟩ (.int .i64 (m : Int))) := Lib.hid (K10w0.out.below HQv5.out)
             have K11v5 : Hid (CellQ v5 ⟨b1, 1, none⟩ (.slice A n c)) := Lib.hid (K11w0.out.below HQv5.out)
             have K20v5 : Hid (CellQ v5 ⟨b2, 0, none⟩ (.int .i64 M)) := Lib.hid (K20w0.out.below HQv5.out)
             have K21v5 : Hid (CellQ v5 ⟨b2, 1, none⟩ (.slice Ax nx cx)) := Lib.hid (K21w0.out.below HQv5.out)
             refine hK.out _ _ ?_ (fun hHeld => ?_)
             · exact ⟨(K10v5.out.c), (K11v5.out.c), (K20v5.out.c), (K21v5.out.c)⟩
             clear hK K
             (try simp only [zQ])
             refine Till.ready (rs := [8]) (by kernel_rfl) (by simp) ?_
             refine TillEach.cons rfl (fun K hK => ?_) ?_
             · refine step_append_sl _ (by rfl) (.tmp 44) (.tmp 46) _ (by rfl) w0.heap.size 3 i0 _ 1 8 Tryz.underlying25 hi0 hz0 hz1 hz2 rfl (by omega) (.slice A5 (0 + k) c5) k (ZL l) (by rw [Nat.zero_add]; rfl) (by have h := KTv5.out; unfold IR at h; rw [← HK.out] at h; rw [Nat.zero_add]; exact h) v5.heap.size (some ⟨g7, 0, none⟩) 1 1 [.int .i64 (i : Int)] (by rfl) (reads_blk47 KIv5.out) (by simp [Value.oneCell']) (by simp only [maxLen]; omega) (by omega) HQv5.out.size ?_
               intro A8 c8 v6 hown5 hg5 hat5
               have HQv6 : Hid (Below w0.heap.size w0 v6) := Lib.hid (bw_grow HQv5.out hg5 fun x hx => (World.ownsRow.lt KTv5.out x (by rw [← HK.out, ← Nat.zero_add k]; exact hx)).1)
               have KFv6 : Hid (Reads v6 v6.heap.size 1 A8 (k + 1) (ZL (l ++ [(i : Int)]))) := Lib.hid (by
                have := Reads.of_own hown5
                unfold ZL at this ⊢
                rw [List.map_append]
                exact this)
               clear hown5 hg5 hat5
               have K10v6 : Hid (CellQ v6 ⟨b1, 0, none⟩ (.int .i64 (m : Int))) := Lib.hid (K10w0.out.below HQv6.out)
               have K11v6 : Hid (CellQ v6 ⟨b1, 1, none⟩ (.slice A n c)) := Lib.hid (K11w0.out.below HQv6.out)
               have K20v6 : Hid (CellQ v6 ⟨b2, 0, none⟩ (.int .i64 M)) := Lib.hid (K20w0.out.below HQv6.out)
               have K21v6 : Hid (CellQ v6 ⟨b2, 1, none⟩ (.slice Ax nx cx)) := Lib.hid (K21w0.out.below HQv6.out)
               refine hK.out _ _ ?_ (fun hHeld => ?_)
               · exact ⟨(K10v6.out.c), (K11v6.out.c), (K20v6.out.c), (K21v6.out.c)⟩
               clear hK K
               (try simp only [zQ])
               refine Till.ready (rs := [13]) (by kernel_rfl) (by simp) ?_
               refine TillEach.cons rfl (fun K hK => ?_) ?_
               · go_simp
                 go_wp2_with (go_at_call 42; refine (HFX.out A8 c8 v6 (bw_call HB0.out HQv6.out) KFv6.out).mono ?_; rintro e v7 ⟨A9, c9, rfl, hws, hb⟩)
                 have K10v7 := Lib.hid (K10v6.out.below hb)
                 have K11v7 := Lib.hid (K11v6.out.below hb)
                 have K20v7 := Lib.hid (K20v6.out.below hb)
                 have K21v7 := Lib.hid (K21v6.out.below hb)
                 have KRv7 : Hid (WaysAt v7 w0.heap.size A9 c9 ext) := Lib.hid (hws.base HQv6.out.size)
                 have HQv7 := Lib.hid (bw_call HQv6.out hb)
                 clear hb K10v6 K11v6 K20v6 K21v6 HQv6
                 refine hK.out _ _ ?_ (fun hHeld => ?_)
                 · exact ⟨(K10v7.out.c), (K11v7.out.c), (K20v7.out.c), (K21v7.out.c)⟩
                 clear hK K
                 (try simp only [zQ])
                 refine Till.ready (rs := [14]) (by kernel_rfl) (by simp) ?_
                 refine TillEach.cons rfl (fun K hK => ?_) ?_
                 · obtain ⟨L, hL, hLo, hLi⟩ := (HW0.out.below HQv7.out).ex
                   obtain ⟨L2, hL2, hLo2, hLi2⟩ := KRv7.out.ex
                   rw [← HNO2.out] at hLo
                   have HLo := Lib.hid hLo
                   clear hLo
                   refine step_append_sl _ (by rfl) (.tmp 39) (.tmp 52) _ (by rfl) w.heap.size 25 i3 _ 1 24 Tryz.underlying33 hi3 jz0 jz1 jz2 rfl (by omega) (.slice Ao no co) no (L.map wayC) (by rfl) HLo.out v7.heap.size A9 ext.length c9 (L2.map wayC) (by rfl) (Reads.of_own hLo2) (fun u hu => by obtain ⟨y, _, rfl⟩ := List.mem_map.1 hu; rfl) (by have := HEL.out; simp only [maxLen]; omega) (by have := HEL.out; omega) (bw_call HB0.out HQv7.out).size ?_
                   intro A6 c6 v8 hown5 hg5 hat5
                   have HWN : Hid (WaysAt v8 w.heap.size A6 c6 (out ++ ext)) := Lib.hid (WaysAt.append HNO2.out rfl HB0.out.size hL hLi HLo.out hL2 hLi2 hg5 hown5)
                   have HBV : Hid (Below w.heap.size w v8) := Lib.hid (bw_grow (bw_call HB0.out HQv7.out) hg5 fun x hx => (World.ownsRow.lt HLo.out x hx).1)
                   have KSV : Hid (Blk v8 b1 24 #[.int .i64 (m : Int), .slice A n c]) := Lib.hid ((KS0.out.below HQv7.out KS0.out.lt).grown hg5 (fun e => own_blk_ne HLo.out (KS0.out.below HQv7.out KS0.out.lt) (by decide) e.symm))
                   have KXV : Hid (Blk v8 b2 24 #[.int .i64 M, .slice Ax nx cx]) := Lib.hid ((KX0.out.below HQv7.out KX0.out.lt).grown hg5 (fun e => own_blk_ne HLo.out (KX0.out.below HQv7.out KX0.out.lt) (by decide) e.symm))
                   clear hown5 hg5 hat5
                   have K10v8 : Hid (CellQ v8 ⟨b1, 0, none⟩ (.int .i64 (m : Int))) := Lib.hid ⟨KSV.out.cell 0, KSV.out.lt⟩
                   have K11v8 : Hid (CellQ v8 ⟨b1, 1, none⟩ (.slice A n c)) := Lib.hid ⟨KSV.out.cell 1, KSV.out.lt⟩
                   have K20v8 : Hid (CellQ v8 ⟨b2, 0, none⟩ (.int .i64 M)) := Lib.hid ⟨KXV.out.cell 0, KXV.out.lt⟩
                   have K21v8 : Hid (CellQ v8 ⟨b2, 1, none⟩ (.slice Ax nx cx)) := Lib.hid ⟨KXV.out.cell 1, KXV.out.lt⟩
                   refine hK.out _ _ ?_ (fun hHeld => ?_)
                   · exact ⟨(K10v8.out.c), (K11v8.out.c), (K20v8.out.c), (K21v8.out.c)⟩
                   clear hK K
                   (try simp only [zQ])
                   refine Till.ready (rs := [15]) (by kernel_rfl) (by simp) ?_
                   refine TillEach.last rfl (fun K hK => ?_)
                   · go_simp
                     refine hK.out _ _ ?_
                     clear hK K
                     (try simp only [zQ])
                     refine Till.done (by kernel_rfl) ?_ _
                     have HW1 : Hid (WaysAt v8 w.heap.size A6 c6 ((fmR T U m d l (i + 1)).take most)) := Lib.hid (by rw [HNX.out]; exact HWN.out)
                     have HN1 : Hid (no + ext.length = ((fmR T U m d l (i + 1)).take most).length) := Lib.hid (by rw [HNX.out, List.length_append, ← HNO2.out])
                     have hle : no + ext.length ≤ most := by
                      have := HN1.out
                      rw [List.length_take] at this
                      omega
                     go_wp2_with fail
                     go_roundw
                     case rel => exact ⟨i + 1, no + ext.length, A6, c6, by omega, rfl, by go_num, hle, HN1, HW1, KSV, KXV, HBV⟩
                     case measure => simp [intOf]; omega
                 exact TillEach.nil
               exact TillEach.nil
             exact TillEach.nil
           exact TillEach.nil
         exact TillEach.nil
       refine TillEach.cons rfl (fun K hK => ?_) ?_
       · go_simp
         go_wp2_with fail
         obtain ⟨v3, hvU⟩ : ∃ U, U = (w0.alloc (.cells #[.int .i64 (i : Int)] 3)).drew := ⟨_, rfl⟩
         have HQv3 : Hid (Below w0.heap.size w0 v3) := by subst hvU; first | exact Lib.hid (bw_alloc HQw0.out _) | exact Lib.hid (bw_drew (bw_alloc HQw0.out _))
         have KIv3 : Hid (Blk v3 w0.heap.size 3 #[.int .i64 (i : Int)]) := by subst hvU; first | exact Lib.hid (Blk.new _ _ _) | exact Lib.hid (Blk.new _ _ _).drew
         try (have KEv3 : Hid (Blk v3 g3 3 #[]) := (by subst hvU; exact Lib.hid (KEw0.out.alloc _)))
         try (have KTv3 : Hid (IR v3 w0.heap.size A5 c5 l) := (by subst hvU; exact Lib.hid (KTw0.out.alloc _)))
         rw [← hvU]
         obtain ⟨g7, hg7⟩ : ∃ g, g = w0.heap.size := ⟨_, rfl⟩
         have HG7 : Hid (w0.heap.size ≤ g7) := Lib.hid (by rw [hg7]; exact HQw0.out.size)
         rw [← hg7] at KIv3
         simp only [← hg7]
         clear hvU hg7
         have K10v3 : Hid (CellQ v3 ⟨b1, 0, none⟩ (.int .i64 (m : Int))) := Lib.hid (K10w0.out.below HQv3.out)
         have K11v3 : Hid (CellQ v3 ⟨b1, 1, none⟩ (.slice A n c)) := Lib.hid (K11w0.out.below HQv3.out)
         have K20v3 : Hid (CellQ v3 ⟨b2, 0, none⟩ (.int .i64 M)) := Lib.hid (K20w0.out.below HQv3.out)
         have K21v3 : Hid (CellQ v3 ⟨b2, 1, none⟩ (.slice Ax nx cx)) := Lib.hid (K21w0.out.below HQv3.out)
         refine hK.out _ _ ?_ (fun hHeld => ?_)
         · exact ⟨(K10v3.out.c), (K11v3.out.c), (K20v3.out.c), (K21v3.out.c)⟩
         clear hK K
         (try simp only [zQ])
         refine Till.ready (rs := [3]) (by kernel_rfl) (by simp) ?_
         refine TillEach.cons rfl (fun K hK => ?_) ?_
         · go_simp
           go_wp2_with fail
           obtain ⟨v4, hvU⟩ : ∃ U, U = (v3.alloc (.cells #[] 3)) := ⟨_, rfl⟩
           have HQv4 : Hid (Below w0.heap.size w0 v4) := by subst hvU; first | exact Lib.hid (bw_alloc HQv3.out _) | exact Lib.hid (bw_drew (bw_alloc HQv3.out _))
           have KEv4 : Hid (Blk v4 v3.heap.size 3 #[]) := by subst hvU; first | exact Lib.hid (Blk.new _ _ _) | exact Lib.hid (Blk.new _ _ _).drew
           try (have KIv4 : Hid (Blk v4 g7 3 #[.int .i64 (i : Int)]) := (by subst hvU; exact Lib.hid (KIv3.out.alloc _)))
           rw [← hvU]
           obtain ⟨g3, hg3⟩ : ∃ g, g = v3.heap.size := ⟨_, rfl⟩
           have HG3 : Hid (w0.heap.size ≤ g3) := Lib.hid (by rw [hg3]; exact HQv3.out.size)
           rw [← hg3] at KEv4
           simp only [← hg3]
           clear hvU hg3
           have K10v4 : Hid (CellQ v4 ⟨b1, 0, none⟩ (.int .i64 (m : Int))) := Lib.hid (K10w0.out.below HQv4.out)
           have K11v4 : Hid (CellQ v4 ⟨b1, 1, none⟩ (.slice A n c)) := Lib.hid (K11w0.out.below HQv4.out)
           have K20v4 : Hid (CellQ v4 ⟨b2, 0, none⟩ (.int .i64 M)) := Lib.hid (K20w0.out.below HQv4.out)
           have K21v4 : Hid (CellQ v4 ⟨b2, 1, none⟩ (.slice Ax nx cx)) := Lib.hid (K21w0.out.below HQv4.out)
           refine hK.out _ _ ?_ (fun hHeld => ?_)
           · exact ⟨(K10v4.out.c), (K11v4.out.c), (K20v4.out.c), (K21v4.out.c)⟩
           clear hK K
           (try simp only [zQ])
           refine Till.ready (rs := [5]) (by kernel_rfl) (by simp) ?_
           refine TillEach.cons rfl (fun K hK => ?_) ?_
           · refine step_append_sl _ (by rfl) (.tmp 42) (.tmp 43) _ (by rfl) w0.heap.size 3 i0 _ 1 8 Tryz.underlying25 hi0 hz0 hz1 hz2 rfl (by omega) (.slice (some ⟨g3, 0, none⟩) 0 0) 0 [] (by rfl) (own_at KEv4.out HG3.out) w.heap.size At k ct (ZL l) (by rfl) (HL.out.below (bw_call HB0.out HQv4.out)) (zl_oneF l) (by simp only [maxLen]; omega) (by omega) HQv4.out.size ?_
             intro A5 c5 v5 hown5 hg5 hat5
             have HQv5 : Hid (Below w0.heap.size w0 v5) := Lib.hid (bw_grow HQv4.out hg5 fun x hx => by
              have e : g3 = x := by simpa [Value.ownBlock] using hx
              rw [← e]
              exact HG3.out)
             have KTv5 : Hid (IR v5 w0.heap.size A5 c5 l) := Lib.hid (ir_of hown5 (by rw [HK.out]; omega) (by simp))
             try (have KIv5 : Hid (Blk v5 g7 3 #[.int .i64 (i : Int)]) := Lib.hid (KIv4.out.grown hg5 (by simp [Value.ownBlock]; exact fun e => blk_ne47 KIv4.out KEv4.out (by simp) e)))
             clear hown5 hg5 hat5
             have K10v5 : Hid (CellQ v5 ⟨b1, 0, none⟩ (.int .i64 (m : Int))) := Lib.hid (K10w0.out.below HQv5.out)
             have K11v5 : Hid (CellQ v5 ⟨b1, 1, none⟩ (.slice A n c)) := Lib.hid (K11w0.out.below HQv5.out)
             have K20v5 : Hid (CellQ v5 ⟨b2, 0, none⟩ (.int .i64 M)) := Lib.hid (K20w0.out.below HQv5.out)
             have K21v5 : Hid (CellQ v5 ⟨b2, 1, none⟩ (.slice Ax nx cx)) := Lib.hid (K21w0.out.below HQv5.out)
             refine hK.out _ _ ?_ (fun hHeld => ?_)
             · exact ⟨(K10v5.out.c), (K11v5.out.c), (K20v5.out.c), (K21v5.out.c)⟩
             clear hK K
             (try simp only [zQ])
             refine Till.ready (rs := [8]) (by kernel_rfl) (by simp) ?_
             refine TillEach.cons rfl (fun K hK => ?_) ?_
             · refine step_append_sl _ (by rfl) (.tmp 44) (.tmp 46) _ (by rfl) w0.heap.size 3 i0 _ 1 8 Tryz.underlying25 hi0 hz0 hz1 hz2 rfl (by omega) (.slice A5 (0 + k) c5) k (ZL l) (by rw [Nat.zero_add]; rfl) (by have h := KTv5.out; unfold IR at h; rw [← HK.out] at h; rw [Nat.zero_add]; exact h) v5.heap.size (some ⟨g7, 0, none⟩) 1 1 [.int .i64 (i : Int)] (by rfl) (reads_blk47 KIv5.out) (by simp [Value.oneCell']) (by simp only [maxLen]; omega) (by omega) HQv5.out.size ?_
               intro A8 c8 v6 hown5 hg5 hat5
               have HQv6 : Hid (Below w0.heap.size w0 v6) := Lib.hid (bw_grow HQv5.out hg5 fun x hx => (World.ownsRow.lt KTv5.out x (by rw [← HK.out, ← Nat.zero_add k]; exact hx)).1)
               have KFv6 : Hid (Reads v6 v6.heap.size 1 A8 (k + 1) (ZL (l ++ [(i : Int)]))) := Lib.hid (by
                have := Reads.of_own hown5
                unfold ZL at this ⊢
                rw [List.map_append]
                exact this)
               clear hown5 hg5 hat5
               have K10v6 : Hid (CellQ v6 ⟨b1, 0, none⟩ (.int .i64 (m : Int))) := Lib.hid (K10w0.out.below HQv6.out)
               have K11v6 : Hid (CellQ v6 ⟨b1, 1, none⟩ (.slice A n c)) := Lib.hid (K11w0.out.below HQv6.out)
               have K20v6 : Hid (CellQ v6 ⟨b2, 0, none⟩ (.int .i64 M)) := Lib.hid (K20w0.out.below HQv6.out)
               have K21v6 : Hid (CellQ v6 ⟨b2, 1, none⟩ (.slice Ax nx cx)) := Lib.hid (K21w0.out.below HQv6.out)
               refine hK.out _ _ ?_ (fun hHeld => ?_)
               · exact ⟨(K10v6.out.c), (K11v6.out.c), (K20v6.out.c), (K21v6.out.c)⟩
               clear hK K
               (try simp only [zQ])
               refine Till.ready (rs := [13]) (by kernel_rfl) (by simp) ?_
               refine TillEach.cons rfl (fun K hK => ?_) ?_
               · go_simp
                 go_wp2_with (go_at_call 42; refine (HFX.out A8 c8 v6 (bw_call HB0.out HQv6.out) KFv6.out).mono ?_; rintro e v7 ⟨A9, c9, rfl, hws, hb⟩)
                 have K10v7 := Lib.hid (K10v6.out.below hb)
                 have K11v7 := Lib.hid (K11v6.out.below hb)
                 have K20v7 := Lib.hid (K20v6.out.below hb)
                 have K21v7 := Lib.hid (K21v6.out.below hb)
                 have KRv7 : Hid (WaysAt v7 w0.heap.size A9 c9 ext) := Lib.hid (hws.base HQv6.out.size)
                 have HQv7 := Lib.hid (bw_call HQv6.out hb)
                 clear hb K10v6 K11v6 K20v6 K21v6 HQv6
                 refine hK.out _ _ ?_ (fun hHeld => ?_)
                 · exact ⟨(K10v7.out.c), (K11v7.out.c), (K20v7.out.c), (K21v7.out.c)⟩
                 clear hK K
                 (try simp only [zQ])
                 refine Till.ready (rs := [14]) (by kernel_rfl) (by simp) ?_
                 refine TillEach.cons rfl (fun K hK => ?_) ?_
                 · obtain ⟨L, hL, hLo, hLi⟩ := (HW0.out.below HQv7.out).ex
                   obtain ⟨L2, hL2, hLo2, hLi2⟩ := KRv7.out.ex
                   rw [← HNO2.out] at hLo
                   have HLo := Lib.hid hLo
                   clear hLo
                   refine step_append_sl _ (by rfl) (.tmp 39) (.tmp 52) _ (by rfl) w.heap.size 25 i3 _ 1 24 Tryz.underlying33 hi3 jz0 jz1 jz2 rfl (by omega) (.slice Ao no co) no (L.map wayC) (by rfl) HLo.out v7.heap.size A9 ext.length c9 (L2.map wayC) (by rfl) (Reads.of_own hLo2) (fun u hu => by obtain ⟨y, _, rfl⟩ := List.mem_map.1 hu; rfl) (by have := HEL.out; simp only [maxLen]; omega) (by have := HEL.out; omega) (bw_call HB0.out HQv7.out).size ?_
                   intro A6 c6 v8 hown5 hg5 hat5
                   have HWN : Hid (WaysAt v8 w.heap.size A6 c6 (out ++ ext)) := Lib.hid (WaysAt.append HNO2.out rfl HB0.out.size hL hLi HLo.out hL2 hLi2 hg5 hown5)
                   have HBV : Hid (Below w.heap.size w v8) := Lib.hid (bw_grow (bw_call HB0.out HQv7.out) hg5 fun x hx => (World.ownsRow.lt HLo.out x hx).1)
                   have KSV : Hid (Blk v8 b1 24 #[.int .i64 (m : Int), .slice A n c]) := Lib.hid ((KS0.out.below HQv7.out KS0.out.lt).grown hg5 (fun e => own_blk_ne HLo.out (KS0.out.below HQv7.out KS0.out.lt) (by decide) e.symm))
                   have KXV : Hid (Blk v8 b2 24 #[.int .i64 M, .slice Ax nx cx]) := Lib.hid ((KX0.out.below HQv7.out KX0.out.lt).grown hg5 (fun e => own_blk_ne HLo.out (KX0.out.below HQv7.out KX0.out.lt) (by decide) e.symm))
                   clear hown5 hg5 hat5
                   have K10v8 : Hid (CellQ v8 ⟨b1, 0, none⟩ (.int .i64 (m : Int))) := Lib.hid ⟨KSV.out.cell 0, KSV.out.lt⟩
                   have K11v8 : Hid (CellQ v8 ⟨b1, 1, none⟩ (.slice A n c)) := Lib.hid ⟨KSV.out.cell 1, KSV.out.lt⟩
                   have K20v8 : Hid (CellQ v8 ⟨b2, 0, none⟩ (.int .i64 M)) := Lib.hid ⟨KXV.out.cell 0, KXV.out.lt⟩
                   have K21v8 : Hid (CellQ v8 ⟨b2, 1, none⟩ (.slice Ax nx cx)) := Lib.hid ⟨KXV.out.cell 1, KXV.out.lt⟩
                   refine hK.out _ _ ?_ (fun hHeld => ?_)
                   · exact ⟨(K10v8.out.c), (K11v8.out.c), (K20v8.out.c), (K21v8.out.c)⟩
                   clear hK K
                   (try simp only [zQ])
                   refine Till.ready (rs := [15]) (by kernel_rfl) (by simp) ?_
                   refine TillEach.last rfl (fun K hK => ?_)
                   · go_simp
                     refine hK.out _ _ ?_
                     clear hK K
                     (try simp only [zQ])
                     refine Till.done (by kernel_rfl) ?_ _
                     have HW1 : Hid (WaysAt v8 w.heap.size A6 c6 ((fmR T U m d l (i + 1)).take most)) := Lib.hid (by rw [HNX.out]; exact HWN.out)
                     have HN1 : Hid (no + ext.length = ((fmR T U m d l (i + 1)).take most).length) := Lib.hid (by rw [HNX.out, List.length_append, ← HNO2.out])
                     have hle : no + ext.length ≤ most := by
                      have := HN1.out
                      rw [List.length_take] at this
                      omega
                     go_wp2_with fail
                     go_roundw
                     case rel => exact ⟨i + 1, no + ext.length, A6, c6, by omega, rfl, by go_num, hle, HN1, HW1, KSV, KXV, HBV⟩
                     case measure => simp [intOf]; omega
                 exact TillEach.nil
               exact TillEach.nil
             exact TillEach.nil
           exact TillEach.nil
         exact TillEach.nil
       exact TillEach.nil
    · have hnI : ¬ (no : Int) < (most : Int) := by omega
      have HF : Hid (R = (fmR T U m d l i).take most) := Lib.hid (by
       rw [HR.out, HEX.out]
       obtain ⟨t, ht⟩ := fmR_pre T U m d l him
       have := HNO.out
       rw [List.length_take] at this
       rw [ht, List.take_append_of_le_length (by omega)])
      go_wp2_with fail
      go_ret
      exact ⟨Ao, co, by have h := HNO.out; rw [← HF.out] at h; rw [← h]; rfl, by rw [HF.out]; exact HWS.out, HBw.out⟩
  · obtain rfl : i = m := by omega
    have hiI : ¬ (i : Int) < (i : Int) := by omega
    have HF : Hid (R = (fmR T U i d l i).take most) := Lib.hid (by rw [HR.out, HEX.out])
    go_wp2_with fail
    go_ret
    exact ⟨Ao, co, by have h := HNO.out; rw [← HF.out] at h; rw [← h]; rfl, by rw [HF.out]; exact HWS.out, HBw.out⟩
theorem find_any (m : Nat) (M : Int) (A Ax : Option Addr) (c cx : Nat) (T U : List Tri) (hT : T.length ≤ 1000) (hU : U.length ≤ 1000) (hm : m ≤ 1000) (hok : ∀ t ∈ T, 0 ≤ t.a ∧ 0 ≤ t.b ∧ 0 ≤ t.c) : ∀ (d : Nat) (At : Option Addr) (ct : Nat) (l : List Int) (most : Nat) (w : World), l.length + d = m → 1 ≤ most → most ≤ 2000 → TrisAt w w.heap.size A T.length T → TrisAt w w.heap.size Ax U.length U → Reads w w.heap.size 1 At l.length (ZL l) →
   Calls Tryz.prog 42 #[.agg #[.int .i64 (m : Int), .slice A T.length c], .agg #[.int .i64 M, .slice Ax U.length cx], .slice At l.length ct, .int .i64 (most : Int)] w (RowsPost w ((extR T U m d l).take most))
 | 0, At, ct, l, most, w, hl, h1, h2, ht, hu, hto => by
  rw [extR, List.take_of_length_le (by simp; omega)]
  exact findLeaf_any m M A Ax At c cx ct T.length U.length most l w (by omega) hm hto
 | d + 1, At, ct, l, most, w, hl, h1, h2, ht, hu, hto => findStep_any m M A Ax c cx T U hT hU hm hok d (find_any m M A Ax c cx T U hT hU hm hok d) At ct l most w hl h1 h2 ht hu hto
theorem onto_any (m : Nat) (A Ax : Option Addr) (c cx : Nat) (T U : List Tri) (most : Nat) (w : World) (hT : T.length ≤ 1000) (hl : T.length = U.length) (hm : m ≤ 1000) (hok : ∀ t ∈ T, 0 ≤ t.a ∧ 0 ≤ t.b ∧ 0 ≤ t.c) (h1 : 1 ≤ most) (h2 : most ≤ 2000) (ht : TrisAt w w.heap.size A T.length T) (hu : TrisAt w w.heap.size Ax U.length U) :
  Calls Tryz.prog 17 #[.agg #[.int .i64 (m : Int), .slice A T.length c], .agg #[.int .i64 (m : Int), .slice Ax U.length cx], .int .i64 (most : Int)] w (RowsPost w ((extR T U m m []).take most)) := by
 have HFN : Hid (∀ W, Below w.heap.size w W → Calls Tryz.prog 42 #[.agg #[.int .i64 (m : Int), .slice A T.length c], .agg #[.int .i64 (m : Int), .slice Ax U.length cx], .slice none 0 0, .int .i64 (most : Int)] W (RowsPost W ((extR T U m m []).take most))) := Lib.hid fun W hW =>
  find_any m m A Ax c cx T U hT (by omega) hm hok m none 0 [] most W (by simp) h1 h2 (tris_on hW ht) (tris_on hW hu) Reads.none_
 rw [← hl] at HFN ⊢
 obtain ⟨R, hR⟩ : ∃ R, R = (extR T U m m []).take most := ⟨_, rfl⟩
 obtain ⟨n, hn⟩ : ∃ k, k = T.length := ⟨_, rfl⟩
 rw [← hR] at HFN ⊢
 rw [← hn] at HFN ⊢
 clear hR hn ht hu hok hl
 go_enter Tryz.func17, Tryz.ntmps17
 go_upto_region 1 with (fail)
 obtain ⟨wA, hwA⟩ : ∃ X, X = (w.alloc (.cells #[.int .i64 (m : Int), .slice A n c] 24)).alloc (.cells #[.int .i64 (m : Int), .slice Ax n cx] 24) := ⟨_, rfl⟩
 have K1A : Hid (Blk wA w.heap.size 24 #[.int .i64 (m : Int), .slice A n c]) := by subst hwA; exact Lib.hid ((Blk.new _ _ _).alloc _)
 have K2A : Hid (Blk wA (w.heap.size + 1) 24 #[.int .i64 (m : Int), .slice Ax n cx]) := by subst hwA; exact Lib.hid (Blk.new_ (by rw [World.size_alloc]) _ _)
 have HBA : Hid (Below w.heap.size w wA) := by subst hwA; exact Lib.hid (bw_alloc (bw_alloc (Below.refl _ _) _) _)
 rw [← hwA]
 obtain ⟨b2, hb2⟩ : ∃ b, b = w.heap.size + 1 := ⟨_, rfl⟩
 obtain ⟨b1, hb1⟩ : ∃ b, b = w.heap.size := ⟨_, rfl⟩
 rw [← hb2] at K2A
 rw [← hb1] at K1A
 simp only [← hb2]
 simp only [← hb1]
 clear hwA hb1 hb2
 have p0 : wA.cell? ⟨b1, 0, none⟩ = some (.int .i64 (m : Int)) := K1A.out.cell 0
 have p1 : wA.cell? ⟨b1, 1, none⟩ = some (.slice A n c) := K1A.out.cell 1
 have p2 : wA.cell? ⟨b2, 0, none⟩ = some (.int .i64 (m : Int)) := K2A.out.cell 0
 have p3 : wA.cell? ⟨b2, 1, none⟩ = some (.slice Ax n cx) := K2A.out.cell 1
 have hmm : ((m : Int) != (m : Int)) = false := by simp
 have hnn : ((n : Int) != (n : Int)) = false := by simp
 have HFX := Lib.hid (HFN.out wA HBA.out)
 clear HFN
 go_wp2_with fail
 refine HFX.out.mono ?_
 rintro e w1 ⟨Ar, cr, rfl, hw, hb⟩
 have HB1 := Lib.hid (bw_call HBA.out hb)
 have HW1 : Hid (WaysAt w1 w.heap.size Ar cr R) := Lib.hid (hw.base HBA.out.size)
 clear hw hb
 go_wp2_with fail
 go_ret
 exact ⟨Ar, cr, rfl, HW1.out, HB1.out⟩
end Go.Proofs.YtiajlmajenabiaaGreat
