/- certify.Check and certify.Is, walked. No condition. -/
import Derived.Test.YtdmibpcpocacpaaLawAll
import Derived.WalkSpells
import Derived.Laws.StructEq
namespace Go.Proofs.Ytdmibpcpocacpaa
open Go.RowKit

/-- A witness as a value. -/
def wv (x : Int × Int × Int) : Value := .agg #[.int .i64 x.1, .int .i64 x.2.1, .int .i64 x.2.2]
theorem run_eq_wit (x y : Int × Int × Int) (w : World) : (binOp .eql 41 (wv x) (wv y)).run Try.prog w = .ok (.bool (decide (x = y))) w := by
  have h1 : Try.prog.underlying 41 = some (.struct (Try.prog.fieldsOf 41)) := by kernel_rfl
  have h2 : Try.prog.stoodInHeld 41 = false := by kernel_rfl
  unfold wv
  rw [run_eql_struct, run_equalIn_agg (P := Try.prog) w 9999 41 _ _ h1 h2]
  simp only [Program.fieldsOf, Try.underlying41]
  simp [Op.eqFields, go_sem, Try.underlying3, Result.andThen]
  obtain ⟨a, b, c⟩ := x
  obtain ⟨a', b', c'⟩ := y
  by_cases h3 : a = a'
  · by_cases h4 : b = b'
    · by_cases h5 : c = c'
      · simp [h3, h4, h5]
      · simp [h3, h4, h5]
    · simp [h3, h4]
  · simp [h3]
def CheckPost (w : World) (x : Int × Int × Int) (e : Ending) (w' : World) : Prop := e = .returned (wv x) ∧ Below w.heap.size w w'
set_option maxRecDepth 100000 in
set_option maxHeartbeats 2000000 in
theorem check_any (N : Int) (A : Option Addr) (n c : Nat) (T : List Tri) (w : World) (hn : n ≤ 1000) (ht : TrisAt w w.heap.size A n T) :
    Calls Try.prog 32 #[.agg #[.int .i64 N, .slice A n c]] w (CheckPost w (checkR N T)) := by
  have hb0 : Below w.heap.size w ((w.alloc (.cells #[.int .i64 N, .slice A n c] 24)).alloc (.cells #[.int .i64 0, .int .i64 0, .int .i64 0] 41)) := ((Below.refl _ _).alloc (Nat.le_refl _) _).alloc (by simp) _
  have hall := all_any N A n c T ((w.alloc (.cells #[.int .i64 N, .slice A n c] 24)).alloc (.cells #[.int .i64 0, .int .i64 0, .int .i64 0] 41)) hn ((ht.below hb0).more hb0.size)
  rw [allL_ref] at hall
  have hbr : Blk ((w.alloc (.cells #[.int .i64 N, .slice A n c] 24)).alloc (.cells #[.int .i64 0, .int .i64 0, .int .i64 0] 41)) (w.heap.size + 1) 41 #[.int .i64 0, .int .i64 0, .int .i64 0] := Blk.new_ (by simp) _ _
  have HALL := Lib.hid hall
  have HB0 := Lib.hid hb0
  have HBR := Lib.hid hbr
  have HCH : Hid (checkR N T = (refAll N T).headD (0, 0, 0)) := Lib.hid rfl
  rw [HCH.out]
  clear hb0 hall hbr ht
  generalize refAll N T = L at *
  go_enter Try.func32, Try.ntmps32
  go_wp2_with fail
  refine HALL.out.mono ?_
  rintro e w1 ⟨A1, c1, rfl, hr, hb⟩
  have hb1 := HBR.out.below hb (by simp)
  have HB1 := Lib.hid hb1
  have x0 := hb1.cell 0
  have x1 := hb1.cell 1
  have x2 := hb1.cell 2
  simp at x0 x1 x2
  have y0 := hb1.frozen 0
  have y1 := hb1.frozen 1
  have y2 := hb1.frozen 2
  have hl1 := hb1.lt
  have HBW := Lib.hid (HB0.out.trans (hb.mono HB0.out.size))
  have HR := Lib.hid hr
  clear hb hb1 hr
  cases L with
  | nil =>
    have hl : ([] : List (Int × Int × Int)).length = 0 := rfl
    rw [hl]
    go_wp2_with fail
    refine bodyPost_ret (v := wv (0, 0, 0)) ?_ rfl ⟨rfl, ?_⟩
    · simp [results, Try.results32, go_sem, wv, x0, x1, x2]
    · exact ((HBW.out.setCell (p := ⟨w.heap.size + 1, 0, none⟩) (by simp) _).setCell (p := ⟨w.heap.size + 1, 1, none⟩) (by simp) _).setCell (p := ⟨w.heap.size + 1, 2, none⟩) (by simp) _
  | cons x L =>
    obtain ⟨ad, eA, hadb, hcs⟩ := (Reads.of_own HR.out).2 (by simp)
    subst eA
    have d0 := hcs 0 _ rfl
    have d1 := hcs 1 _ rfl
    have d2 := hcs 2 _ rfl
    rw [add_zero_] at d0
    obtain ⟨e0, e1, e2, e3, e4, e5⟩ := cells3 d0 d1 d2
    have hlen : 0 < (x :: L).length := by simp
    clear hcs d0 d1 d2
    generalize (x :: L).length = ln at hlen ⊢
    have e0' : w1.cell? (ad.add 0) = some (.int .i64 x.1) := by rw [add_zero_]; exact e0
    go_wp2_with fail
    refine bodyPost_ret (v := wv x) ?_ rfl ⟨rfl, ?_⟩
    · simp [results, Try.results32, go_sem, wv, x0, x1, x2]
    · exact ((HBW.out.setCell (p := ⟨w.heap.size + 1, 0, none⟩) (by simp) _).setCell (p := ⟨w.heap.size + 1, 1, none⟩) (by simp) _).setCell (p := ⟨w.heap.size + 1, 2, none⟩) (by simp) _
end Go.Proofs.Ytdmibpcpocacpaa
