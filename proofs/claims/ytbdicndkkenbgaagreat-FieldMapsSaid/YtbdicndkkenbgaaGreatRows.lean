/-
  No cell of these rows narrows 'for every input' (looked for: loops, veiled, ifaces, maps, wideKeys, modest, calm, conditions, laid).
  DERIVED. THE GIVEN ROWS OF THIS SEAT. 4 by the template 'for every input the law returns true; each argument reads behind the call as it read before'; 0 by the template 'total and deterministic' (their statements: YtbdicndkkenbgaaGreatTotals.lean).
  GIVEN WITH THE SEED: the statements are not yours to turn. If you find one false, say at which input.
  Laid BY PROGRAM, IN A SANDBOX (cutbox-rows.mjs): the forced cells as the released guide's own fill.sh prints them over the translation 9e41bfa49744bc78… (all of the seat's roots in one cut). By AI agents, Wed Nov 11 2026. No macro, syntax, notation, axiom, sorry.
-/
import Derived.Test.YtbdicndkkenbgaaGreatChecked
import GoSem.Claim
import GoSem.ClaimJoined
import GoSem.ClaimMapViews
import Derived.JoinedTies
import Derived.KernelRfl
namespace Go.Proofs.YtbdicndkkenbgaaGreat
/- THE CELL 'sum', in the pinned program and in every row, IS THE sha256 OF THE DUMP (.gsa) THAT YtbdicndkkenbgaaGreatProg.lean LOADS. Nothing in Lean hashes anything: it is a label: what it is worth is what the hold of that sum in a sandbox is worth. -/
noncomputable def Tryz.pinned : Pinned := { name := "ytbdicndkkenbgaagreat", sum := "9e41bfa49744bc78c6a340a7474e298a696ffe1d1d04143fbbfd2d690ea387a7", checked := Tryz.checked }
namespace Rows
def none {H : Type} : Left H := { results := [], args := [] }

/-- 'gypsumlaw16.FieldStruct': WHATEVER THE INPUT: true; the input reads as it did. -/
def fieldStructSpec : ChangeSpec := { name := "fieldStruct", fn := fun _ => fun
  | [d] => { results := [.lit (.bool true)], args := [d] }
  | _ => none }
def fieldStructRow : OpenClaim := { program := "ytbdicndkkenbgaagreat", sum := "9e41bfa49744bc78c6a340a7474e298a696ffe1d1d04143fbbfd2d690ea387a7", func := "gypsum/gypsumlaw16.FieldStruct", spec := "fieldStruct", unfollowed := true, recurses := true, plainKeys := false, apart := false }
def FieldStructSaid : Prop := fieldStructRow.holds Tryz.pinned (OpenSpec.ofChange fieldStructSpec)

/-- ITS FALSE NEIGHBOUR: 'it returns false'. Refute it at one input. -/
def fieldStructWrong : ChangeSpec := { name := "fieldStruct", fn := fun _ => fun
  | [d] => { results := [.lit (.bool false)], args := [d] }
  | _ => none }
def FieldStructWrongFalsely : Prop := fieldStructRow.holds Tryz.pinned (OpenSpec.ofChange fieldStructWrong)

/-- 'gypsumlaw16.FieldTells': WHATEVER THE INPUT: true; the input reads as it did. -/
def fieldTellsSpec : ChangeSpec := { name := "fieldTells", fn := fun _ => fun
  | [d1, d2, d3, d4] => { results := [.lit (.bool true)], args := [d1, d2, d3, d4] }
  | _ => none }
def fieldTellsRow : OpenClaim := { program := "ytbdicndkkenbgaagreat", sum := "9e41bfa49744bc78c6a340a7474e298a696ffe1d1d04143fbbfd2d690ea387a7", func := "gypsum/gypsumlaw16.FieldTells", spec := "fieldTells", unfollowed := true, recurses := true, plainKeys := false, apart := false }
def FieldTellsSaid : Prop := fieldTellsRow.holds Tryz.pinned (OpenSpec.ofChange fieldTellsSpec)

/-- ITS FALSE NEIGHBOUR: 'it returns false'. Refute it at one input. -/
def fieldTellsWrong : ChangeSpec := { name := "fieldTells", fn := fun _ => fun
  | [d1, d2, d3, d4] => { results := [.lit (.bool false)], args := [d1, d2, d3, d4] }
  | _ => none }
def FieldTellsWrongFalsely : Prop := fieldTellsRow.holds Tryz.pinned (OpenSpec.ofChange fieldTellsWrong)

/-- 'gypsumlaw16.FieldSets': WHATEVER THE INPUT: true; the input reads as it did. -/
def fieldSetsSpec : ChangeSpec := { name := "fieldSets", fn := fun _ => fun
  | [d1, d2, d3, d4] => { results := [.lit (.bool true)], args := [d1, d2, d3, d4] }
  | _ => none }
def fieldSetsRow : OpenClaim := { program := "ytbdicndkkenbgaagreat", sum := "9e41bfa49744bc78c6a340a7474e298a696ffe1d1d04143fbbfd2d690ea387a7", func := "gypsum/gypsumlaw16.FieldSets", spec := "fieldSets", unfollowed := true, recurses := true, plainKeys := false, apart := false }
def FieldSetsSaid : Prop := fieldSetsRow.holds Tryz.pinned (OpenSpec.ofChange fieldSetsSpec)

/-- ITS FALSE NEIGHBOUR: 'it returns false'. Refute it at one input. -/
def fieldSetsWrong : ChangeSpec := { name := "fieldSets", fn := fun _ => fun
  | [d1, d2, d3, d4] => { results := [.lit (.bool false)], args := [d1, d2, d3, d4] }
  | _ => none }
def FieldSetsWrongFalsely : Prop := fieldSetsRow.holds Tryz.pinned (OpenSpec.ofChange fieldSetsWrong)

/-- 'gypsumlaw16.FieldMaps': WHATEVER THE INPUT: true; the input reads as it did. -/
def fieldMapsSpec : ChangeSpec := { name := "fieldMaps", fn := fun _ => fun
  | [d1, d2, d3, d4] => { results := [.lit (.bool true)], args := [d1, d2, d3, d4] }
  | _ => none }
def fieldMapsRow : OpenClaim := { program := "ytbdicndkkenbgaagreat", sum := "9e41bfa49744bc78c6a340a7474e298a696ffe1d1d04143fbbfd2d690ea387a7", func := "gypsum/gypsumlaw16.FieldMaps", spec := "fieldMaps", unfollowed := true, recurses := true, plainKeys := false, apart := false }
def FieldMapsSaid : Prop := fieldMapsRow.holds Tryz.pinned (OpenSpec.ofChange fieldMapsSpec)

/-- ITS FALSE NEIGHBOUR: 'it returns false'. Refute it at one input. -/
def fieldMapsWrong : ChangeSpec := { name := "fieldMaps", fn := fun _ => fun
  | [d1, d2, d3, d4] => { results := [.lit (.bool false)], args := [d1, d2, d3, d4] }
  | _ => none }
def FieldMapsWrongFalsely : Prop := fieldMapsRow.holds Tryz.pinned (OpenSpec.ofChange fieldMapsWrong)

/- THE SECOND FORM. 'bulk': how many values and letters a reading holds, each counted each time it is reached (what is shared counts as often as it is met; a slice's spare places count too). A statement '..UptoSaid' is the law's where the arguments, and the package variables that the reading takes, are together of bulk at most 1048576: NARROWER than '..Said'. Prove '..Said' where nothing that the law and all that it calls make is longer than what came in: it says more and counts as full. Else prove '..UptoSaid'. A law counts once. -/
mutual
def uptoBulk {H : Type} : DataW H → Nat
  | .lit (.string bytes) => bytes.length + 1
  | .lit _ => 1
  | .nil => 1
  | .ptr d => uptoBulk d + 1
  | .slice elems spare => uptoBulkAll elems + uptoBulkAll spare + 1
  | .agg parts => uptoBulkAll parts + 1
  | .iface _ d => uptoBulk d + 1
  | .map entries => uptoBulkEntries entries + 1
  | .held _ => 1
def uptoBulkAll {H : Type} : List (DataW H) → Nat
  | [] => 0
  | d :: r => uptoBulk d + uptoBulkAll r
def uptoBulkEntries {H : Type} : List (Lit × DataW H) → Nat
  | [] => 0
  | x :: r => uptoBulkEntry x + uptoBulkEntries r
def uptoBulkEntry {H : Type} : Lit × DataW H → Nat
  | (.string bytes, d) => bytes.length + uptoBulk d + 1
  | (_, d) => uptoBulk d + 1
 end
def uptoSmall : (H : Type) → List (DataW H) → Bool := fun _ ds => decide (uptoBulkAll ds ≤ 1048576)
def OpenSpec.upto (s : _root_.Go.ChangeSpec) : _root_.Go.OpenSpec := { _root_.Go.OpenSpec.ofChange s with cond := some uptoSmall }

/-- 'gypsumlaw16.FieldStruct', WHERE WHAT IT READS IS OF BULK AT MOST 1048576: true; the input reads as it did. -/
def fieldStructUptoRow : OpenClaim := { program := "ytbdicndkkenbgaagreat", sum := "9e41bfa49744bc78c6a340a7474e298a696ffe1d1d04143fbbfd2d690ea387a7", func := "gypsum/gypsumlaw16.FieldStruct", spec := "fieldStruct", unfollowed := true, recurses := true, plainKeys := false, apart := false, narrowed := true }
def FieldStructUptoSaid : Prop := fieldStructUptoRow.holds Tryz.pinned (OpenSpec.upto fieldStructSpec)

/-- 'gypsumlaw16.FieldTells', WHERE WHAT IT READS IS OF BULK AT MOST 1048576: true; the input reads as it did. -/
def fieldTellsUptoRow : OpenClaim := { program := "ytbdicndkkenbgaagreat", sum := "9e41bfa49744bc78c6a340a7474e298a696ffe1d1d04143fbbfd2d690ea387a7", func := "gypsum/gypsumlaw16.FieldTells", spec := "fieldTells", unfollowed := true, recurses := true, plainKeys := false, apart := false, narrowed := true }
def FieldTellsUptoSaid : Prop := fieldTellsUptoRow.holds Tryz.pinned (OpenSpec.upto fieldTellsSpec)

/-- 'gypsumlaw16.FieldSets', WHERE WHAT IT READS IS OF BULK AT MOST 1048576: true; the input reads as it did. -/
def fieldSetsUptoRow : OpenClaim := { program := "ytbdicndkkenbgaagreat", sum := "9e41bfa49744bc78c6a340a7474e298a696ffe1d1d04143fbbfd2d690ea387a7", func := "gypsum/gypsumlaw16.FieldSets", spec := "fieldSets", unfollowed := true, recurses := true, plainKeys := false, apart := false, narrowed := true }
def FieldSetsUptoSaid : Prop := fieldSetsUptoRow.holds Tryz.pinned (OpenSpec.upto fieldSetsSpec)

/-- 'gypsumlaw16.FieldMaps', WHERE WHAT IT READS IS OF BULK AT MOST 1048576: true; the input reads as it did. -/
def fieldMapsUptoRow : OpenClaim := { program := "ytbdicndkkenbgaagreat", sum := "9e41bfa49744bc78c6a340a7474e298a696ffe1d1d04143fbbfd2d690ea387a7", func := "gypsum/gypsumlaw16.FieldMaps", spec := "fieldMaps", unfollowed := true, recurses := true, plainKeys := false, apart := false, narrowed := true }
def FieldMapsUptoSaid : Prop := fieldMapsUptoRow.holds Tryz.pinned (OpenSpec.upto fieldMapsSpec)

end Rows
end Go.Proofs.YtbdicndkkenbgaaGreat
