/-
  No cell of these rows narrows 'for every input' (looked for: loops, veiled, ifaces, maps, wideKeys, modest, calm, conditions, laid).
  DERIVED. THE GIVEN ROWS OF THIS SEAT. 3 by the template 'for every input the law returns true; each argument reads behind the call as it read before'; 0 by the template 'total and deterministic' (their statements: YtbdicndkkenbgaaTotals.lean).
  GIVEN WITH THE SEED: the statements are not yours to turn. If you find one false, say at which input.
  Laid BY PROGRAM, IN A SANDBOX (cutbox-rows.mjs): the forced cells as the released guide's own fill.sh prints them over the translation f20c5b454cb5f339… (all of the seat's roots in one cut). By AI agents, Wed Nov 11 2026. No macro, syntax, notation, axiom, sorry.
-/
import Derived.Test.YtbdicndkkenbgaaChecked
import GoSem.Claim
import GoSem.ClaimJoined
import GoSem.ClaimMapViews
import Derived.JoinedTies
import Derived.KernelRfl
namespace Go.Proofs.Ytbdicndkkenbgaa
/- THE CELL 'sum', in the pinned program and in every row, IS THE sha256 OF THE DUMP (.gsa) THAT YtbdicndkkenbgaaProg.lean LOADS. Nothing in Lean hashes anything: it is a label: what it is worth is what the hold of that sum in a sandbox is worth. -/
noncomputable def Try.pinned : Pinned := { name := "ytbdicndkkenbgaa", sum := "f20c5b454cb5f339abbee9f2f1fa506e60777c8ab4ec24dbd2f7707200879fbe", checked := Try.checked }
namespace Rows
def none {H : Type} : Left H := { results := [], args := [] }

/-- 'gypsumlaw16.FieldSmooth': WHATEVER THE INPUT: true; the input reads as it did. -/
def fieldSmoothSpec : ChangeSpec := { name := "fieldSmooth", fn := fun _ => fun
  | [d1, d2] => { results := [.lit (.bool true)], args := [d1, d2] }
  | _ => none }
def fieldSmoothRow : OpenClaim := { program := "ytbdicndkkenbgaa", sum := "f20c5b454cb5f339abbee9f2f1fa506e60777c8ab4ec24dbd2f7707200879fbe", func := "gypsum/gypsumlaw16.FieldSmooth", spec := "fieldSmooth", unfollowed := true, recurses := true, plainKeys := false, apart := false }
def FieldSmoothSaid : Prop := fieldSmoothRow.holds Try.pinned (OpenSpec.ofChange fieldSmoothSpec)

/-- ITS FALSE NEIGHBOUR: 'it returns false'. Refute it at one input. -/
def fieldSmoothWrong : ChangeSpec := { name := "fieldSmooth", fn := fun _ => fun
  | [d1, d2] => { results := [.lit (.bool false)], args := [d1, d2] }
  | _ => none }
def FieldSmoothWrongFalsely : Prop := fieldSmoothRow.holds Try.pinned (OpenSpec.ofChange fieldSmoothWrong)

/-- 'gypsumlaw16.FieldStops': WHATEVER THE INPUT: true; the input reads as it did. -/
def fieldStopsSpec : ChangeSpec := { name := "fieldStops", fn := fun _ => fun
  | [d1, d2, d3] => { results := [.lit (.bool true)], args := [d1, d2, d3] }
  | _ => none }
def fieldStopsRow : OpenClaim := { program := "ytbdicndkkenbgaa", sum := "f20c5b454cb5f339abbee9f2f1fa506e60777c8ab4ec24dbd2f7707200879fbe", func := "gypsum/gypsumlaw16.FieldStops", spec := "fieldStops", unfollowed := true, recurses := true, plainKeys := false, apart := false }
def FieldStopsSaid : Prop := fieldStopsRow.holds Try.pinned (OpenSpec.ofChange fieldStopsSpec)

/-- ITS FALSE NEIGHBOUR: 'it returns false'. Refute it at one input. -/
def fieldStopsWrong : ChangeSpec := { name := "fieldStops", fn := fun _ => fun
  | [d1, d2, d3] => { results := [.lit (.bool false)], args := [d1, d2, d3] }
  | _ => none }
def FieldStopsWrongFalsely : Prop := fieldStopsRow.holds Try.pinned (OpenSpec.ofChange fieldStopsWrong)

/-- 'gypsumlaw16.FieldNone': WHATEVER THE INPUT: true; the input reads as it did. -/
def fieldNoneSpec : ChangeSpec := { name := "fieldNone", fn := fun _ => fun
  | [d1, d2] => { results := [.lit (.bool true)], args := [d1, d2] }
  | _ => none }
def fieldNoneRow : OpenClaim := { program := "ytbdicndkkenbgaa", sum := "f20c5b454cb5f339abbee9f2f1fa506e60777c8ab4ec24dbd2f7707200879fbe", func := "gypsum/gypsumlaw16.FieldNone", spec := "fieldNone", unfollowed := true, recurses := true, plainKeys := false, apart := false }
def FieldNoneSaid : Prop := fieldNoneRow.holds Try.pinned (OpenSpec.ofChange fieldNoneSpec)

/-- ITS FALSE NEIGHBOUR: 'it returns false'. Refute it at one input. -/
def fieldNoneWrong : ChangeSpec := { name := "fieldNone", fn := fun _ => fun
  | [d1, d2] => { results := [.lit (.bool false)], args := [d1, d2] }
  | _ => none }
def FieldNoneWrongFalsely : Prop := fieldNoneRow.holds Try.pinned (OpenSpec.ofChange fieldNoneWrong)

/- THE SECOND FORM. 'bulk': how many values and letters a reading holds, each counted each time it is reached (what is shared counts as often as it is met; a slice's spare places count too). A statement '..UptoSaid' is the law's where the arguments, and the package variables that the reading takes, are together of bulk at most 1048576: NARROWER than '..Said'. Prove '..Said' where nothing that the law and all that it calls make is longer than what came in: it says more and counts as full. Else prove '..UptoSaid'. A law counts once. -/
mutual
def uptoBulk {H : Type} : DataW H → Nat
  | .lit (.string bytes) => bytes.length + 1
  | .lit _ => 1
  | .nil => 1
  | .ptr d => uptoBulk d + 1
  | .slice elems spare => uptoBulkAll elems + uptoBulkAll spare + 1
  | .agg parts => uptoBulkAll parts + 1
  | .iface _ d => uptoBulk d + 1
  | .map entries => uptoBulkEntries entries + 1
  | .held _ => 1
def uptoBulkAll {H : Type} : List (DataW H) → Nat
  | [] => 0
  | d :: r => uptoBulk d + uptoBulkAll r
def uptoBulkEntries {H : Type} : List (Lit × DataW H) → Nat
  | [] => 0
  | x :: r => uptoBulkEntry x + uptoBulkEntries r
def uptoBulkEntry {H : Type} : Lit × DataW H → Nat
  | (.string bytes, d) => bytes.length + uptoBulk d + 1
  | (_, d) => uptoBulk d + 1
 end
def uptoSmall : (H : Type) → List (DataW H) → Bool := fun _ ds => decide (uptoBulkAll ds ≤ 1048576)
def OpenSpec.upto (s : _root_.Go.ChangeSpec) : _root_.Go.OpenSpec := { _root_.Go.OpenSpec.ofChange s with cond := some uptoSmall }

/-- 'gypsumlaw16.FieldSmooth', WHERE WHAT IT READS IS OF BULK AT MOST 1048576: true; the input reads as it did. -/
def fieldSmoothUptoRow : OpenClaim := { program := "ytbdicndkkenbgaa", sum := "f20c5b454cb5f339abbee9f2f1fa506e60777c8ab4ec24dbd2f7707200879fbe", func := "gypsum/gypsumlaw16.FieldSmooth", spec := "fieldSmooth", unfollowed := true, recurses := true, plainKeys := false, apart := false, narrowed := true }
def FieldSmoothUptoSaid : Prop := fieldSmoothUptoRow.holds Try.pinned (OpenSpec.upto fieldSmoothSpec)

/-- 'gypsumlaw16.FieldStops', WHERE WHAT IT READS IS OF BULK AT MOST 1048576: true; the input reads as it did. -/
def fieldStopsUptoRow : OpenClaim := { program := "ytbdicndkkenbgaa", sum := "f20c5b454cb5f339abbee9f2f1fa506e60777c8ab4ec24dbd2f7707200879fbe", func := "gypsum/gypsumlaw16.FieldStops", spec := "fieldStops", unfollowed := true, recurses := true, plainKeys := false, apart := false, narrowed := true }
def FieldStopsUptoSaid : Prop := fieldStopsUptoRow.holds Try.pinned (OpenSpec.upto fieldStopsSpec)

/-- 'gypsumlaw16.FieldNone', WHERE WHAT IT READS IS OF BULK AT MOST 1048576: true; the input reads as it did. -/
def fieldNoneUptoRow : OpenClaim := { program := "ytbdicndkkenbgaa", sum := "f20c5b454cb5f339abbee9f2f1fa506e60777c8ab4ec24dbd2f7707200879fbe", func := "gypsum/gypsumlaw16.FieldNone", spec := "fieldNone", unfollowed := true, recurses := true, plainKeys := false, apart := false, narrowed := true }
def FieldNoneUptoSaid : Prop := fieldNoneUptoRow.holds Try.pinned (OpenSpec.upto fieldNoneSpec)

end Rows
end Go.Proofs.Ytbdicndkkenbgaa
