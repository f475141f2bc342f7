/-
  No cell of these rows narrows 'for every input' (looked for: loops, veiled, ifaces, maps, wideKeys, modest, calm, conditions, laid).
  DERIVED. THE GIVEN ROWS OF THIS SEAT. 7 by the template 'for every input the law returns true; each argument reads behind the call as it read before'; 0 by the template 'total and deterministic' (their statements: YtcpfolojfdnojaaTotals.lean).
  GIVEN WITH THE SEED: the statements are not yours to turn. If you find one false, say at which input.
  Laid BY PROGRAM, IN A SANDBOX (cutbox-rows.mjs): the forced cells as the released guide's own fill.sh prints them over the translation b86f163532c1e524… (all of the seat's roots in one cut). By AI agents, Wed Nov 11 2026. No macro, syntax, notation, axiom, sorry.
-/
import Derived.Test.YtcpfolojfdnojaaChecked
import GoSem.Claim
import GoSem.ClaimJoined
import GoSem.ClaimMapViews
import Derived.JoinedTies
import Derived.KernelRfl
namespace Go.Proofs.Ytcpfolojfdnojaa
/- THE CELL 'sum', in the pinned program and in every row, IS THE sha256 OF THE DUMP (.gsa) THAT YtcpfolojfdnojaaProg.lean LOADS. Nothing in Lean hashes anything: it is a label: what it is worth is what the hold of that sum in a sandbox is worth. -/
noncomputable def Try.pinned : Pinned := { name := "ytcpfolojfdnojaa", sum := "b86f163532c1e524d8e3414f89a88eecca537dd2023c38b3ba8cadec7db2ed14", checked := Try.checked }
namespace Rows
def none {H : Type} : Left H := { results := [], args := [] }

/-- 'gypsumlaw28.PredictKnown': WHATEVER THE INPUT: true; the input reads as it did. -/
def predictKnownSpec : ChangeSpec := { name := "predictKnown", fn := fun _ => fun
  | [d] => { results := [.lit (.bool true)], args := [d] }
  | _ => none }
def predictKnownRow : OpenClaim := { program := "ytcpfolojfdnojaa", sum := "b86f163532c1e524d8e3414f89a88eecca537dd2023c38b3ba8cadec7db2ed14", func := "gypsum/gypsumlaw28.PredictKnown", spec := "predictKnown", unfollowed := true, recurses := true, plainKeys := false, apart := false }
def PredictKnownSaid : Prop := predictKnownRow.holds Try.pinned (OpenSpec.ofChange predictKnownSpec)

/-- ITS FALSE NEIGHBOUR: 'it returns false'. Refute it at one input. -/
def predictKnownWrong : ChangeSpec := { name := "predictKnown", fn := fun _ => fun
  | [d] => { results := [.lit (.bool false)], args := [d] }
  | _ => none }
def PredictKnownWrongFalsely : Prop := predictKnownRow.holds Try.pinned (OpenSpec.ofChange predictKnownWrong)

/-- 'gypsumlaw28.PredictPoint': WHATEVER THE INPUT: true; the input reads as it did. -/
def predictPointSpec : ChangeSpec := { name := "predictPoint", fn := fun _ => fun
  | [d1, d2, d3] => { results := [.lit (.bool true)], args := [d1, d2, d3] }
  | _ => none }
def predictPointRow : OpenClaim := { program := "ytcpfolojfdnojaa", sum := "b86f163532c1e524d8e3414f89a88eecca537dd2023c38b3ba8cadec7db2ed14", func := "gypsum/gypsumlaw28.PredictPoint", spec := "predictPoint", unfollowed := true, recurses := true, plainKeys := false, apart := false }
def PredictPointSaid : Prop := predictPointRow.holds Try.pinned (OpenSpec.ofChange predictPointSpec)

/-- ITS FALSE NEIGHBOUR: 'it returns false'. Refute it at one input. -/
def predictPointWrong : ChangeSpec := { name := "predictPoint", fn := fun _ => fun
  | [d1, d2, d3] => { results := [.lit (.bool false)], args := [d1, d2, d3] }
  | _ => none }
def PredictPointWrongFalsely : Prop := predictPointRow.holds Try.pinned (OpenSpec.ofChange predictPointWrong)

/-- 'gypsumlaw28.PredictBelow': WHATEVER THE INPUT: true; the input reads as it did. -/
def predictBelowSpec : ChangeSpec := { name := "predictBelow", fn := fun _ => fun
  | [d1, d2, d3] => { results := [.lit (.bool true)], args := [d1, d2, d3] }
  | _ => none }
def predictBelowRow : OpenClaim := { program := "ytcpfolojfdnojaa", sum := "b86f163532c1e524d8e3414f89a88eecca537dd2023c38b3ba8cadec7db2ed14", func := "gypsum/gypsumlaw28.PredictBelow", spec := "predictBelow", unfollowed := true, recurses := true, plainKeys := false, apart := false }
def PredictBelowSaid : Prop := predictBelowRow.holds Try.pinned (OpenSpec.ofChange predictBelowSpec)

/-- ITS FALSE NEIGHBOUR: 'it returns false'. Refute it at one input. -/
def predictBelowWrong : ChangeSpec := { name := "predictBelow", fn := fun _ => fun
  | [d1, d2, d3] => { results := [.lit (.bool false)], args := [d1, d2, d3] }
  | _ => none }
def PredictBelowWrongFalsely : Prop := predictBelowRow.holds Try.pinned (OpenSpec.ofChange predictBelowWrong)

/-- 'gypsumlaw28.PredictMoves': WHATEVER THE INPUT: true; the input reads as it did. -/
def predictMovesSpec : ChangeSpec := { name := "predictMoves", fn := fun _ => fun
  | [d1, d2, d3] => { results := [.lit (.bool true)], args := [d1, d2, d3] }
  | _ => none }
def predictMovesRow : OpenClaim := { program := "ytcpfolojfdnojaa", sum := "b86f163532c1e524d8e3414f89a88eecca537dd2023c38b3ba8cadec7db2ed14", func := "gypsum/gypsumlaw28.PredictMoves", spec := "predictMoves", unfollowed := true, recurses := true, plainKeys := false, apart := false }
def PredictMovesSaid : Prop := predictMovesRow.holds Try.pinned (OpenSpec.ofChange predictMovesSpec)

/-- ITS FALSE NEIGHBOUR: 'it returns false'. Refute it at one input. -/
def predictMovesWrong : ChangeSpec := { name := "predictMoves", fn := fun _ => fun
  | [d1, d2, d3] => { results := [.lit (.bool false)], args := [d1, d2, d3] }
  | _ => none }
def PredictMovesWrongFalsely : Prop := predictMovesRow.holds Try.pinned (OpenSpec.ofChange predictMovesWrong)

/-- 'gypsumlaw28.PredictPlane': WHATEVER THE INPUT: true; the input reads as it did. -/
def predictPlaneSpec : ChangeSpec := { name := "predictPlane", fn := fun _ => fun
  | [d1, d2, d3] => { results := [.lit (.bool true)], args := [d1, d2, d3] }
  | _ => none }
def predictPlaneRow : OpenClaim := { program := "ytcpfolojfdnojaa", sum := "b86f163532c1e524d8e3414f89a88eecca537dd2023c38b3ba8cadec7db2ed14", func := "gypsum/gypsumlaw28.PredictPlane", spec := "predictPlane", unfollowed := true, recurses := true, plainKeys := false, apart := false }
def PredictPlaneSaid : Prop := predictPlaneRow.holds Try.pinned (OpenSpec.ofChange predictPlaneSpec)

/-- ITS FALSE NEIGHBOUR: 'it returns false'. Refute it at one input. -/
def predictPlaneWrong : ChangeSpec := { name := "predictPlane", fn := fun _ => fun
  | [d1, d2, d3] => { results := [.lit (.bool false)], args := [d1, d2, d3] }
  | _ => none }
def PredictPlaneWrongFalsely : Prop := predictPlaneRow.holds Try.pinned (OpenSpec.ofChange predictPlaneWrong)

/-- 'gypsumlaw28.PredictSame': WHATEVER THE INPUT: true; the input reads as it did. -/
def predictSameSpec : ChangeSpec := { name := "predictSame", fn := fun _ => fun
  | [d1, d2] => { results := [.lit (.bool true)], args := [d1, d2] }
  | _ => none }
def predictSameRow : OpenClaim := { program := "ytcpfolojfdnojaa", sum := "b86f163532c1e524d8e3414f89a88eecca537dd2023c38b3ba8cadec7db2ed14", func := "gypsum/gypsumlaw28.PredictSame", spec := "predictSame", unfollowed := true, recurses := true, plainKeys := false, apart := false }
def PredictSameSaid : Prop := predictSameRow.holds Try.pinned (OpenSpec.ofChange predictSameSpec)

/-- ITS FALSE NEIGHBOUR: 'it returns false'. Refute it at one input. -/
def predictSameWrong : ChangeSpec := { name := "predictSame", fn := fun _ => fun
  | [d1, d2] => { results := [.lit (.bool false)], args := [d1, d2] }
  | _ => none }
def PredictSameWrongFalsely : Prop := predictSameRow.holds Try.pinned (OpenSpec.ofChange predictSameWrong)

/-- 'gypsumlaw28.PredictFirst': WHATEVER THE INPUT: true; the input reads as it did. -/
def predictFirstSpec : ChangeSpec := { name := "predictFirst", fn := fun _ => fun
  | [d] => { results := [.lit (.bool true)], args := [d] }
  | _ => none }
def predictFirstRow : OpenClaim := { program := "ytcpfolojfdnojaa", sum := "b86f163532c1e524d8e3414f89a88eecca537dd2023c38b3ba8cadec7db2ed14", func := "gypsum/gypsumlaw28.PredictFirst", spec := "predictFirst", unfollowed := true, recurses := true, plainKeys := false, apart := false }
def PredictFirstSaid : Prop := predictFirstRow.holds Try.pinned (OpenSpec.ofChange predictFirstSpec)

/-- ITS FALSE NEIGHBOUR: 'it returns false'. Refute it at one input. -/
def predictFirstWrong : ChangeSpec := { name := "predictFirst", fn := fun _ => fun
  | [d] => { results := [.lit (.bool false)], args := [d] }
  | _ => none }
def PredictFirstWrongFalsely : Prop := predictFirstRow.holds Try.pinned (OpenSpec.ofChange predictFirstWrong)

/- THE SECOND FORM. 'bulk': how many values and letters a reading holds, each counted each time it is reached (what is shared counts as often as it is met; a slice's spare places count too). A statement '..UptoSaid' is the law's where the arguments, and the package variables that the reading takes, are together of bulk at most 1048576: NARROWER than '..Said'. Prove '..Said' where nothing that the law and all that it calls make is longer than what came in: it says more and counts as full. Else prove '..UptoSaid'. A law counts once. -/
mutual
def uptoBulk {H : Type} : DataW H → Nat
  | .lit (.string bytes) => bytes.length + 1
  | .lit _ => 1
  | .nil => 1
  | .ptr d => uptoBulk d + 1
  | .slice elems spare => uptoBulkAll elems + uptoBulkAll spare + 1
  | .agg parts => uptoBulkAll parts + 1
  | .iface _ d => uptoBulk d + 1
  | .map entries => uptoBulkEntries entries + 1
  | .held _ => 1
def uptoBulkAll {H : Type} : List (DataW H) → Nat
  | [] => 0
  | d :: r => uptoBulk d + uptoBulkAll r
def uptoBulkEntries {H : Type} : List (Lit × DataW H) → Nat
  | [] => 0
  | x :: r => uptoBulkEntry x + uptoBulkEntries r
def uptoBulkEntry {H : Type} : Lit × DataW H → Nat
  | (.string bytes, d) => bytes.length + uptoBulk d + 1
  | (_, d) => uptoBulk d + 1
 end
def uptoSmall : (H : Type) → List (DataW H) → Bool := fun _ ds => decide (uptoBulkAll ds ≤ 1048576)
def OpenSpec.upto (s : _root_.Go.ChangeSpec) : _root_.Go.OpenSpec := { _root_.Go.OpenSpec.ofChange s with cond := some uptoSmall }

/-- 'gypsumlaw28.PredictKnown', WHERE WHAT IT READS IS OF BULK AT MOST 1048576: true; the input reads as it did. -/
def predictKnownUptoRow : OpenClaim := { program := "ytcpfolojfdnojaa", sum := "b86f163532c1e524d8e3414f89a88eecca537dd2023c38b3ba8cadec7db2ed14", func := "gypsum/gypsumlaw28.PredictKnown", spec := "predictKnown", unfollowed := true, recurses := true, plainKeys := false, apart := false, narrowed := true }
def PredictKnownUptoSaid : Prop := predictKnownUptoRow.holds Try.pinned (OpenSpec.upto predictKnownSpec)

/-- 'gypsumlaw28.PredictPoint', WHERE WHAT IT READS IS OF BULK AT MOST 1048576: true; the input reads as it did. -/
def predictPointUptoRow : OpenClaim := { program := "ytcpfolojfdnojaa", sum := "b86f163532c1e524d8e3414f89a88eecca537dd2023c38b3ba8cadec7db2ed14", func := "gypsum/gypsumlaw28.PredictPoint", spec := "predictPoint", unfollowed := true, recurses := true, plainKeys := false, apart := false, narrowed := true }
def PredictPointUptoSaid : Prop := predictPointUptoRow.holds Try.pinned (OpenSpec.upto predictPointSpec)

/-- 'gypsumlaw28.PredictBelow', WHERE WHAT IT READS IS OF BULK AT MOST 1048576: true; the input reads as it did. -/
def predictBelowUptoRow : OpenClaim := { program := "ytcpfolojfdnojaa", sum := "b86f163532c1e524d8e3414f89a88eecca537dd2023c38b3ba8cadec7db2ed14", func := "gypsum/gypsumlaw28.PredictBelow", spec := "predictBelow", unfollowed := true, recurses := true, plainKeys := false, apart := false, narrowed := true }
def PredictBelowUptoSaid : Prop := predictBelowUptoRow.holds Try.pinned (OpenSpec.upto predictBelowSpec)

/-- 'gypsumlaw28.PredictMoves', WHERE WHAT IT READS IS OF BULK AT MOST 1048576: true; the input reads as it did. -/
def predictMovesUptoRow : OpenClaim := { program := "ytcpfolojfdnojaa", sum := "b86f163532c1e524d8e3414f89a88eecca537dd2023c38b3ba8cadec7db2ed14", func := "gypsum/gypsumlaw28.PredictMoves", spec := "predictMoves", unfollowed := true, recurses := true, plainKeys := false, apart := false, narrowed := true }
def PredictMovesUptoSaid : Prop := predictMovesUptoRow.holds Try.pinned (OpenSpec.upto predictMovesSpec)

/-- 'gypsumlaw28.PredictPlane', WHERE WHAT IT READS IS OF BULK AT MOST 1048576: true; the input reads as it did. -/
def predictPlaneUptoRow : OpenClaim := { program := "ytcpfolojfdnojaa", sum := "b86f163532c1e524d8e3414f89a88eecca537dd2023c38b3ba8cadec7db2ed14", func := "gypsum/gypsumlaw28.PredictPlane", spec := "predictPlane", unfollowed := true, recurses := true, plainKeys := false, apart := false, narrowed := true }
def PredictPlaneUptoSaid : Prop := predictPlaneUptoRow.holds Try.pinned (OpenSpec.upto predictPlaneSpec)

/-- 'gypsumlaw28.PredictSame', WHERE WHAT IT READS IS OF BULK AT MOST 1048576: true; the input reads as it did. -/
def predictSameUptoRow : OpenClaim := { program := "ytcpfolojfdnojaa", sum := "b86f163532c1e524d8e3414f89a88eecca537dd2023c38b3ba8cadec7db2ed14", func := "gypsum/gypsumlaw28.PredictSame", spec := "predictSame", unfollowed := true, recurses := true, plainKeys := false, apart := false, narrowed := true }
def PredictSameUptoSaid : Prop := predictSameUptoRow.holds Try.pinned (OpenSpec.upto predictSameSpec)

/-- 'gypsumlaw28.PredictFirst', WHERE WHAT IT READS IS OF BULK AT MOST 1048576: true; the input reads as it did. -/
def predictFirstUptoRow : OpenClaim := { program := "ytcpfolojfdnojaa", sum := "b86f163532c1e524d8e3414f89a88eecca537dd2023c38b3ba8cadec7db2ed14", func := "gypsum/gypsumlaw28.PredictFirst", spec := "predictFirst", unfollowed := true, recurses := true, plainKeys := false, apart := false, narrowed := true }
def PredictFirstUptoSaid : Prop := predictFirstUptoRow.holds Try.pinned (OpenSpec.upto predictFirstSpec)

end Rows
end Go.Proofs.Ytcpfolojfdnojaa
