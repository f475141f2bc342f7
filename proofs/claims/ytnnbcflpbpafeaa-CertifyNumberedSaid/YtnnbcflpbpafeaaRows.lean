/-
  No cell of these rows narrows 'for every input' (looked for: loops, veiled, ifaces, maps, wideKeys, modest, calm, conditions, laid).
  DERIVED. THE GIVEN ROWS OF THIS SEAT. 8 by the template 'for every input the law returns true; each argument reads behind the call as it read before'; 0 by the template 'total and deterministic' (their statements: YtnnbcflpbpafeaaTotals.lean).
  GIVEN WITH THE SEED: the statements are not yours to turn. If you find one false, say at which input.
  Laid BY PROGRAM, IN A SANDBOX (cutbox-rows.mjs): the forced cells as the released guide's own fill.sh prints them over the translation e4a515b8d365f9fd… (all of the seat's roots in one cut). By AI agents, Wed Nov 11 2026. No macro, syntax, notation, axiom, sorry.
-/
import Derived.Test.YtnnbcflpbpafeaaChecked
import GoSem.Claim
import GoSem.ClaimJoined
import GoSem.ClaimMapViews
import Derived.JoinedTies
import Derived.KernelRfl
namespace Go.Proofs.Ytnnbcflpbpafeaa
/- THE CELL 'sum', in the pinned program and in every row, IS THE sha256 OF THE DUMP (.gsa) THAT YtnnbcflpbpafeaaProg.lean LOADS. Nothing in Lean hashes anything: it is a label: what it is worth is what the hold of that sum in a sandbox is worth. -/
noncomputable def Try.pinned : Pinned := { name := "ytnnbcflpbpafeaa", sum := "e4a515b8d365f9fd59e84c05aa868461bfb8ec1e9ddbab1500ad8e30dfee00f8", checked := Try.checked }
namespace Rows
def none {H : Type} : Left H := { results := [], args := [] }

/-- 'gypsumlaw09.CertifyTurned': WHATEVER THE INPUT: true; the input reads as it did. -/
def certifyTurnedSpec : ChangeSpec := { name := "certifyTurned", fn := fun _ => fun
  | [d1, d2] => { results := [.lit (.bool true)], args := [d1, d2] }
  | _ => none }
def certifyTurnedRow : OpenClaim := { program := "ytnnbcflpbpafeaa", sum := "e4a515b8d365f9fd59e84c05aa868461bfb8ec1e9ddbab1500ad8e30dfee00f8", func := "gypsum/gypsumlaw09.CertifyTurned", spec := "certifyTurned", unfollowed := true, recurses := true, plainKeys := false, apart := false }
def CertifyTurnedSaid : Prop := certifyTurnedRow.holds Try.pinned (OpenSpec.ofChange certifyTurnedSpec)

/-- ITS FALSE NEIGHBOUR: 'it returns false'. Refute it at one input. -/
def certifyTurnedWrong : ChangeSpec := { name := "certifyTurned", fn := fun _ => fun
  | [d1, d2] => { results := [.lit (.bool false)], args := [d1, d2] }
  | _ => none }
def CertifyTurnedWrongFalsely : Prop := certifyTurnedRow.holds Try.pinned (OpenSpec.ofChange certifyTurnedWrong)

/-- 'gypsumlaw09.CertifyNumbered': WHATEVER THE INPUT: true; the input reads as it did. -/
def certifyNumberedSpec : ChangeSpec := { name := "certifyNumbered", fn := fun _ => fun
  | [d1, d2] => { results := [.lit (.bool true)], args := [d1, d2] }
  | _ => none }
def certifyNumberedRow : OpenClaim := { program := "ytnnbcflpbpafeaa", sum := "e4a515b8d365f9fd59e84c05aa868461bfb8ec1e9ddbab1500ad8e30dfee00f8", func := "gypsum/gypsumlaw09.CertifyNumbered", spec := "certifyNumbered", unfollowed := true, recurses := true, plainKeys := false, apart := false }
def CertifyNumberedSaid : Prop := certifyNumberedRow.holds Try.pinned (OpenSpec.ofChange certifyNumberedSpec)

/-- ITS FALSE NEIGHBOUR: 'it returns false'. Refute it at one input. -/
def certifyNumberedWrong : ChangeSpec := { name := "certifyNumbered", fn := fun _ => fun
  | [d1, d2] => { results := [.lit (.bool false)], args := [d1, d2] }
  | _ => none }
def CertifyNumberedWrongFalsely : Prop := certifyNumberedRow.holds Try.pinned (OpenSpec.ofChange certifyNumberedWrong)

/-- 'gypsumlaw09.CertifyJoined': WHATEVER THE INPUT: true; the input reads as it did. -/
def certifyJoinedSpec : ChangeSpec := { name := "certifyJoined", fn := fun _ => fun
  | [d1, d2] => { results := [.lit (.bool true)], args := [d1, d2] }
  | _ => none }
def certifyJoinedRow : OpenClaim := { program := "ytnnbcflpbpafeaa", sum := "e4a515b8d365f9fd59e84c05aa868461bfb8ec1e9ddbab1500ad8e30dfee00f8", func := "gypsum/gypsumlaw09.CertifyJoined", spec := "certifyJoined", unfollowed := true, recurses := true, plainKeys := false, apart := false }
def CertifyJoinedSaid : Prop := certifyJoinedRow.holds Try.pinned (OpenSpec.ofChange certifyJoinedSpec)

/-- ITS FALSE NEIGHBOUR: 'it returns false'. Refute it at one input. -/
def certifyJoinedWrong : ChangeSpec := { name := "certifyJoined", fn := fun _ => fun
  | [d1, d2] => { results := [.lit (.bool false)], args := [d1, d2] }
  | _ => none }
def CertifyJoinedWrongFalsely : Prop := certifyJoinedRow.holds Try.pinned (OpenSpec.ofChange certifyJoinedWrong)

/-- 'gypsumlaw09.CertifyOpened': WHATEVER THE INPUT: true; the input reads as it did. -/
def certifyOpenedSpec : ChangeSpec := { name := "certifyOpened", fn := fun _ => fun
  | [d1, d2] => { results := [.lit (.bool true)], args := [d1, d2] }
  | _ => none }
def certifyOpenedRow : OpenClaim := { program := "ytnnbcflpbpafeaa", sum := "e4a515b8d365f9fd59e84c05aa868461bfb8ec1e9ddbab1500ad8e30dfee00f8", func := "gypsum/gypsumlaw09.CertifyOpened", spec := "certifyOpened", unfollowed := true, recurses := true, plainKeys := false, apart := false }
def CertifyOpenedSaid : Prop := certifyOpenedRow.holds Try.pinned (OpenSpec.ofChange certifyOpenedSpec)

/-- ITS FALSE NEIGHBOUR: 'it returns false'. Refute it at one input. -/
def certifyOpenedWrong : ChangeSpec := { name := "certifyOpened", fn := fun _ => fun
  | [d1, d2] => { results := [.lit (.bool false)], args := [d1, d2] }
  | _ => none }
def CertifyOpenedWrongFalsely : Prop := certifyOpenedRow.holds Try.pinned (OpenSpec.ofChange certifyOpenedWrong)

/-- 'gypsumlaw09.CertifyTwins': WHATEVER THE INPUT: true; the input reads as it did. -/
def certifyTwinsSpec : ChangeSpec := { name := "certifyTwins", fn := fun _ => fun
  | [d1, d2] => { results := [.lit (.bool true)], args := [d1, d2] }
  | _ => none }
def certifyTwinsRow : OpenClaim := { program := "ytnnbcflpbpafeaa", sum := "e4a515b8d365f9fd59e84c05aa868461bfb8ec1e9ddbab1500ad8e30dfee00f8", func := "gypsum/gypsumlaw09.CertifyTwins", spec := "certifyTwins", unfollowed := true, recurses := true, plainKeys := false, apart := false }
def CertifyTwinsSaid : Prop := certifyTwinsRow.holds Try.pinned (OpenSpec.ofChange certifyTwinsSpec)

/-- ITS FALSE NEIGHBOUR: 'it returns false'. Refute it at one input. -/
def certifyTwinsWrong : ChangeSpec := { name := "certifyTwins", fn := fun _ => fun
  | [d1, d2] => { results := [.lit (.bool false)], args := [d1, d2] }
  | _ => none }
def CertifyTwinsWrongFalsely : Prop := certifyTwinsRow.holds Try.pinned (OpenSpec.ofChange certifyTwinsWrong)

/-- 'gypsumlaw09.CertifyLonely': WHATEVER THE INPUT: true; the input reads as it did. -/
def certifyLonelySpec : ChangeSpec := { name := "certifyLonely", fn := fun _ => fun
  | [d] => { results := [.lit (.bool true)], args := [d] }
  | _ => none }
def certifyLonelyRow : OpenClaim := { program := "ytnnbcflpbpafeaa", sum := "e4a515b8d365f9fd59e84c05aa868461bfb8ec1e9ddbab1500ad8e30dfee00f8", func := "gypsum/gypsumlaw09.CertifyLonely", spec := "certifyLonely", unfollowed := true, recurses := true, plainKeys := false, apart := false }
def CertifyLonelySaid : Prop := certifyLonelyRow.holds Try.pinned (OpenSpec.ofChange certifyLonelySpec)

/-- ITS FALSE NEIGHBOUR: 'it returns false'. Refute it at one input. -/
def certifyLonelyWrong : ChangeSpec := { name := "certifyLonely", fn := fun _ => fun
  | [d] => { results := [.lit (.bool false)], args := [d] }
  | _ => none }
def CertifyLonelyWrongFalsely : Prop := certifyLonelyRow.holds Try.pinned (OpenSpec.ofChange certifyLonelyWrong)

/-- 'gypsumlaw09.CertifyTells': WHATEVER THE INPUT: true; the input reads as it did. -/
def certifyTellsSpec : ChangeSpec := { name := "certifyTells", fn := fun _ => fun
  | [d] => { results := [.lit (.bool true)], args := [d] }
  | _ => none }
def certifyTellsRow : OpenClaim := { program := "ytnnbcflpbpafeaa", sum := "e4a515b8d365f9fd59e84c05aa868461bfb8ec1e9ddbab1500ad8e30dfee00f8", func := "gypsum/gypsumlaw09.CertifyTells", spec := "certifyTells", unfollowed := true, recurses := true, plainKeys := false, apart := false }
def CertifyTellsSaid : Prop := certifyTellsRow.holds Try.pinned (OpenSpec.ofChange certifyTellsSpec)

/-- ITS FALSE NEIGHBOUR: 'it returns false'. Refute it at one input. -/
def certifyTellsWrong : ChangeSpec := { name := "certifyTells", fn := fun _ => fun
  | [d] => { results := [.lit (.bool false)], args := [d] }
  | _ => none }
def CertifyTellsWrongFalsely : Prop := certifyTellsRow.holds Try.pinned (OpenSpec.ofChange certifyTellsWrong)

/-- 'gypsumlaw09.CertifyTrue': WHATEVER THE INPUT: true; the input reads as it did. -/
def certifyTrueSpec : ChangeSpec := { name := "certifyTrue", fn := fun _ => fun
  | [d1, d2] => { results := [.lit (.bool true)], args := [d1, d2] }
  | _ => none }
def certifyTrueRow : OpenClaim := { program := "ytnnbcflpbpafeaa", sum := "e4a515b8d365f9fd59e84c05aa868461bfb8ec1e9ddbab1500ad8e30dfee00f8", func := "gypsum/gypsumlaw09.CertifyTrue", spec := "certifyTrue", unfollowed := true, recurses := true, plainKeys := false, apart := false }
def CertifyTrueSaid : Prop := certifyTrueRow.holds Try.pinned (OpenSpec.ofChange certifyTrueSpec)

/-- ITS FALSE NEIGHBOUR: 'it returns false'. Refute it at one input. -/
def certifyTrueWrong : ChangeSpec := { name := "certifyTrue", fn := fun _ => fun
  | [d1, d2] => { results := [.lit (.bool false)], args := [d1, d2] }
  | _ => none }
def CertifyTrueWrongFalsely : Prop := certifyTrueRow.holds Try.pinned (OpenSpec.ofChange certifyTrueWrong)

/- THE SECOND FORM. 'bulk': how many values and letters a reading holds, each counted each time it is reached (what is shared counts as often as it is met; a slice's spare places count too). A statement '..UptoSaid' is the law's where the arguments, and the package variables that the reading takes, are together of bulk at most 1048576: NARROWER than '..Said'. Prove '..Said' where nothing that the law and all that it calls make is longer than what came in: it says more and counts as full. Else prove '..UptoSaid'. A law counts once. -/
mutual
def uptoBulk {H : Type} : DataW H → Nat
  | .lit (.string bytes) => bytes.length + 1
  | .lit _ => 1
  | .nil => 1
  | .ptr d => uptoBulk d + 1
  | .slice elems spare => uptoBulkAll elems + uptoBulkAll spare + 1
  | .agg parts => uptoBulkAll parts + 1
  | .iface _ d => uptoBulk d + 1
  | .map entries => uptoBulkEntries entries + 1
  | .held _ => 1
def uptoBulkAll {H : Type} : List (DataW H) → Nat
  | [] => 0
  | d :: r => uptoBulk d + uptoBulkAll r
def uptoBulkEntries {H : Type} : List (Lit × DataW H) → Nat
  | [] => 0
  | x :: r => uptoBulkEntry x + uptoBulkEntries r
def uptoBulkEntry {H : Type} : Lit × DataW H → Nat
  | (.string bytes, d) => bytes.length + uptoBulk d + 1
  | (_, d) => uptoBulk d + 1
 end
def uptoSmall : (H : Type) → List (DataW H) → Bool := fun _ ds => decide (uptoBulkAll ds ≤ 1048576)
def OpenSpec.upto (s : _root_.Go.ChangeSpec) : _root_.Go.OpenSpec := { _root_.Go.OpenSpec.ofChange s with cond := some uptoSmall }

/-- 'gypsumlaw09.CertifyTurned', WHERE WHAT IT READS IS OF BULK AT MOST 1048576: true; the input reads as it did. -/
def certifyTurnedUptoRow : OpenClaim := { program := "ytnnbcflpbpafeaa", sum := "e4a515b8d365f9fd59e84c05aa868461bfb8ec1e9ddbab1500ad8e30dfee00f8", func := "gypsum/gypsumlaw09.CertifyTurned", spec := "certifyTurned", unfollowed := true, recurses := true, plainKeys := false, apart := false, narrowed := true }
def CertifyTurnedUptoSaid : Prop := certifyTurnedUptoRow.holds Try.pinned (OpenSpec.upto certifyTurnedSpec)

/-- 'gypsumlaw09.CertifyNumbered', WHERE WHAT IT READS IS OF BULK AT MOST 1048576: true; the input reads as it did. -/
def certifyNumberedUptoRow : OpenClaim := { program := "ytnnbcflpbpafeaa", sum := "e4a515b8d365f9fd59e84c05aa868461bfb8ec1e9ddbab1500ad8e30dfee00f8", func := "gypsum/gypsumlaw09.CertifyNumbered", spec := "certifyNumbered", unfollowed := true, recurses := true, plainKeys := false, apart := false, narrowed := true }
def CertifyNumberedUptoSaid : Prop := certifyNumberedUptoRow.holds Try.pinned (OpenSpec.upto certifyNumberedSpec)

/-- 'gypsumlaw09.CertifyJoined', WHERE WHAT IT READS IS OF BULK AT MOST 1048576: true; the input reads as it did. -/
def certifyJoinedUptoRow : OpenClaim := { program := "ytnnbcflpbpafeaa", sum := "e4a515b8d365f9fd59e84c05aa868461bfb8ec1e9ddbab1500ad8e30dfee00f8", func := "gypsum/gypsumlaw09.CertifyJoined", spec := "certifyJoined", unfollowed := true, recurses := true, plainKeys := false, apart := false, narrowed := true }
def CertifyJoinedUptoSaid : Prop := certifyJoinedUptoRow.holds Try.pinned (OpenSpec.upto certifyJoinedSpec)

/-- 'gypsumlaw09.CertifyOpened', WHERE WHAT IT READS IS OF BULK AT MOST 1048576: true; the input reads as it did. -/
def certifyOpenedUptoRow : OpenClaim := { program := "ytnnbcflpbpafeaa", sum := "e4a515b8d365f9fd59e84c05aa868461bfb8ec1e9ddbab1500ad8e30dfee00f8", func := "gypsum/gypsumlaw09.CertifyOpened", spec := "certifyOpened", unfollowed := true, recurses := true, plainKeys := false, apart := false, narrowed := true }
def CertifyOpenedUptoSaid : Prop := certifyOpenedUptoRow.holds Try.pinned (OpenSpec.upto certifyOpenedSpec)

/-- 'gypsumlaw09.CertifyTwins', WHERE WHAT IT READS IS OF BULK AT MOST 1048576: true; the input reads as it did. -/
def certifyTwinsUptoRow : OpenClaim := { program := "ytnnbcflpbpafeaa", sum := "e4a515b8d365f9fd59e84c05aa868461bfb8ec1e9ddbab1500ad8e30dfee00f8", func := "gypsum/gypsumlaw09.CertifyTwins", spec := "certifyTwins", unfollowed := true, recurses := true, plainKeys := false, apart := false, narrowed := true }
def CertifyTwinsUptoSaid : Prop := certifyTwinsUptoRow.holds Try.pinned (OpenSpec.upto certifyTwinsSpec)

/-- 'gypsumlaw09.CertifyLonely', WHERE WHAT IT READS IS OF BULK AT MOST 1048576: true; the input reads as it did. -/
def certifyLonelyUptoRow : OpenClaim := { program := "ytnnbcflpbpafeaa", sum := "e4a515b8d365f9fd59e84c05aa868461bfb8ec1e9ddbab1500ad8e30dfee00f8", func := "gypsum/gypsumlaw09.CertifyLonely", spec := "certifyLonely", unfollowed := true, recurses := true, plainKeys := false, apart := false, narrowed := true }
def CertifyLonelyUptoSaid : Prop := certifyLonelyUptoRow.holds Try.pinned (OpenSpec.upto certifyLonelySpec)

/-- 'gypsumlaw09.CertifyTells', WHERE WHAT IT READS IS OF BULK AT MOST 1048576: true; the input reads as it did. -/
def certifyTellsUptoRow : OpenClaim := { program := "ytnnbcflpbpafeaa", sum := "e4a515b8d365f9fd59e84c05aa868461bfb8ec1e9ddbab1500ad8e30dfee00f8", func := "gypsum/gypsumlaw09.CertifyTells", spec := "certifyTells", unfollowed := true, recurses := true, plainKeys := false, apart := false, narrowed := true }
def CertifyTellsUptoSaid : Prop := certifyTellsUptoRow.holds Try.pinned (OpenSpec.upto certifyTellsSpec)

/-- 'gypsumlaw09.CertifyTrue', WHERE WHAT IT READS IS OF BULK AT MOST 1048576: true; the input reads as it did. -/
def certifyTrueUptoRow : OpenClaim := { program := "ytnnbcflpbpafeaa", sum := "e4a515b8d365f9fd59e84c05aa868461bfb8ec1e9ddbab1500ad8e30dfee00f8", func := "gypsum/gypsumlaw09.CertifyTrue", spec := "certifyTrue", unfollowed := true, recurses := true, plainKeys := false, apart := false, narrowed := true }
def CertifyTrueUptoSaid : Prop := certifyTrueUptoRow.holds Try.pinned (OpenSpec.upto certifyTrueSpec)

end Rows
end Go.Proofs.Ytnnbcflpbpafeaa
