/-
  No cell of these rows narrows 'for every input' (looked for: loops, veiled, ifaces, maps, wideKeys, modest, calm, conditions, laid).
  DERIVED. THE GIVEN ROWS OF THIS SEAT. 7 by the template 'for every input the law returns true; each argument reads behind the call as it read before'; 0 by the template 'total and deterministic' (their statements: YtieoeednfgpoiaaTotals.lean).
  GIVEN WITH THE SEED: the statements are not yours to turn. If you find one false, say at which input.
  Laid BY PROGRAM, IN A SANDBOX (cutbox-rows.mjs): the forced cells as the released guide's own fill.sh prints them over the translation 5fdf6c1f1662dcb4… (all of the seat's roots in one cut). By AI agents, Wed Nov 11 2026. No macro, syntax, notation, axiom, sorry.
-/
import Derived.Test.YtieoeednfgpoiaaChecked
import GoSem.Claim
import GoSem.ClaimJoined
import GoSem.ClaimMapViews
import Derived.JoinedTies
import Derived.KernelRfl
namespace Go.Proofs.Ytieoeednfgpoiaa
/- THE CELL 'sum', in the pinned program and in every row, IS THE sha256 OF THE DUMP (.gsa) THAT YtieoeednfgpoiaaProg.lean LOADS. Nothing in Lean hashes anything: it is a label: what it is worth is what the hold of that sum in a sandbox is worth. -/
noncomputable def Try.pinned : Pinned := { name := "ytieoeednfgpoiaa", sum := "5fdf6c1f1662dcb4c273872b7db5048df7efff53728783295774124d947dc6c1", checked := Try.checked }
namespace Rows
def none {H : Type} : Left H := { results := [], args := [] }

/-- 'gypsumlaw53.LineTells': WHATEVER THE INPUT: true; the input reads as it did. -/
def lineTellsSpec : ChangeSpec := { name := "lineTells", fn := fun _ => fun
  | [d1, d2, d3] => { results := [.lit (.bool true)], args := [d1, d2, d3] }
  | _ => none }
def lineTellsRow : OpenClaim := { program := "ytieoeednfgpoiaa", sum := "5fdf6c1f1662dcb4c273872b7db5048df7efff53728783295774124d947dc6c1", func := "gypsum/gypsumlaw53.LineTells", spec := "lineTells", unfollowed := true, recurses := true, apart := false }
def LineTellsSaid : Prop := lineTellsRow.holds Try.pinned (OpenSpec.ofChange lineTellsSpec)

/-- ITS FALSE NEIGHBOUR: 'it returns false'. Refute it at one input. -/
def lineTellsWrong : ChangeSpec := { name := "lineTells", fn := fun _ => fun
  | [d1, d2, d3] => { results := [.lit (.bool false)], args := [d1, d2, d3] }
  | _ => none }
def LineTellsWrongFalsely : Prop := lineTellsRow.holds Try.pinned (OpenSpec.ofChange lineTellsWrong)

/-- 'gypsumlaw53.LineFronts': WHATEVER THE INPUT: true; the input reads as it did. -/
def lineFrontsSpec : ChangeSpec := { name := "lineFronts", fn := fun _ => fun
  | [d1, d2] => { results := [.lit (.bool true)], args := [d1, d2] }
  | _ => none }
def lineFrontsRow : OpenClaim := { program := "ytieoeednfgpoiaa", sum := "5fdf6c1f1662dcb4c273872b7db5048df7efff53728783295774124d947dc6c1", func := "gypsum/gypsumlaw53.LineFronts", spec := "lineFronts", unfollowed := true, recurses := true, apart := false }
def LineFrontsSaid : Prop := lineFrontsRow.holds Try.pinned (OpenSpec.ofChange lineFrontsSpec)

/-- ITS FALSE NEIGHBOUR: 'it returns false'. Refute it at one input. -/
def lineFrontsWrong : ChangeSpec := { name := "lineFronts", fn := fun _ => fun
  | [d1, d2] => { results := [.lit (.bool false)], args := [d1, d2] }
  | _ => none }
def LineFrontsWrongFalsely : Prop := lineFrontsRow.holds Try.pinned (OpenSpec.ofChange lineFrontsWrong)

/-- 'gypsumlaw53.LineLost': WHATEVER THE INPUT: true; the input reads as it did. -/
def lineLostSpec : ChangeSpec := { name := "lineLost", fn := fun _ => fun
  | [d1, d2] => { results := [.lit (.bool true)], args := [d1, d2] }
  | _ => none }
def lineLostRow : OpenClaim := { program := "ytieoeednfgpoiaa", sum := "5fdf6c1f1662dcb4c273872b7db5048df7efff53728783295774124d947dc6c1", func := "gypsum/gypsumlaw53.LineLost", spec := "lineLost", unfollowed := true, recurses := true, apart := false }
def LineLostSaid : Prop := lineLostRow.holds Try.pinned (OpenSpec.ofChange lineLostSpec)

/-- ITS FALSE NEIGHBOUR: 'it returns false'. Refute it at one input. -/
def lineLostWrong : ChangeSpec := { name := "lineLost", fn := fun _ => fun
  | [d1, d2] => { results := [.lit (.bool false)], args := [d1, d2] }
  | _ => none }
def LineLostWrongFalsely : Prop := lineLostRow.holds Try.pinned (OpenSpec.ofChange lineLostWrong)

/-- 'gypsumlaw53.LineInbox': WHATEVER THE INPUT: true; the input reads as it did. -/
def lineInboxSpec : ChangeSpec := { name := "lineInbox", fn := fun _ => fun
  | [d1, d2] => { results := [.lit (.bool true)], args := [d1, d2] }
  | _ => none }
def lineInboxRow : OpenClaim := { program := "ytieoeednfgpoiaa", sum := "5fdf6c1f1662dcb4c273872b7db5048df7efff53728783295774124d947dc6c1", func := "gypsum/gypsumlaw53.LineInbox", spec := "lineInbox", unfollowed := true, recurses := true, apart := false }
def LineInboxSaid : Prop := lineInboxRow.holds Try.pinned (OpenSpec.ofChange lineInboxSpec)

/-- ITS FALSE NEIGHBOUR: 'it returns false'. Refute it at one input. -/
def lineInboxWrong : ChangeSpec := { name := "lineInbox", fn := fun _ => fun
  | [d1, d2] => { results := [.lit (.bool false)], args := [d1, d2] }
  | _ => none }
def LineInboxWrongFalsely : Prop := lineInboxRow.holds Try.pinned (OpenSpec.ofChange lineInboxWrong)

/-- 'gypsumlaw53.LineRates': WHATEVER THE INPUT: true; the input reads as it did. -/
def lineRatesSpec : ChangeSpec := { name := "lineRates", fn := fun _ => fun
  | [d1, d2, d3] => { results := [.lit (.bool true)], args := [d1, d2, d3] }
  | _ => none }
def lineRatesRow : OpenClaim := { program := "ytieoeednfgpoiaa", sum := "5fdf6c1f1662dcb4c273872b7db5048df7efff53728783295774124d947dc6c1", func := "gypsum/gypsumlaw53.LineRates", spec := "lineRates", unfollowed := true, recurses := true, apart := false }
def LineRatesSaid : Prop := lineRatesRow.holds Try.pinned (OpenSpec.ofChange lineRatesSpec)

/-- ITS FALSE NEIGHBOUR: 'it returns false'. Refute it at one input. -/
def lineRatesWrong : ChangeSpec := { name := "lineRates", fn := fun _ => fun
  | [d1, d2, d3] => { results := [.lit (.bool false)], args := [d1, d2, d3] }
  | _ => none }
def LineRatesWrongFalsely : Prop := lineRatesRow.holds Try.pinned (OpenSpec.ofChange lineRatesWrong)

/-- 'gypsumlaw53.LineFull': WHATEVER THE INPUT: true; the input reads as it did. -/
def lineFullSpec : ChangeSpec := { name := "lineFull", fn := fun _ => fun
  | [d] => { results := [.lit (.bool true)], args := [d] }
  | _ => none }
def lineFullRow : OpenClaim := { program := "ytieoeednfgpoiaa", sum := "5fdf6c1f1662dcb4c273872b7db5048df7efff53728783295774124d947dc6c1", func := "gypsum/gypsumlaw53.LineFull", spec := "lineFull", unfollowed := true, recurses := true, apart := false }
def LineFullSaid : Prop := lineFullRow.holds Try.pinned (OpenSpec.ofChange lineFullSpec)

/-- ITS FALSE NEIGHBOUR: 'it returns false'. Refute it at one input. -/
def lineFullWrong : ChangeSpec := { name := "lineFull", fn := fun _ => fun
  | [d] => { results := [.lit (.bool false)], args := [d] }
  | _ => none }
def LineFullWrongFalsely : Prop := lineFullRow.holds Try.pinned (OpenSpec.ofChange lineFullWrong)

/-- 'gypsumlaw53.LineNone': WHATEVER THE INPUT: true; the input reads as it did. -/
def lineNoneSpec : ChangeSpec := { name := "lineNone", fn := fun _ => fun
  | [d] => { results := [.lit (.bool true)], args := [d] }
  | _ => none }
def lineNoneRow : OpenClaim := { program := "ytieoeednfgpoiaa", sum := "5fdf6c1f1662dcb4c273872b7db5048df7efff53728783295774124d947dc6c1", func := "gypsum/gypsumlaw53.LineNone", spec := "lineNone", unfollowed := true, recurses := true, apart := false }
def LineNoneSaid : Prop := lineNoneRow.holds Try.pinned (OpenSpec.ofChange lineNoneSpec)

/-- ITS FALSE NEIGHBOUR: 'it returns false'. Refute it at one input. -/
def lineNoneWrong : ChangeSpec := { name := "lineNone", fn := fun _ => fun
  | [d] => { results := [.lit (.bool false)], args := [d] }
  | _ => none }
def LineNoneWrongFalsely : Prop := lineNoneRow.holds Try.pinned (OpenSpec.ofChange lineNoneWrong)

/- THE SECOND FORM. 'bulk': how many values and letters a reading holds, each counted each time it is reached (what is shared counts as often as it is met; a slice's spare places count too). A statement '..UptoSaid' is the law's where the arguments, and the package variables that the reading takes, are together of bulk at most 1048576: NARROWER than '..Said'. Prove '..Said' where nothing that the law and all that it calls make is longer than what came in: it says more and counts as full. Else prove '..UptoSaid'. A law counts once. -/
mutual
def uptoBulk {H : Type} : DataW H → Nat
  | .lit (.string bytes) => bytes.length + 1
  | .lit _ => 1
  | .nil => 1
  | .ptr d => uptoBulk d + 1
  | .slice elems spare => uptoBulkAll elems + uptoBulkAll spare + 1
  | .agg parts => uptoBulkAll parts + 1
  | .iface _ d => uptoBulk d + 1
  | .map entries => uptoBulkEntries entries + 1
  | .held _ => 1
def uptoBulkAll {H : Type} : List (DataW H) → Nat
  | [] => 0
  | d :: r => uptoBulk d + uptoBulkAll r
def uptoBulkEntries {H : Type} : List (Lit × DataW H) → Nat
  | [] => 0
  | x :: r => uptoBulkEntry x + uptoBulkEntries r
def uptoBulkEntry {H : Type} : Lit × DataW H → Nat
  | (.string bytes, d) => bytes.length + uptoBulk d + 1
  | (_, d) => uptoBulk d + 1
 end
def uptoSmall : (H : Type) → List (DataW H) → Bool := fun _ ds => decide (uptoBulkAll ds ≤ 1048576)
def OpenSpec.upto (s : _root_.Go.ChangeSpec) : _root_.Go.OpenSpec := { _root_.Go.OpenSpec.ofChange s with cond := some uptoSmall }

/-- 'gypsumlaw53.LineTells', WHERE WHAT IT READS IS OF BULK AT MOST 1048576: true; the input reads as it did. -/
def lineTellsUptoRow : OpenClaim := { program := "ytieoeednfgpoiaa", sum := "5fdf6c1f1662dcb4c273872b7db5048df7efff53728783295774124d947dc6c1", func := "gypsum/gypsumlaw53.LineTells", spec := "lineTells", unfollowed := true, recurses := true, apart := false, narrowed := true }
def LineTellsUptoSaid : Prop := lineTellsUptoRow.holds Try.pinned (OpenSpec.upto lineTellsSpec)

/-- 'gypsumlaw53.LineFronts', WHERE WHAT IT READS IS OF BULK AT MOST 1048576: true; the input reads as it did. -/
def lineFrontsUptoRow : OpenClaim := { program := "ytieoeednfgpoiaa", sum := "5fdf6c1f1662dcb4c273872b7db5048df7efff53728783295774124d947dc6c1", func := "gypsum/gypsumlaw53.LineFronts", spec := "lineFronts", unfollowed := true, recurses := true, apart := false, narrowed := true }
def LineFrontsUptoSaid : Prop := lineFrontsUptoRow.holds Try.pinned (OpenSpec.upto lineFrontsSpec)

/-- 'gypsumlaw53.LineLost', WHERE WHAT IT READS IS OF BULK AT MOST 1048576: true; the input reads as it did. -/
def lineLostUptoRow : OpenClaim := { program := "ytieoeednfgpoiaa", sum := "5fdf6c1f1662dcb4c273872b7db5048df7efff53728783295774124d947dc6c1", func := "gypsum/gypsumlaw53.LineLost", spec := "lineLost", unfollowed := true, recurses := true, apart := false, narrowed := true }
def LineLostUptoSaid : Prop := lineLostUptoRow.holds Try.pinned (OpenSpec.upto lineLostSpec)

/-- 'gypsumlaw53.LineInbox', WHERE WHAT IT READS IS OF BULK AT MOST 1048576: true; the input reads as it did. -/
def lineInboxUptoRow : OpenClaim := { program := "ytieoeednfgpoiaa", sum := "5fdf6c1f1662dcb4c273872b7db5048df7efff53728783295774124d947dc6c1", func := "gypsum/gypsumlaw53.LineInbox", spec := "lineInbox", unfollowed := true, recurses := true, apart := false, narrowed := true }
def LineInboxUptoSaid : Prop := lineInboxUptoRow.holds Try.pinned (OpenSpec.upto lineInboxSpec)

/-- 'gypsumlaw53.LineRates', WHERE WHAT IT READS IS OF BULK AT MOST 1048576: true; the input reads as it did. -/
def lineRatesUptoRow : OpenClaim := { program := "ytieoeednfgpoiaa", sum := "5fdf6c1f1662dcb4c273872b7db5048df7efff53728783295774124d947dc6c1", func := "gypsum/gypsumlaw53.LineRates", spec := "lineRates", unfollowed := true, recurses := true, apart := false, narrowed := true }
def LineRatesUptoSaid : Prop := lineRatesUptoRow.holds Try.pinned (OpenSpec.upto lineRatesSpec)

/-- 'gypsumlaw53.LineFull', WHERE WHAT IT READS IS OF BULK AT MOST 1048576: true; the input reads as it did. -/
def lineFullUptoRow : OpenClaim := { program := "ytieoeednfgpoiaa", sum := "5fdf6c1f1662dcb4c273872b7db5048df7efff53728783295774124d947dc6c1", func := "gypsum/gypsumlaw53.LineFull", spec := "lineFull", unfollowed := true, recurses := true, apart := false, narrowed := true }
def LineFullUptoSaid : Prop := lineFullUptoRow.holds Try.pinned (OpenSpec.upto lineFullSpec)

/-- 'gypsumlaw53.LineNone', WHERE WHAT IT READS IS OF BULK AT MOST 1048576: true; the input reads as it did. -/
def lineNoneUptoRow : OpenClaim := { program := "ytieoeednfgpoiaa", sum := "5fdf6c1f1662dcb4c273872b7db5048df7efff53728783295774124d947dc6c1", func := "gypsum/gypsumlaw53.LineNone", spec := "lineNone", unfollowed := true, recurses := true, apart := false, narrowed := true }
def LineNoneUptoSaid : Prop := lineNoneUptoRow.holds Try.pinned (OpenSpec.upto lineNoneSpec)

end Rows
end Go.Proofs.Ytieoeednfgpoiaa
