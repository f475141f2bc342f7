/-
  No cell of these rows narrows 'for every input' (looked for: loops, veiled, ifaces, maps, wideKeys, modest, calm, conditions, laid).
  DERIVED. THE GIVEN ROWS OF THIS SEAT. 8 by the template 'for every input the law returns true; each argument reads behind the call as it read before'; 0 by the template 'total and deterministic' (their statements: YtdmibpcpocacpaaTotals.lean).
  GIVEN WITH THE SEED: the statements are not yours to turn. If you find one false, say at which input.
  Laid BY PROGRAM, IN A SANDBOX (cutbox-rows.mjs): the forced cells as the released guide's own fill.sh prints them over the translation 7e78b166aee9627e… (all of the seat's roots in one cut). By AI agents, Wed Nov 11 2026. No macro, syntax, notation, axiom, sorry.
-/
import Derived.Test.YtdmibpcpocacpaaChecked
import GoSem.Claim
import GoSem.ClaimJoined
import GoSem.ClaimMapViews
import Derived.JoinedTies
import Derived.KernelRfl
namespace Go.Proofs.Ytdmibpcpocacpaa
/- THE CELL 'sum', in the pinned program and in every row, IS THE sha256 OF THE DUMP (.gsa) THAT YtdmibpcpocacpaaProg.lean LOADS. Nothing in Lean hashes anything: it is a label: what it is worth is what the hold of that sum in a sandbox is worth. -/
noncomputable def Try.pinned : Pinned := { name := "ytdmibpcpocacpaa", sum := "7e78b166aee9627edd2126c9cfc56dc5bd1871fa98fee4a717109dadc2247884", checked := Try.checked }
namespace Rows
def none {H : Type} : Left H := { results := [], args := [] }

/-- 'gypsumlaw10.CornerTells': WHATEVER THE INPUT: true; the input reads as it did. -/
def cornerTellsSpec : ChangeSpec := { name := "cornerTells", fn := fun _ => fun
  | [d1, d2] => { results := [.lit (.bool true)], args := [d1, d2] }
  | _ => none }
def cornerTellsRow : OpenClaim := { program := "ytdmibpcpocacpaa", sum := "7e78b166aee9627edd2126c9cfc56dc5bd1871fa98fee4a717109dadc2247884", func := "gypsum/gypsumlaw10.CornerTells", spec := "cornerTells", unfollowed := true, recurses := true, plainKeys := false, apart := false }
def CornerTellsSaid : Prop := cornerTellsRow.holds Try.pinned (OpenSpec.ofChange cornerTellsSpec)

/-- ITS FALSE NEIGHBOUR: 'it returns false'. Refute it at one input. -/
def cornerTellsWrong : ChangeSpec := { name := "cornerTells", fn := fun _ => fun
  | [d1, d2] => { results := [.lit (.bool false)], args := [d1, d2] }
  | _ => none }
def CornerTellsWrongFalsely : Prop := cornerTellsRow.holds Try.pinned (OpenSpec.ofChange cornerTellsWrong)

/-- 'gypsumlaw10.CornerFaces': WHATEVER THE INPUT: true; the input reads as it did. -/
def cornerFacesSpec : ChangeSpec := { name := "cornerFaces", fn := fun _ => fun
  | [d1, d2, d3] => { results := [.lit (.bool true)], args := [d1, d2, d3] }
  | _ => none }
def cornerFacesRow : OpenClaim := { program := "ytdmibpcpocacpaa", sum := "7e78b166aee9627edd2126c9cfc56dc5bd1871fa98fee4a717109dadc2247884", func := "gypsum/gypsumlaw10.CornerFaces", spec := "cornerFaces", unfollowed := true, recurses := true, plainKeys := false, apart := false }
def CornerFacesSaid : Prop := cornerFacesRow.holds Try.pinned (OpenSpec.ofChange cornerFacesSpec)

/-- ITS FALSE NEIGHBOUR: 'it returns false'. Refute it at one input. -/
def cornerFacesWrong : ChangeSpec := { name := "cornerFaces", fn := fun _ => fun
  | [d1, d2, d3] => { results := [.lit (.bool false)], args := [d1, d2, d3] }
  | _ => none }
def CornerFacesWrongFalsely : Prop := cornerFacesRow.holds Try.pinned (OpenSpec.ofChange cornerFacesWrong)

/-- 'gypsumlaw10.CornerAcross': WHATEVER THE INPUT: true; the input reads as it did. -/
def cornerAcrossSpec : ChangeSpec := { name := "cornerAcross", fn := fun _ => fun
  | [d] => { results := [.lit (.bool true)], args := [d] }
  | _ => none }
def cornerAcrossRow : OpenClaim := { program := "ytdmibpcpocacpaa", sum := "7e78b166aee9627edd2126c9cfc56dc5bd1871fa98fee4a717109dadc2247884", func := "gypsum/gypsumlaw10.CornerAcross", spec := "cornerAcross", unfollowed := true, recurses := true, plainKeys := false, apart := false }
def CornerAcrossSaid : Prop := cornerAcrossRow.holds Try.pinned (OpenSpec.ofChange cornerAcrossSpec)

/-- ITS FALSE NEIGHBOUR: 'it returns false'. Refute it at one input. -/
def cornerAcrossWrong : ChangeSpec := { name := "cornerAcross", fn := fun _ => fun
  | [d] => { results := [.lit (.bool false)], args := [d] }
  | _ => none }
def CornerAcrossWrongFalsely : Prop := cornerAcrossRow.holds Try.pinned (OpenSpec.ofChange cornerAcrossWrong)

/-- 'gypsumlaw10.CornerMirror': WHATEVER THE INPUT: true; the input reads as it did. -/
def cornerMirrorSpec : ChangeSpec := { name := "cornerMirror", fn := fun _ => fun
  | [d] => { results := [.lit (.bool true)], args := [d] }
  | _ => none }
def cornerMirrorRow : OpenClaim := { program := "ytdmibpcpocacpaa", sum := "7e78b166aee9627edd2126c9cfc56dc5bd1871fa98fee4a717109dadc2247884", func := "gypsum/gypsumlaw10.CornerMirror", spec := "cornerMirror", unfollowed := true, recurses := true, plainKeys := false, apart := false }
def CornerMirrorSaid : Prop := cornerMirrorRow.holds Try.pinned (OpenSpec.ofChange cornerMirrorSpec)

/-- ITS FALSE NEIGHBOUR: 'it returns false'. Refute it at one input. -/
def cornerMirrorWrong : ChangeSpec := { name := "cornerMirror", fn := fun _ => fun
  | [d] => { results := [.lit (.bool false)], args := [d] }
  | _ => none }
def CornerMirrorWrongFalsely : Prop := cornerMirrorRow.holds Try.pinned (OpenSpec.ofChange cornerMirrorWrong)

/-- 'gypsumlaw10.CornerNew': WHATEVER THE INPUT: true; the input reads as it did. -/
def cornerNewSpec : ChangeSpec := { name := "cornerNew", fn := fun _ => fun
  | [d] => { results := [.lit (.bool true)], args := [d] }
  | _ => none }
def cornerNewRow : OpenClaim := { program := "ytdmibpcpocacpaa", sum := "7e78b166aee9627edd2126c9cfc56dc5bd1871fa98fee4a717109dadc2247884", func := "gypsum/gypsumlaw10.CornerNew", spec := "cornerNew", unfollowed := true, recurses := true, plainKeys := false, apart := false }
def CornerNewSaid : Prop := cornerNewRow.holds Try.pinned (OpenSpec.ofChange cornerNewSpec)

/-- ITS FALSE NEIGHBOUR: 'it returns false'. Refute it at one input. -/
def cornerNewWrong : ChangeSpec := { name := "cornerNew", fn := fun _ => fun
  | [d] => { results := [.lit (.bool false)], args := [d] }
  | _ => none }
def CornerNewWrongFalsely : Prop := cornerNewRow.holds Try.pinned (OpenSpec.ofChange cornerNewWrong)

/-- 'gypsumlaw10.CornerOwn': WHATEVER THE INPUT: true; the input reads as it did. -/
def cornerOwnSpec : ChangeSpec := { name := "cornerOwn", fn := fun _ => fun
  | [d1, d2, d3] => { results := [.lit (.bool true)], args := [d1, d2, d3] }
  | _ => none }
def cornerOwnRow : OpenClaim := { program := "ytdmibpcpocacpaa", sum := "7e78b166aee9627edd2126c9cfc56dc5bd1871fa98fee4a717109dadc2247884", func := "gypsum/gypsumlaw10.CornerOwn", spec := "cornerOwn", unfollowed := true, recurses := true, plainKeys := false, apart := false }
def CornerOwnSaid : Prop := cornerOwnRow.holds Try.pinned (OpenSpec.ofChange cornerOwnSpec)

/-- ITS FALSE NEIGHBOUR: 'it returns false'. Refute it at one input. -/
def cornerOwnWrong : ChangeSpec := { name := "cornerOwn", fn := fun _ => fun
  | [d1, d2, d3] => { results := [.lit (.bool false)], args := [d1, d2, d3] }
  | _ => none }
def CornerOwnWrongFalsely : Prop := cornerOwnRow.holds Try.pinned (OpenSpec.ofChange cornerOwnWrong)

/-- 'gypsumlaw10.CornerTurned': WHATEVER THE INPUT: true; the input reads as it did. -/
def cornerTurnedSpec : ChangeSpec := { name := "cornerTurned", fn := fun _ => fun
  | [d1, d2] => { results := [.lit (.bool true)], args := [d1, d2] }
  | _ => none }
def cornerTurnedRow : OpenClaim := { program := "ytdmibpcpocacpaa", sum := "7e78b166aee9627edd2126c9cfc56dc5bd1871fa98fee4a717109dadc2247884", func := "gypsum/gypsumlaw10.CornerTurned", spec := "cornerTurned", unfollowed := true, recurses := true, plainKeys := false, apart := false }
def CornerTurnedSaid : Prop := cornerTurnedRow.holds Try.pinned (OpenSpec.ofChange cornerTurnedSpec)

/-- ITS FALSE NEIGHBOUR: 'it returns false'. Refute it at one input. -/
def cornerTurnedWrong : ChangeSpec := { name := "cornerTurned", fn := fun _ => fun
  | [d1, d2] => { results := [.lit (.bool false)], args := [d1, d2] }
  | _ => none }
def CornerTurnedWrongFalsely : Prop := cornerTurnedRow.holds Try.pinned (OpenSpec.ofChange cornerTurnedWrong)

/-- 'gypsumlaw10.CornerRenamed': WHATEVER THE INPUT: true; the input reads as it did. -/
def cornerRenamedSpec : ChangeSpec := { name := "cornerRenamed", fn := fun _ => fun
  | [d1, d2] => { results := [.lit (.bool true)], args := [d1, d2] }
  | _ => none }
def cornerRenamedRow : OpenClaim := { program := "ytdmibpcpocacpaa", sum := "7e78b166aee9627edd2126c9cfc56dc5bd1871fa98fee4a717109dadc2247884", func := "gypsum/gypsumlaw10.CornerRenamed", spec := "cornerRenamed", unfollowed := true, recurses := true, plainKeys := false, apart := false }
def CornerRenamedSaid : Prop := cornerRenamedRow.holds Try.pinned (OpenSpec.ofChange cornerRenamedSpec)

/-- ITS FALSE NEIGHBOUR: 'it returns false'. Refute it at one input. -/
def cornerRenamedWrong : ChangeSpec := { name := "cornerRenamed", fn := fun _ => fun
  | [d1, d2] => { results := [.lit (.bool false)], args := [d1, d2] }
  | _ => none }
def CornerRenamedWrongFalsely : Prop := cornerRenamedRow.holds Try.pinned (OpenSpec.ofChange cornerRenamedWrong)

/- THE SECOND FORM. 'bulk': how many values and letters a reading holds, each counted each time it is reached (what is shared counts as often as it is met; a slice's spare places count too). A statement '..UptoSaid' is the law's where the arguments, and the package variables that the reading takes, are together of bulk at most 1048576: NARROWER than '..Said'. Prove '..Said' where nothing that the law and all that it calls make is longer than what came in: it says more and counts as full. Else prove '..UptoSaid'. A law counts once. -/
mutual
def uptoBulk {H : Type} : DataW H → Nat
  | .lit (.string bytes) => bytes.length + 1
  | .lit _ => 1
  | .nil => 1
  | .ptr d => uptoBulk d + 1
  | .slice elems spare => uptoBulkAll elems + uptoBulkAll spare + 1
  | .agg parts => uptoBulkAll parts + 1
  | .iface _ d => uptoBulk d + 1
  | .map entries => uptoBulkEntries entries + 1
  | .held _ => 1
def uptoBulkAll {H : Type} : List (DataW H) → Nat
  | [] => 0
  | d :: r => uptoBulk d + uptoBulkAll r
def uptoBulkEntries {H : Type} : List (Lit × DataW H) → Nat
  | [] => 0
  | x :: r => uptoBulkEntry x + uptoBulkEntries r
def uptoBulkEntry {H : Type} : Lit × DataW H → Nat
  | (.string bytes, d) => bytes.length + uptoBulk d + 1
  | (_, d) => uptoBulk d + 1
 end
def uptoSmall : (H : Type) → List (DataW H) → Bool := fun _ ds => decide (uptoBulkAll ds ≤ 1048576)
def OpenSpec.upto (s : _root_.Go.ChangeSpec) : _root_.Go.OpenSpec := { _root_.Go.OpenSpec.ofChange s with cond := some uptoSmall }

/-- 'gypsumlaw10.CornerTells', WHERE WHAT IT READS IS OF BULK AT MOST 1048576: true; the input reads as it did. -/
def cornerTellsUptoRow : OpenClaim := { program := "ytdmibpcpocacpaa", sum := "7e78b166aee9627edd2126c9cfc56dc5bd1871fa98fee4a717109dadc2247884", func := "gypsum/gypsumlaw10.CornerTells", spec := "cornerTells", unfollowed := true, recurses := true, plainKeys := false, apart := false, narrowed := true }
def CornerTellsUptoSaid : Prop := cornerTellsUptoRow.holds Try.pinned (OpenSpec.upto cornerTellsSpec)

/-- 'gypsumlaw10.CornerFaces', WHERE WHAT IT READS IS OF BULK AT MOST 1048576: true; the input reads as it did. -/
def cornerFacesUptoRow : OpenClaim := { program := "ytdmibpcpocacpaa", sum := "7e78b166aee9627edd2126c9cfc56dc5bd1871fa98fee4a717109dadc2247884", func := "gypsum/gypsumlaw10.CornerFaces", spec := "cornerFaces", unfollowed := true, recurses := true, plainKeys := false, apart := false, narrowed := true }
def CornerFacesUptoSaid : Prop := cornerFacesUptoRow.holds Try.pinned (OpenSpec.upto cornerFacesSpec)

/-- 'gypsumlaw10.CornerAcross', WHERE WHAT IT READS IS OF BULK AT MOST 1048576: true; the input reads as it did. -/
def cornerAcrossUptoRow : OpenClaim := { program := "ytdmibpcpocacpaa", sum := "7e78b166aee9627edd2126c9cfc56dc5bd1871fa98fee4a717109dadc2247884", func := "gypsum/gypsumlaw10.CornerAcross", spec := "cornerAcross", unfollowed := true, recurses := true, plainKeys := false, apart := false, narrowed := true }
def CornerAcrossUptoSaid : Prop := cornerAcrossUptoRow.holds Try.pinned (OpenSpec.upto cornerAcrossSpec)

/-- 'gypsumlaw10.CornerMirror', WHERE WHAT IT READS IS OF BULK AT MOST 1048576: true; the input reads as it did. -/
def cornerMirrorUptoRow : OpenClaim := { program := "ytdmibpcpocacpaa", sum := "7e78b166aee9627edd2126c9cfc56dc5bd1871fa98fee4a717109dadc2247884", func := "gypsum/gypsumlaw10.CornerMirror", spec := "cornerMirror", unfollowed := true, recurses := true, plainKeys := false, apart := false, narrowed := true }
def CornerMirrorUptoSaid : Prop := cornerMirrorUptoRow.holds Try.pinned (OpenSpec.upto cornerMirrorSpec)

/-- 'gypsumlaw10.CornerNew', WHERE WHAT IT READS IS OF BULK AT MOST 1048576: true; the input reads as it did. -/
def cornerNewUptoRow : OpenClaim := { program := "ytdmibpcpocacpaa", sum := "7e78b166aee9627edd2126c9cfc56dc5bd1871fa98fee4a717109dadc2247884", func := "gypsum/gypsumlaw10.CornerNew", spec := "cornerNew", unfollowed := true, recurses := true, plainKeys := false, apart := false, narrowed := true }
def CornerNewUptoSaid : Prop := cornerNewUptoRow.holds Try.pinned (OpenSpec.upto cornerNewSpec)

/-- 'gypsumlaw10.CornerOwn', WHERE WHAT IT READS IS OF BULK AT MOST 1048576: true; the input reads as it did. -/
def cornerOwnUptoRow : OpenClaim := { program := "ytdmibpcpocacpaa", sum := "7e78b166aee9627edd2126c9cfc56dc5bd1871fa98fee4a717109dadc2247884", func := "gypsum/gypsumlaw10.CornerOwn", spec := "cornerOwn", unfollowed := true, recurses := true, plainKeys := false, apart := false, narrowed := true }
def CornerOwnUptoSaid : Prop := cornerOwnUptoRow.holds Try.pinned (OpenSpec.upto cornerOwnSpec)

/-- 'gypsumlaw10.CornerTurned', WHERE WHAT IT READS IS OF BULK AT MOST 1048576: true; the input reads as it did. -/
def cornerTurnedUptoRow : OpenClaim := { program := "ytdmibpcpocacpaa", sum := "7e78b166aee9627edd2126c9cfc56dc5bd1871fa98fee4a717109dadc2247884", func := "gypsum/gypsumlaw10.CornerTurned", spec := "cornerTurned", unfollowed := true, recurses := true, plainKeys := false, apart := false, narrowed := true }
def CornerTurnedUptoSaid : Prop := cornerTurnedUptoRow.holds Try.pinned (OpenSpec.upto cornerTurnedSpec)

/-- 'gypsumlaw10.CornerRenamed', WHERE WHAT IT READS IS OF BULK AT MOST 1048576: true; the input reads as it did. -/
def cornerRenamedUptoRow : OpenClaim := { program := "ytdmibpcpocacpaa", sum := "7e78b166aee9627edd2126c9cfc56dc5bd1871fa98fee4a717109dadc2247884", func := "gypsum/gypsumlaw10.CornerRenamed", spec := "cornerRenamed", unfollowed := true, recurses := true, plainKeys := false, apart := false, narrowed := true }
def CornerRenamedUptoSaid : Prop := cornerRenamedUptoRow.holds Try.pinned (OpenSpec.upto cornerRenamedSpec)

end Rows
end Go.Proofs.Ytdmibpcpocacpaa
