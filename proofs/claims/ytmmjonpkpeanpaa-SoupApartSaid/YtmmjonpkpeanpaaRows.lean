/-
  No cell of these rows narrows 'for every input' (looked for: loops, veiled, ifaces, maps, wideKeys, modest, calm, conditions, laid).
  DERIVED. THE GIVEN ROWS OF THIS SEAT. 8 by the template 'for every input the law returns true; each argument reads behind the call as it read before'; 0 by the template 'total and deterministic' (their statements: YtmmjonpkpeanpaaTotals.lean).
  GIVEN WITH THE SEED: the statements are not yours to turn. If you find one false, say at which input.
  Laid BY PROGRAM, IN A SANDBOX (cutbox-rows.mjs): the forced cells as the released guide's own fill.sh prints them over the translation d5fa35ac266b93b0… (all of the seat's roots in one cut). By AI agents, Wed Nov 11 2026. No macro, syntax, notation, axiom, sorry.
-/
import Derived.Test.YtmmjonpkpeanpaaChecked
import GoSem.Claim
import GoSem.ClaimJoined
import GoSem.ClaimMapViews
import Derived.JoinedTies
import Derived.KernelRfl
namespace Go.Proofs.Ytmmjonpkpeanpaa
/- THE CELL 'sum', in the pinned program and in every row, IS THE sha256 OF THE DUMP (.gsa) THAT YtmmjonpkpeanpaaProg.lean LOADS. Nothing in Lean hashes anything: it is a label: what it is worth is what the hold of that sum in a sandbox is worth. -/
noncomputable def Try.pinned : Pinned := { name := "ytmmjonpkpeanpaa", sum := "d5fa35ac266b93b0c3adec71a99594cbb937d397de75b2eabfc9ad72be168258", checked := Try.checked }
namespace Rows
def none {H : Type} : Left H := { results := [], args := [] }

/-- 'gypsumlaw08.SoupPicks': WHATEVER THE INPUT: true; the input reads as it did. -/
def soupPicksSpec : ChangeSpec := { name := "soupPicks", fn := fun _ => fun
  | [d1, d2] => { results := [.lit (.bool true)], args := [d1, d2] }
  | _ => none }
def soupPicksRow : OpenClaim := { program := "ytmmjonpkpeanpaa", sum := "d5fa35ac266b93b0c3adec71a99594cbb937d397de75b2eabfc9ad72be168258", func := "gypsum/gypsumlaw08.SoupPicks", spec := "soupPicks", unfollowed := true, recurses := true, plainKeys := false, apart := false }
def SoupPicksSaid : Prop := soupPicksRow.holds Try.pinned (OpenSpec.ofChange soupPicksSpec)

/-- ITS FALSE NEIGHBOUR: 'it returns false'. Refute it at one input. -/
def soupPicksWrong : ChangeSpec := { name := "soupPicks", fn := fun _ => fun
  | [d1, d2] => { results := [.lit (.bool false)], args := [d1, d2] }
  | _ => none }
def SoupPicksWrongFalsely : Prop := soupPicksRow.holds Try.pinned (OpenSpec.ofChange soupPicksWrong)

/-- 'gypsumlaw08.SoupEdges': WHATEVER THE INPUT: true; the input reads as it did. -/
def soupEdgesSpec : ChangeSpec := { name := "soupEdges", fn := fun _ => fun
  | [d] => { results := [.lit (.bool true)], args := [d] }
  | _ => none }
def soupEdgesRow : OpenClaim := { program := "ytmmjonpkpeanpaa", sum := "d5fa35ac266b93b0c3adec71a99594cbb937d397de75b2eabfc9ad72be168258", func := "gypsum/gypsumlaw08.SoupEdges", spec := "soupEdges", unfollowed := true, recurses := true, plainKeys := false, apart := false }
def SoupEdgesSaid : Prop := soupEdgesRow.holds Try.pinned (OpenSpec.ofChange soupEdgesSpec)

/-- ITS FALSE NEIGHBOUR: 'it returns false'. Refute it at one input. -/
def soupEdgesWrong : ChangeSpec := { name := "soupEdges", fn := fun _ => fun
  | [d] => { results := [.lit (.bool false)], args := [d] }
  | _ => none }
def SoupEdgesWrongFalsely : Prop := soupEdgesRow.holds Try.pinned (OpenSpec.ofChange soupEdgesWrong)

/-- 'gypsumlaw08.SoupJoins': WHATEVER THE INPUT: true; the input reads as it did. -/
def soupJoinsSpec : ChangeSpec := { name := "soupJoins", fn := fun _ => fun
  | [d] => { results := [.lit (.bool true)], args := [d] }
  | _ => none }
def soupJoinsRow : OpenClaim := { program := "ytmmjonpkpeanpaa", sum := "d5fa35ac266b93b0c3adec71a99594cbb937d397de75b2eabfc9ad72be168258", func := "gypsum/gypsumlaw08.SoupJoins", spec := "soupJoins", unfollowed := true, recurses := true, plainKeys := false, apart := false }
def SoupJoinsSaid : Prop := soupJoinsRow.holds Try.pinned (OpenSpec.ofChange soupJoinsSpec)

/-- ITS FALSE NEIGHBOUR: 'it returns false'. Refute it at one input. -/
def soupJoinsWrong : ChangeSpec := { name := "soupJoins", fn := fun _ => fun
  | [d] => { results := [.lit (.bool false)], args := [d] }
  | _ => none }
def SoupJoinsWrongFalsely : Prop := soupJoinsRow.holds Try.pinned (OpenSpec.ofChange soupJoinsWrong)

/-- 'gypsumlaw08.SoupFits': WHATEVER THE INPUT: true; the input reads as it did. -/
def soupFitsSpec : ChangeSpec := { name := "soupFits", fn := fun _ => fun
  | [d1, d2] => { results := [.lit (.bool true)], args := [d1, d2] }
  | _ => none }
def soupFitsRow : OpenClaim := { program := "ytmmjonpkpeanpaa", sum := "d5fa35ac266b93b0c3adec71a99594cbb937d397de75b2eabfc9ad72be168258", func := "gypsum/gypsumlaw08.SoupFits", spec := "soupFits", unfollowed := true, recurses := true, plainKeys := false, apart := false }
def SoupFitsSaid : Prop := soupFitsRow.holds Try.pinned (OpenSpec.ofChange soupFitsSpec)

/-- ITS FALSE NEIGHBOUR: 'it returns false'. Refute it at one input. -/
def soupFitsWrong : ChangeSpec := { name := "soupFits", fn := fun _ => fun
  | [d1, d2] => { results := [.lit (.bool false)], args := [d1, d2] }
  | _ => none }
def SoupFitsWrongFalsely : Prop := soupFitsRow.holds Try.pinned (OpenSpec.ofChange soupFitsWrong)

/-- 'gypsumlaw08.SoupRenames': WHATEVER THE INPUT: true; the input reads as it did. -/
def soupRenamesSpec : ChangeSpec := { name := "soupRenames", fn := fun _ => fun
  | [d1, d2] => { results := [.lit (.bool true)], args := [d1, d2] }
  | _ => none }
def soupRenamesRow : OpenClaim := { program := "ytmmjonpkpeanpaa", sum := "d5fa35ac266b93b0c3adec71a99594cbb937d397de75b2eabfc9ad72be168258", func := "gypsum/gypsumlaw08.SoupRenames", spec := "soupRenames", unfollowed := true, recurses := true, plainKeys := false, apart := false }
def SoupRenamesSaid : Prop := soupRenamesRow.holds Try.pinned (OpenSpec.ofChange soupRenamesSpec)

/-- ITS FALSE NEIGHBOUR: 'it returns false'. Refute it at one input. -/
def soupRenamesWrong : ChangeSpec := { name := "soupRenames", fn := fun _ => fun
  | [d1, d2] => { results := [.lit (.bool false)], args := [d1, d2] }
  | _ => none }
def SoupRenamesWrongFalsely : Prop := soupRenamesRow.holds Try.pinned (OpenSpec.ofChange soupRenamesWrong)

/-- 'gypsumlaw08.SoupParts': WHATEVER THE INPUT: true; the input reads as it did. -/
def soupPartsSpec : ChangeSpec := { name := "soupParts", fn := fun _ => fun
  | [d1, d2, d3] => { results := [.lit (.bool true)], args := [d1, d2, d3] }
  | _ => none }
def soupPartsRow : OpenClaim := { program := "ytmmjonpkpeanpaa", sum := "d5fa35ac266b93b0c3adec71a99594cbb937d397de75b2eabfc9ad72be168258", func := "gypsum/gypsumlaw08.SoupParts", spec := "soupParts", unfollowed := true, recurses := true, plainKeys := false, apart := false }
def SoupPartsSaid : Prop := soupPartsRow.holds Try.pinned (OpenSpec.ofChange soupPartsSpec)

/-- ITS FALSE NEIGHBOUR: 'it returns false'. Refute it at one input. -/
def soupPartsWrong : ChangeSpec := { name := "soupParts", fn := fun _ => fun
  | [d1, d2, d3] => { results := [.lit (.bool false)], args := [d1, d2, d3] }
  | _ => none }
def SoupPartsWrongFalsely : Prop := soupPartsRow.holds Try.pinned (OpenSpec.ofChange soupPartsWrong)

/-- 'gypsumlaw08.SoupBack': WHATEVER THE INPUT: true; the input reads as it did. -/
def soupBackSpec : ChangeSpec := { name := "soupBack", fn := fun _ => fun
  | [d1, d2] => { results := [.lit (.bool true)], args := [d1, d2] }
  | _ => none }
def soupBackRow : OpenClaim := { program := "ytmmjonpkpeanpaa", sum := "d5fa35ac266b93b0c3adec71a99594cbb937d397de75b2eabfc9ad72be168258", func := "gypsum/gypsumlaw08.SoupBack", spec := "soupBack", unfollowed := true, recurses := true, plainKeys := false, apart := false }
def SoupBackSaid : Prop := soupBackRow.holds Try.pinned (OpenSpec.ofChange soupBackSpec)

/-- ITS FALSE NEIGHBOUR: 'it returns false'. Refute it at one input. -/
def soupBackWrong : ChangeSpec := { name := "soupBack", fn := fun _ => fun
  | [d1, d2] => { results := [.lit (.bool false)], args := [d1, d2] }
  | _ => none }
def SoupBackWrongFalsely : Prop := soupBackRow.holds Try.pinned (OpenSpec.ofChange soupBackWrong)

/-- 'gypsumlaw08.SoupApart': WHATEVER THE INPUT: true; the input reads as it did. -/
def soupApartSpec : ChangeSpec := { name := "soupApart", fn := fun _ => fun
  | [d1, d2] => { results := [.lit (.bool true)], args := [d1, d2] }
  | _ => none }
def soupApartRow : OpenClaim := { program := "ytmmjonpkpeanpaa", sum := "d5fa35ac266b93b0c3adec71a99594cbb937d397de75b2eabfc9ad72be168258", func := "gypsum/gypsumlaw08.SoupApart", spec := "soupApart", unfollowed := true, recurses := true, plainKeys := false, apart := false }
def SoupApartSaid : Prop := soupApartRow.holds Try.pinned (OpenSpec.ofChange soupApartSpec)

/-- ITS FALSE NEIGHBOUR: 'it returns false'. Refute it at one input. -/
def soupApartWrong : ChangeSpec := { name := "soupApart", fn := fun _ => fun
  | [d1, d2] => { results := [.lit (.bool false)], args := [d1, d2] }
  | _ => none }
def SoupApartWrongFalsely : Prop := soupApartRow.holds Try.pinned (OpenSpec.ofChange soupApartWrong)

/- THE SECOND FORM. 'bulk': how many values and letters a reading holds, each counted each time it is reached (what is shared counts as often as it is met; a slice's spare places count too). A statement '..UptoSaid' is the law's where the arguments, and the package variables that the reading takes, are together of bulk at most 1048576: NARROWER than '..Said'. Prove '..Said' where nothing that the law and all that it calls make is longer than what came in: it says more and counts as full. Else prove '..UptoSaid'. A law counts once. -/
mutual
def uptoBulk {H : Type} : DataW H → Nat
  | .lit (.string bytes) => bytes.length + 1
  | .lit _ => 1
  | .nil => 1
  | .ptr d => uptoBulk d + 1
  | .slice elems spare => uptoBulkAll elems + uptoBulkAll spare + 1
  | .agg parts => uptoBulkAll parts + 1
  | .iface _ d => uptoBulk d + 1
  | .map entries => uptoBulkEntries entries + 1
  | .held _ => 1
def uptoBulkAll {H : Type} : List (DataW H) → Nat
  | [] => 0
  | d :: r => uptoBulk d + uptoBulkAll r
def uptoBulkEntries {H : Type} : List (Lit × DataW H) → Nat
  | [] => 0
  | x :: r => uptoBulkEntry x + uptoBulkEntries r
def uptoBulkEntry {H : Type} : Lit × DataW H → Nat
  | (.string bytes, d) => bytes.length + uptoBulk d + 1
  | (_, d) => uptoBulk d + 1
 end
def uptoSmall : (H : Type) → List (DataW H) → Bool := fun _ ds => decide (uptoBulkAll ds ≤ 1048576)
def OpenSpec.upto (s : _root_.Go.ChangeSpec) : _root_.Go.OpenSpec := { _root_.Go.OpenSpec.ofChange s with cond := some uptoSmall }

/-- 'gypsumlaw08.SoupPicks', WHERE WHAT IT READS IS OF BULK AT MOST 1048576: true; the input reads as it did. -/
def soupPicksUptoRow : OpenClaim := { program := "ytmmjonpkpeanpaa", sum := "d5fa35ac266b93b0c3adec71a99594cbb937d397de75b2eabfc9ad72be168258", func := "gypsum/gypsumlaw08.SoupPicks", spec := "soupPicks", unfollowed := true, recurses := true, plainKeys := false, apart := false, narrowed := true }
def SoupPicksUptoSaid : Prop := soupPicksUptoRow.holds Try.pinned (OpenSpec.upto soupPicksSpec)

/-- 'gypsumlaw08.SoupEdges', WHERE WHAT IT READS IS OF BULK AT MOST 1048576: true; the input reads as it did. -/
def soupEdgesUptoRow : OpenClaim := { program := "ytmmjonpkpeanpaa", sum := "d5fa35ac266b93b0c3adec71a99594cbb937d397de75b2eabfc9ad72be168258", func := "gypsum/gypsumlaw08.SoupEdges", spec := "soupEdges", unfollowed := true, recurses := true, plainKeys := false, apart := false, narrowed := true }
def SoupEdgesUptoSaid : Prop := soupEdgesUptoRow.holds Try.pinned (OpenSpec.upto soupEdgesSpec)

/-- 'gypsumlaw08.SoupJoins', WHERE WHAT IT READS IS OF BULK AT MOST 1048576: true; the input reads as it did. -/
def soupJoinsUptoRow : OpenClaim := { program := "ytmmjonpkpeanpaa", sum := "d5fa35ac266b93b0c3adec71a99594cbb937d397de75b2eabfc9ad72be168258", func := "gypsum/gypsumlaw08.SoupJoins", spec := "soupJoins", unfollowed := true, recurses := true, plainKeys := false, apart := false, narrowed := true }
def SoupJoinsUptoSaid : Prop := soupJoinsUptoRow.holds Try.pinned (OpenSpec.upto soupJoinsSpec)

/-- 'gypsumlaw08.SoupFits', WHERE WHAT IT READS IS OF BULK AT MOST 1048576: true; the input reads as it did. -/
def soupFitsUptoRow : OpenClaim := { program := "ytmmjonpkpeanpaa", sum := "d5fa35ac266b93b0c3adec71a99594cbb937d397de75b2eabfc9ad72be168258", func := "gypsum/gypsumlaw08.SoupFits", spec := "soupFits", unfollowed := true, recurses := true, plainKeys := false, apart := false, narrowed := true }
def SoupFitsUptoSaid : Prop := soupFitsUptoRow.holds Try.pinned (OpenSpec.upto soupFitsSpec)

/-- 'gypsumlaw08.SoupRenames', WHERE WHAT IT READS IS OF BULK AT MOST 1048576: true; the input reads as it did. -/
def soupRenamesUptoRow : OpenClaim := { program := "ytmmjonpkpeanpaa", sum := "d5fa35ac266b93b0c3adec71a99594cbb937d397de75b2eabfc9ad72be168258", func := "gypsum/gypsumlaw08.SoupRenames", spec := "soupRenames", unfollowed := true, recurses := true, plainKeys := false, apart := false, narrowed := true }
def SoupRenamesUptoSaid : Prop := soupRenamesUptoRow.holds Try.pinned (OpenSpec.upto soupRenamesSpec)

/-- 'gypsumlaw08.SoupParts', WHERE WHAT IT READS IS OF BULK AT MOST 1048576: true; the input reads as it did. -/
def soupPartsUptoRow : OpenClaim := { program := "ytmmjonpkpeanpaa", sum := "d5fa35ac266b93b0c3adec71a99594cbb937d397de75b2eabfc9ad72be168258", func := "gypsum/gypsumlaw08.SoupParts", spec := "soupParts", unfollowed := true, recurses := true, plainKeys := false, apart := false, narrowed := true }
def SoupPartsUptoSaid : Prop := soupPartsUptoRow.holds Try.pinned (OpenSpec.upto soupPartsSpec)

/-- 'gypsumlaw08.SoupBack', WHERE WHAT IT READS IS OF BULK AT MOST 1048576: true; the input reads as it did. -/
def soupBackUptoRow : OpenClaim := { program := "ytmmjonpkpeanpaa", sum := "d5fa35ac266b93b0c3adec71a99594cbb937d397de75b2eabfc9ad72be168258", func := "gypsum/gypsumlaw08.SoupBack", spec := "soupBack", unfollowed := true, recurses := true, plainKeys := false, apart := false, narrowed := true }
def SoupBackUptoSaid : Prop := soupBackUptoRow.holds Try.pinned (OpenSpec.upto soupBackSpec)

/-- 'gypsumlaw08.SoupApart', WHERE WHAT IT READS IS OF BULK AT MOST 1048576: true; the input reads as it did. -/
def soupApartUptoRow : OpenClaim := { program := "ytmmjonpkpeanpaa", sum := "d5fa35ac266b93b0c3adec71a99594cbb937d397de75b2eabfc9ad72be168258", func := "gypsum/gypsumlaw08.SoupApart", spec := "soupApart", unfollowed := true, recurses := true, plainKeys := false, apart := false, narrowed := true }
def SoupApartUptoSaid : Prop := soupApartUptoRow.holds Try.pinned (OpenSpec.upto soupApartSpec)

end Rows
end Go.Proofs.Ytmmjonpkpeanpaa
