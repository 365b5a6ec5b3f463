/-
  No cell of these rows narrows 'for every input' (looked for: loops, veiled, ifaces, maps, wideKeys, modest, calm, conditions, laid).
  DERIVED. THE GIVEN ROWS OF THIS SEAT. 4 by the template 'for every input the law returns true; each argument reads behind the call as it read before'; 0 by the template 'total and deterministic' (their statements: YtihanpdfnpgnfaaTotals.lean).
  GIVEN WITH THE SEED: the statements are not yours to turn. If you find one false, say at which input.
  Laid BY PROGRAM, IN A SANDBOX (cutbox-rows.mjs): the forced cells as the released guide's own fill.sh prints them over the translation 929d2ae0fa10bbaa… (all of the seat's roots in one cut). By AI agents, Wed Nov 11 2026. No macro, syntax, notation, axiom, sorry.
-/
import Derived.Test.YtihanpdfnpgnfaaChecked
import GoSem.Claim
import GoSem.ClaimJoined
import GoSem.ClaimMapViews
import Derived.JoinedTies
import Derived.KernelRfl
namespace Go.Proofs.Ytihanpdfnpgnfaa
/- THE CELL 'sum', in the pinned program and in every row, IS THE sha256 OF THE DUMP (.gsa) THAT YtihanpdfnpgnfaaProg.lean LOADS. Nothing in Lean hashes anything: it is a label: what it is worth is what the hold of that sum in a sandbox is worth. -/
noncomputable def Try.pinned : Pinned := { name := "ytihanpdfnpgnfaa", sum := "929d2ae0fa10bbaabb6a7c5ce363e6ac88178fa5563093049b15e59a641fb8ba", checked := Try.checked }
namespace Rows
def none {H : Type} : Left H := { results := [], args := [] }

/-- 'lodestarlaw15.StatsBuilds': WHATEVER THE INPUT: true; the input reads as it did. -/
def statsBuildsSpec : ChangeSpec := { name := "statsBuilds", fn := fun _ => fun
  | [d1, d2, d3] => { results := [.lit (.bool true)], args := [d1, d2, d3] }
  | _ => none }
def statsBuildsRow : OpenClaim := { program := "ytihanpdfnpgnfaa", sum := "929d2ae0fa10bbaabb6a7c5ce363e6ac88178fa5563093049b15e59a641fb8ba", func := "lodestar/lodestarlaw15.StatsBuilds", spec := "statsBuilds", inPlace := ["internal/reflectlite.ValueOf", "internal/reflectlite.Swapper", "(internal/reflectlite.Value).Len"], unfollowed := true, recurses := true, apart := false }
def StatsBuildsSaid : Prop := statsBuildsRow.holds Try.pinned (OpenSpec.ofChange statsBuildsSpec)

/-- ITS FALSE NEIGHBOUR: 'it returns false'. Refute it at one input. -/
def statsBuildsWrong : ChangeSpec := { name := "statsBuilds", fn := fun _ => fun
  | [d1, d2, d3] => { results := [.lit (.bool false)], args := [d1, d2, d3] }
  | _ => none }
def StatsBuildsWrongFalsely : Prop := statsBuildsRow.holds Try.pinned (OpenSpec.ofChange statsBuildsWrong)

/-- 'lodestarlaw15.StatsBounds': WHATEVER THE INPUT: true; the input reads as it did. -/
def statsBoundsSpec : ChangeSpec := { name := "statsBounds", fn := fun _ => fun
  | [d1, d2, d3] => { results := [.lit (.bool true)], args := [d1, d2, d3] }
  | _ => none }
def statsBoundsRow : OpenClaim := { program := "ytihanpdfnpgnfaa", sum := "929d2ae0fa10bbaabb6a7c5ce363e6ac88178fa5563093049b15e59a641fb8ba", func := "lodestar/lodestarlaw15.StatsBounds", spec := "statsBounds", inPlace := ["internal/reflectlite.ValueOf", "internal/reflectlite.Swapper", "(internal/reflectlite.Value).Len"], unfollowed := true, recurses := true, apart := false }
def StatsBoundsSaid : Prop := statsBoundsRow.holds Try.pinned (OpenSpec.ofChange statsBoundsSpec)

/-- ITS FALSE NEIGHBOUR: 'it returns false'. Refute it at one input. -/
def statsBoundsWrong : ChangeSpec := { name := "statsBounds", fn := fun _ => fun
  | [d1, d2, d3] => { results := [.lit (.bool false)], args := [d1, d2, d3] }
  | _ => none }
def StatsBoundsWrongFalsely : Prop := statsBoundsRow.holds Try.pinned (OpenSpec.ofChange statsBoundsWrong)

/-- 'lodestarlaw15.StatsJoins': WHATEVER THE INPUT: true; the input reads as it did. -/
def statsJoinsSpec : ChangeSpec := { name := "statsJoins", fn := fun _ => fun
  | [d1, d2] => { results := [.lit (.bool true)], args := [d1, d2] }
  | _ => none }
def statsJoinsRow : OpenClaim := { program := "ytihanpdfnpgnfaa", sum := "929d2ae0fa10bbaabb6a7c5ce363e6ac88178fa5563093049b15e59a641fb8ba", func := "lodestar/lodestarlaw15.StatsJoins", spec := "statsJoins", inPlace := ["internal/reflectlite.ValueOf", "internal/reflectlite.Swapper", "(internal/reflectlite.Value).Len"], unfollowed := true, recurses := true, apart := false }
def StatsJoinsSaid : Prop := statsJoinsRow.holds Try.pinned (OpenSpec.ofChange statsJoinsSpec)

/-- ITS FALSE NEIGHBOUR: 'it returns false'. Refute it at one input. -/
def statsJoinsWrong : ChangeSpec := { name := "statsJoins", fn := fun _ => fun
  | [d1, d2] => { results := [.lit (.bool false)], args := [d1, d2] }
  | _ => none }
def StatsJoinsWrongFalsely : Prop := statsJoinsRow.holds Try.pinned (OpenSpec.ofChange statsJoinsWrong)

/-- 'lodestarlaw15.StatsWords': WHATEVER THE INPUT: true; the input reads as it did. -/
def statsWordsSpec : ChangeSpec := { name := "statsWords", fn := fun _ => fun
  | [d1, d2] => { results := [.lit (.bool true)], args := [d1, d2] }
  | _ => none }
def statsWordsRow : OpenClaim := { program := "ytihanpdfnpgnfaa", sum := "929d2ae0fa10bbaabb6a7c5ce363e6ac88178fa5563093049b15e59a641fb8ba", func := "lodestar/lodestarlaw15.StatsWords", spec := "statsWords", inPlace := ["internal/reflectlite.ValueOf", "internal/reflectlite.Swapper", "(internal/reflectlite.Value).Len"], unfollowed := true, recurses := true, apart := false }
def StatsWordsSaid : Prop := statsWordsRow.holds Try.pinned (OpenSpec.ofChange statsWordsSpec)

/-- ITS FALSE NEIGHBOUR: 'it returns false'. Refute it at one input. -/
def statsWordsWrong : ChangeSpec := { name := "statsWords", fn := fun _ => fun
  | [d1, d2] => { results := [.lit (.bool false)], args := [d1, d2] }
  | _ => none }
def StatsWordsWrongFalsely : Prop := statsWordsRow.holds Try.pinned (OpenSpec.ofChange statsWordsWrong)

/- THE SECOND FORM. 'bulk': how many values and letters a reading holds, each counted each time it is reached (what is shared counts as often as it is met; a slice's spare places count too). A statement '..UptoSaid' is the law's where the arguments, and the package variables that the reading takes, are together of bulk at most 1048576: NARROWER than '..Said'. Prove '..Said' where nothing that the law and all that it calls make is longer than what came in: it says more and counts as full. Else prove '..UptoSaid'. A law counts once. -/
mutual
def uptoBulk {H : Type} : DataW H → Nat
  | .lit (.string bytes) => bytes.length + 1
  | .lit _ => 1
  | .nil => 1
  | .ptr d => uptoBulk d + 1
  | .slice elems spare => uptoBulkAll elems + uptoBulkAll spare + 1
  | .agg parts => uptoBulkAll parts + 1
  | .iface _ d => uptoBulk d + 1
  | .map entries => uptoBulkEntries entries + 1
  | .held _ => 1
def uptoBulkAll {H : Type} : List (DataW H) → Nat
  | [] => 0
  | d :: r => uptoBulk d + uptoBulkAll r
def uptoBulkEntries {H : Type} : List (Lit × DataW H) → Nat
  | [] => 0
  | x :: r => uptoBulkEntry x + uptoBulkEntries r
def uptoBulkEntry {H : Type} : Lit × DataW H → Nat
  | (.string bytes, d) => bytes.length + uptoBulk d + 1
  | (_, d) => uptoBulk d + 1
 end
def uptoSmall : (H : Type) → List (DataW H) → Bool := fun _ ds => decide (uptoBulkAll ds ≤ 1048576)
def OpenSpec.upto (s : _root_.Go.ChangeSpec) : _root_.Go.OpenSpec := { _root_.Go.OpenSpec.ofChange s with cond := some uptoSmall }

/-- 'lodestarlaw15.StatsBuilds', WHERE WHAT IT READS IS OF BULK AT MOST 1048576: true; the input reads as it did. -/
def statsBuildsUptoRow : OpenClaim := { program := "ytihanpdfnpgnfaa", sum := "929d2ae0fa10bbaabb6a7c5ce363e6ac88178fa5563093049b15e59a641fb8ba", func := "lodestar/lodestarlaw15.StatsBuilds", spec := "statsBuilds", inPlace := ["internal/reflectlite.ValueOf", "internal/reflectlite.Swapper", "(internal/reflectlite.Value).Len"], unfollowed := true, recurses := true, apart := false, narrowed := true }
def StatsBuildsUptoSaid : Prop := statsBuildsUptoRow.holds Try.pinned (OpenSpec.upto statsBuildsSpec)

/-- 'lodestarlaw15.StatsBounds', WHERE WHAT IT READS IS OF BULK AT MOST 1048576: true; the input reads as it did. -/
def statsBoundsUptoRow : OpenClaim := { program := "ytihanpdfnpgnfaa", sum := "929d2ae0fa10bbaabb6a7c5ce363e6ac88178fa5563093049b15e59a641fb8ba", func := "lodestar/lodestarlaw15.StatsBounds", spec := "statsBounds", inPlace := ["internal/reflectlite.ValueOf", "internal/reflectlite.Swapper", "(internal/reflectlite.Value).Len"], unfollowed := true, recurses := true, apart := false, narrowed := true }
def StatsBoundsUptoSaid : Prop := statsBoundsUptoRow.holds Try.pinned (OpenSpec.upto statsBoundsSpec)

/-- 'lodestarlaw15.StatsJoins', WHERE WHAT IT READS IS OF BULK AT MOST 1048576: true; the input reads as it did. -/
def statsJoinsUptoRow : OpenClaim := { program := "ytihanpdfnpgnfaa", sum := "929d2ae0fa10bbaabb6a7c5ce363e6ac88178fa5563093049b15e59a641fb8ba", func := "lodestar/lodestarlaw15.StatsJoins", spec := "statsJoins", inPlace := ["internal/reflectlite.ValueOf", "internal/reflectlite.Swapper", "(internal/reflectlite.Value).Len"], unfollowed := true, recurses := true, apart := false, narrowed := true }
def StatsJoinsUptoSaid : Prop := statsJoinsUptoRow.holds Try.pinned (OpenSpec.upto statsJoinsSpec)

/-- 'lodestarlaw15.StatsWords', WHERE WHAT IT READS IS OF BULK AT MOST 1048576: true; the input reads as it did. -/
def statsWordsUptoRow : OpenClaim := { program := "ytihanpdfnpgnfaa", sum := "929d2ae0fa10bbaabb6a7c5ce363e6ac88178fa5563093049b15e59a641fb8ba", func := "lodestar/lodestarlaw15.StatsWords", spec := "statsWords", inPlace := ["internal/reflectlite.ValueOf", "internal/reflectlite.Swapper", "(internal/reflectlite.Value).Len"], unfollowed := true, recurses := true, apart := false, narrowed := true }
def StatsWordsUptoSaid : Prop := statsWordsUptoRow.holds Try.pinned (OpenSpec.upto statsWordsSpec)

end Rows
end Go.Proofs.Ytihanpdfnpgnfaa
