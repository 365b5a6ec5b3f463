/-
  No cell of these rows narrows 'for every input' (looked for: loops, veiled, ifaces, maps, wideKeys, modest, calm, conditions, laid).
  DERIVED. THE GIVEN ROWS OF THIS SEAT. 4 by the template 'for every input the law returns true; each argument reads behind the call as it read before'; 0 by the template 'total and deterministic' (their statements: YtdbdkcmbenokbaaTotals.lean).
  GIVEN WITH THE SEED: the statements are not yours to turn. If you find one false, say at which input.
  Laid BY PROGRAM, IN A SANDBOX (cutbox-rows.mjs): the forced cells as the released guide's own fill.sh prints them over the translation ce7fa8a99646aa1e… (all of the seat's roots in one cut). By AI agents, Wed Nov 11 2026. No macro, syntax, notation, axiom, sorry.
-/
import Derived.Test.YtdbdkcmbenokbaaChecked
import GoSem.Claim
import GoSem.ClaimJoined
import GoSem.ClaimMapViews
import Derived.JoinedTies
import Derived.KernelRfl
namespace Go.Proofs.Ytdbdkcmbenokbaa
/- THE CELL 'sum', in the pinned program and in every row, IS THE sha256 OF THE DUMP (.gsa) THAT YtdbdkcmbenokbaaProg.lean LOADS. Nothing in Lean hashes anything: it is a label: what it is worth is what the hold of that sum in a sandbox is worth. -/
noncomputable def Try.pinned : Pinned := { name := "ytdbdkcmbenokbaa", sum := "ce7fa8a99646aa1e2735c16fcc0a530d4d81e9b91477d2e80d4ef8c3050e925d", checked := Try.checked }
namespace Rows
def none {H : Type} : Left H := { results := [], args := [] }

/-- 'lodestarlaw13.RangesAdds': WHATEVER THE INPUT: true; the input reads as it did. -/
def rangesAddsSpec : ChangeSpec := { name := "rangesAdds", fn := fun _ => fun
  | [d1, d2, d3] => { results := [.lit (.bool true)], args := [d1, d2, d3] }
  | _ => none }
def rangesAddsRow : OpenClaim := { program := "ytdbdkcmbenokbaa", sum := "ce7fa8a99646aa1e2735c16fcc0a530d4d81e9b91477d2e80d4ef8c3050e925d", func := "lodestar/lodestarlaw13.RangesAdds", spec := "rangesAdds", unfollowed := true, recurses := true, apart := false }
def RangesAddsSaid : Prop := rangesAddsRow.holds Try.pinned (OpenSpec.ofChange rangesAddsSpec)

/-- ITS FALSE NEIGHBOUR: 'it returns false'. Refute it at one input. -/
def rangesAddsWrong : ChangeSpec := { name := "rangesAdds", fn := fun _ => fun
  | [d1, d2, d3] => { results := [.lit (.bool false)], args := [d1, d2, d3] }
  | _ => none }
def RangesAddsWrongFalsely : Prop := rangesAddsRow.holds Try.pinned (OpenSpec.ofChange rangesAddsWrong)

/-- 'lodestarlaw13.RangesTurned': WHATEVER THE INPUT: true; the input reads as it did. -/
def rangesTurnedSpec : ChangeSpec := { name := "rangesTurned", fn := fun _ => fun
  | [d1, d2, d3] => { results := [.lit (.bool true)], args := [d1, d2, d3] }
  | _ => none }
def rangesTurnedRow : OpenClaim := { program := "ytdbdkcmbenokbaa", sum := "ce7fa8a99646aa1e2735c16fcc0a530d4d81e9b91477d2e80d4ef8c3050e925d", func := "lodestar/lodestarlaw13.RangesTurned", spec := "rangesTurned", unfollowed := true, recurses := true, apart := false }
def RangesTurnedSaid : Prop := rangesTurnedRow.holds Try.pinned (OpenSpec.ofChange rangesTurnedSpec)

/-- ITS FALSE NEIGHBOUR: 'it returns false'. Refute it at one input. -/
def rangesTurnedWrong : ChangeSpec := { name := "rangesTurned", fn := fun _ => fun
  | [d1, d2, d3] => { results := [.lit (.bool false)], args := [d1, d2, d3] }
  | _ => none }
def RangesTurnedWrongFalsely : Prop := rangesTurnedRow.holds Try.pinned (OpenSpec.ofChange rangesTurnedWrong)

/-- 'lodestarlaw13.RangesAnswers': WHATEVER THE INPUT: true; the input reads as it did. -/
def rangesAnswersSpec : ChangeSpec := { name := "rangesAnswers", fn := fun _ => fun
  | [d1, d2, d3] => { results := [.lit (.bool true)], args := [d1, d2, d3] }
  | _ => none }
def rangesAnswersRow : OpenClaim := { program := "ytdbdkcmbenokbaa", sum := "ce7fa8a99646aa1e2735c16fcc0a530d4d81e9b91477d2e80d4ef8c3050e925d", func := "lodestar/lodestarlaw13.RangesAnswers", spec := "rangesAnswers", unfollowed := true, recurses := true, apart := false }
def RangesAnswersSaid : Prop := rangesAnswersRow.holds Try.pinned (OpenSpec.ofChange rangesAnswersSpec)

/-- ITS FALSE NEIGHBOUR: 'it returns false'. Refute it at one input. -/
def rangesAnswersWrong : ChangeSpec := { name := "rangesAnswers", fn := fun _ => fun
  | [d1, d2, d3] => { results := [.lit (.bool false)], args := [d1, d2, d3] }
  | _ => none }
def RangesAnswersWrongFalsely : Prop := rangesAnswersRow.holds Try.pinned (OpenSpec.ofChange rangesAnswersWrong)

/-- 'lodestarlaw13.RangesOwn': WHATEVER THE INPUT: true; the input reads as it did. -/
def rangesOwnSpec : ChangeSpec := { name := "rangesOwn", fn := fun _ => fun
  | [d1, d2, d3] => { results := [.lit (.bool true)], args := [d1, d2, d3] }
  | _ => none }
def rangesOwnRow : OpenClaim := { program := "ytdbdkcmbenokbaa", sum := "ce7fa8a99646aa1e2735c16fcc0a530d4d81e9b91477d2e80d4ef8c3050e925d", func := "lodestar/lodestarlaw13.RangesOwn", spec := "rangesOwn", unfollowed := true, recurses := true, apart := false }
def RangesOwnSaid : Prop := rangesOwnRow.holds Try.pinned (OpenSpec.ofChange rangesOwnSpec)

/-- ITS FALSE NEIGHBOUR: 'it returns false'. Refute it at one input. -/
def rangesOwnWrong : ChangeSpec := { name := "rangesOwn", fn := fun _ => fun
  | [d1, d2, d3] => { results := [.lit (.bool false)], args := [d1, d2, d3] }
  | _ => none }
def RangesOwnWrongFalsely : Prop := rangesOwnRow.holds Try.pinned (OpenSpec.ofChange rangesOwnWrong)

/- THE SECOND FORM. 'bulk': how many values and letters a reading holds, each counted each time it is reached (what is shared counts as often as it is met; a slice's spare places count too). A statement '..UptoSaid' is the law's where the arguments, and the package variables that the reading takes, are together of bulk at most 1048576: NARROWER than '..Said'. Prove '..Said' where nothing that the law and all that it calls make is longer than what came in: it says more and counts as full. Else prove '..UptoSaid'. A law counts once. -/
mutual
def uptoBulk {H : Type} : DataW H → Nat
  | .lit (.string bytes) => bytes.length + 1
  | .lit _ => 1
  | .nil => 1
  | .ptr d => uptoBulk d + 1
  | .slice elems spare => uptoBulkAll elems + uptoBulkAll spare + 1
  | .agg parts => uptoBulkAll parts + 1
  | .iface _ d => uptoBulk d + 1
  | .map entries => uptoBulkEntries entries + 1
  | .held _ => 1
def uptoBulkAll {H : Type} : List (DataW H) → Nat
  | [] => 0
  | d :: r => uptoBulk d + uptoBulkAll r
def uptoBulkEntries {H : Type} : List (Lit × DataW H) → Nat
  | [] => 0
  | x :: r => uptoBulkEntry x + uptoBulkEntries r
def uptoBulkEntry {H : Type} : Lit × DataW H → Nat
  | (.string bytes, d) => bytes.length + uptoBulk d + 1
  | (_, d) => uptoBulk d + 1
 end
def uptoSmall : (H : Type) → List (DataW H) → Bool := fun _ ds => decide (uptoBulkAll ds ≤ 1048576)
def OpenSpec.upto (s : _root_.Go.ChangeSpec) : _root_.Go.OpenSpec := { _root_.Go.OpenSpec.ofChange s with cond := some uptoSmall }

/-- 'lodestarlaw13.RangesAdds', WHERE WHAT IT READS IS OF BULK AT MOST 1048576: true; the input reads as it did. -/
def rangesAddsUptoRow : OpenClaim := { program := "ytdbdkcmbenokbaa", sum := "ce7fa8a99646aa1e2735c16fcc0a530d4d81e9b91477d2e80d4ef8c3050e925d", func := "lodestar/lodestarlaw13.RangesAdds", spec := "rangesAdds", unfollowed := true, recurses := true, apart := false, narrowed := true }
def RangesAddsUptoSaid : Prop := rangesAddsUptoRow.holds Try.pinned (OpenSpec.upto rangesAddsSpec)

/-- 'lodestarlaw13.RangesTurned', WHERE WHAT IT READS IS OF BULK AT MOST 1048576: true; the input reads as it did. -/
def rangesTurnedUptoRow : OpenClaim := { program := "ytdbdkcmbenokbaa", sum := "ce7fa8a99646aa1e2735c16fcc0a530d4d81e9b91477d2e80d4ef8c3050e925d", func := "lodestar/lodestarlaw13.RangesTurned", spec := "rangesTurned", unfollowed := true, recurses := true, apart := false, narrowed := true }
def RangesTurnedUptoSaid : Prop := rangesTurnedUptoRow.holds Try.pinned (OpenSpec.upto rangesTurnedSpec)

/-- 'lodestarlaw13.RangesAnswers', WHERE WHAT IT READS IS OF BULK AT MOST 1048576: true; the input reads as it did. -/
def rangesAnswersUptoRow : OpenClaim := { program := "ytdbdkcmbenokbaa", sum := "ce7fa8a99646aa1e2735c16fcc0a530d4d81e9b91477d2e80d4ef8c3050e925d", func := "lodestar/lodestarlaw13.RangesAnswers", spec := "rangesAnswers", unfollowed := true, recurses := true, apart := false, narrowed := true }
def RangesAnswersUptoSaid : Prop := rangesAnswersUptoRow.holds Try.pinned (OpenSpec.upto rangesAnswersSpec)

/-- 'lodestarlaw13.RangesOwn', WHERE WHAT IT READS IS OF BULK AT MOST 1048576: true; the input reads as it did. -/
def rangesOwnUptoRow : OpenClaim := { program := "ytdbdkcmbenokbaa", sum := "ce7fa8a99646aa1e2735c16fcc0a530d4d81e9b91477d2e80d4ef8c3050e925d", func := "lodestar/lodestarlaw13.RangesOwn", spec := "rangesOwn", unfollowed := true, recurses := true, apart := false, narrowed := true }
def RangesOwnUptoSaid : Prop := rangesOwnUptoRow.holds Try.pinned (OpenSpec.upto rangesOwnSpec)

end Rows
end Go.Proofs.Ytdbdkcmbenokbaa
