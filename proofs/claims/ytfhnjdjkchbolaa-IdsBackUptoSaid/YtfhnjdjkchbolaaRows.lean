/-
  No cell of these rows narrows 'for every input' (looked for: loops, veiled, ifaces, maps, wideKeys, modest, calm, conditions, laid).
  DERIVED. THE GIVEN ROWS OF THIS SEAT. 6 by the template 'for every input the law returns true; each argument reads behind the call as it read before'; 0 by the template 'total and deterministic' (their statements: YtfhnjdjkchbolaaTotals.lean).
  GIVEN WITH THE SEED: the statements are not yours to turn. If you find one false, say at which input.
  Laid BY PROGRAM, IN A SANDBOX (cutbox-rows.mjs): the forced cells as the released guide's own fill.sh prints them over the translation 7a78103b11901007… (all of the seat's roots in one cut). By AI agents, Wed Nov 11 2026. No macro, syntax, notation, axiom, sorry.
-/
import Derived.Test.YtfhnjdjkchbolaaChecked
import GoSem.Claim
import GoSem.ClaimJoined
import GoSem.ClaimMapViews
import Derived.JoinedTies
import Derived.KernelRfl
namespace Go.Proofs.Ytfhnjdjkchbolaa
/- THE CELL 'sum', in the pinned program and in every row, IS THE sha256 OF THE DUMP (.gsa) THAT YtfhnjdjkchbolaaProg.lean LOADS. Nothing in Lean hashes anything: it is a label: what it is worth is what the hold of that sum in a sandbox is worth. -/
noncomputable def Try.pinned : Pinned := { name := "ytfhnjdjkchbolaa", sum := "7a78103b11901007b930930262b704475523db641e3273ec529606dafefb1d5e", checked := Try.checked }
namespace Rows
def none {H : Type} : Left H := { results := [], args := [] }

/-- 'lodestarlaw08.IdsLists': WHATEVER THE INPUT: true; the input reads as it did. -/
def idsListsSpec : ChangeSpec := { name := "idsLists", fn := fun _ => fun
  | [d1, d2] => { results := [.lit (.bool true)], args := [d1, d2] }
  | _ => none }
def idsListsRow : OpenClaim := { program := "ytfhnjdjkchbolaa", sum := "7a78103b11901007b930930262b704475523db641e3273ec529606dafefb1d5e", func := "lodestar/lodestarlaw08.IdsLists", spec := "idsLists", unfollowed := true, recurses := true, apart := false }
def IdsListsSaid : Prop := idsListsRow.holds Try.pinned (OpenSpec.ofChange idsListsSpec)

/-- ITS FALSE NEIGHBOUR: 'it returns false'. Refute it at one input. -/
def idsListsWrong : ChangeSpec := { name := "idsLists", fn := fun _ => fun
  | [d1, d2] => { results := [.lit (.bool false)], args := [d1, d2] }
  | _ => none }
def IdsListsWrongFalsely : Prop := idsListsRow.holds Try.pinned (OpenSpec.ofChange idsListsWrong)

/-- 'lodestarlaw08.IdsJoins': WHATEVER THE INPUT: true; the input reads as it did. -/
def idsJoinsSpec : ChangeSpec := { name := "idsJoins", fn := fun _ => fun
  | [d1, d2] => { results := [.lit (.bool true)], args := [d1, d2] }
  | _ => none }
def idsJoinsRow : OpenClaim := { program := "ytfhnjdjkchbolaa", sum := "7a78103b11901007b930930262b704475523db641e3273ec529606dafefb1d5e", func := "lodestar/lodestarlaw08.IdsJoins", spec := "idsJoins", unfollowed := true, recurses := true, apart := false }
def IdsJoinsSaid : Prop := idsJoinsRow.holds Try.pinned (OpenSpec.ofChange idsJoinsSpec)

/-- ITS FALSE NEIGHBOUR: 'it returns false'. Refute it at one input. -/
def idsJoinsWrong : ChangeSpec := { name := "idsJoins", fn := fun _ => fun
  | [d1, d2] => { results := [.lit (.bool false)], args := [d1, d2] }
  | _ => none }
def IdsJoinsWrongFalsely : Prop := idsJoinsRow.holds Try.pinned (OpenSpec.ofChange idsJoinsWrong)

/-- 'lodestarlaw08.IdsWalks': WHATEVER THE INPUT: true; the input reads as it did. -/
def idsWalksSpec : ChangeSpec := { name := "idsWalks", fn := fun _ => fun
  | [d1, d2, d3] => { results := [.lit (.bool true)], args := [d1, d2, d3] }
  | _ => none }
def idsWalksRow : OpenClaim := { program := "ytfhnjdjkchbolaa", sum := "7a78103b11901007b930930262b704475523db641e3273ec529606dafefb1d5e", func := "lodestar/lodestarlaw08.IdsWalks", spec := "idsWalks", unfollowed := true, recurses := true, apart := false }
def IdsWalksSaid : Prop := idsWalksRow.holds Try.pinned (OpenSpec.ofChange idsWalksSpec)

/-- ITS FALSE NEIGHBOUR: 'it returns false'. Refute it at one input. -/
def idsWalksWrong : ChangeSpec := { name := "idsWalks", fn := fun _ => fun
  | [d1, d2, d3] => { results := [.lit (.bool false)], args := [d1, d2, d3] }
  | _ => none }
def IdsWalksWrongFalsely : Prop := idsWalksRow.holds Try.pinned (OpenSpec.ofChange idsWalksWrong)

/-- 'lodestarlaw08.IdsBytes': WHATEVER THE INPUT: true; the input reads as it did. -/
def idsBytesSpec : ChangeSpec := { name := "idsBytes", fn := fun _ => fun
  | [d1, d2] => { results := [.lit (.bool true)], args := [d1, d2] }
  | _ => none }
def idsBytesRow : OpenClaim := { program := "ytfhnjdjkchbolaa", sum := "7a78103b11901007b930930262b704475523db641e3273ec529606dafefb1d5e", func := "lodestar/lodestarlaw08.IdsBytes", spec := "idsBytes", unfollowed := true, recurses := true, apart := false }
def IdsBytesSaid : Prop := idsBytesRow.holds Try.pinned (OpenSpec.ofChange idsBytesSpec)

/-- ITS FALSE NEIGHBOUR: 'it returns false'. Refute it at one input. -/
def idsBytesWrong : ChangeSpec := { name := "idsBytes", fn := fun _ => fun
  | [d1, d2] => { results := [.lit (.bool false)], args := [d1, d2] }
  | _ => none }
def IdsBytesWrongFalsely : Prop := idsBytesRow.holds Try.pinned (OpenSpec.ofChange idsBytesWrong)

/-- 'lodestarlaw08.IdsBack': WHATEVER THE INPUT: true; the input reads as it did. -/
def idsBackSpec : ChangeSpec := { name := "idsBack", fn := fun _ => fun
  | [d1, d2] => { results := [.lit (.bool true)], args := [d1, d2] }
  | _ => none }
def idsBackRow : OpenClaim := { program := "ytfhnjdjkchbolaa", sum := "7a78103b11901007b930930262b704475523db641e3273ec529606dafefb1d5e", func := "lodestar/lodestarlaw08.IdsBack", spec := "idsBack", unfollowed := true, recurses := true, apart := false }
def IdsBackSaid : Prop := idsBackRow.holds Try.pinned (OpenSpec.ofChange idsBackSpec)

/-- ITS FALSE NEIGHBOUR: 'it returns false'. Refute it at one input. -/
def idsBackWrong : ChangeSpec := { name := "idsBack", fn := fun _ => fun
  | [d1, d2] => { results := [.lit (.bool false)], args := [d1, d2] }
  | _ => none }
def IdsBackWrongFalsely : Prop := idsBackRow.holds Try.pinned (OpenSpec.ofChange idsBackWrong)

/-- 'lodestarlaw08.IdsRules': WHATEVER THE INPUT: true; the input reads as it did. -/
def idsRulesSpec : ChangeSpec := { name := "idsRules", fn := fun _ => fun
  | [d1, d2, d3] => { results := [.lit (.bool true)], args := [d1, d2, d3] }
  | _ => none }
def idsRulesRow : OpenClaim := { program := "ytfhnjdjkchbolaa", sum := "7a78103b11901007b930930262b704475523db641e3273ec529606dafefb1d5e", func := "lodestar/lodestarlaw08.IdsRules", spec := "idsRules", unfollowed := true, recurses := true, apart := false }
def IdsRulesSaid : Prop := idsRulesRow.holds Try.pinned (OpenSpec.ofChange idsRulesSpec)

/-- ITS FALSE NEIGHBOUR: 'it returns false'. Refute it at one input. -/
def idsRulesWrong : ChangeSpec := { name := "idsRules", fn := fun _ => fun
  | [d1, d2, d3] => { results := [.lit (.bool false)], args := [d1, d2, d3] }
  | _ => none }
def IdsRulesWrongFalsely : Prop := idsRulesRow.holds Try.pinned (OpenSpec.ofChange idsRulesWrong)

/- THE SECOND FORM. 'bulk': how many values and letters a reading holds, each counted each time it is reached (what is shared counts as often as it is met; a slice's spare places count too). A statement '..UptoSaid' is the law's where the arguments, and the package variables that the reading takes, are together of bulk at most 1048576: NARROWER than '..Said'. Prove '..Said' where nothing that the law and all that it calls make is longer than what came in: it says more and counts as full. Else prove '..UptoSaid'. A law counts once. -/
mutual
def uptoBulk {H : Type} : DataW H → Nat
  | .lit (.string bytes) => bytes.length + 1
  | .lit _ => 1
  | .nil => 1
  | .ptr d => uptoBulk d + 1
  | .slice elems spare => uptoBulkAll elems + uptoBulkAll spare + 1
  | .agg parts => uptoBulkAll parts + 1
  | .iface _ d => uptoBulk d + 1
  | .map entries => uptoBulkEntries entries + 1
  | .held _ => 1
def uptoBulkAll {H : Type} : List (DataW H) → Nat
  | [] => 0
  | d :: r => uptoBulk d + uptoBulkAll r
def uptoBulkEntries {H : Type} : List (Lit × DataW H) → Nat
  | [] => 0
  | x :: r => uptoBulkEntry x + uptoBulkEntries r
def uptoBulkEntry {H : Type} : Lit × DataW H → Nat
  | (.string bytes, d) => bytes.length + uptoBulk d + 1
  | (_, d) => uptoBulk d + 1
 end
def uptoSmall : (H : Type) → List (DataW H) → Bool := fun _ ds => decide (uptoBulkAll ds ≤ 1048576)
def OpenSpec.upto (s : _root_.Go.ChangeSpec) : _root_.Go.OpenSpec := { _root_.Go.OpenSpec.ofChange s with cond := some uptoSmall }

/-- 'lodestarlaw08.IdsLists', WHERE WHAT IT READS IS OF BULK AT MOST 1048576: true; the input reads as it did. -/
def idsListsUptoRow : OpenClaim := { program := "ytfhnjdjkchbolaa", sum := "7a78103b11901007b930930262b704475523db641e3273ec529606dafefb1d5e", func := "lodestar/lodestarlaw08.IdsLists", spec := "idsLists", unfollowed := true, recurses := true, apart := false, narrowed := true }
def IdsListsUptoSaid : Prop := idsListsUptoRow.holds Try.pinned (OpenSpec.upto idsListsSpec)

/-- 'lodestarlaw08.IdsJoins', WHERE WHAT IT READS IS OF BULK AT MOST 1048576: true; the input reads as it did. -/
def idsJoinsUptoRow : OpenClaim := { program := "ytfhnjdjkchbolaa", sum := "7a78103b11901007b930930262b704475523db641e3273ec529606dafefb1d5e", func := "lodestar/lodestarlaw08.IdsJoins", spec := "idsJoins", unfollowed := true, recurses := true, apart := false, narrowed := true }
def IdsJoinsUptoSaid : Prop := idsJoinsUptoRow.holds Try.pinned (OpenSpec.upto idsJoinsSpec)

/-- 'lodestarlaw08.IdsWalks', WHERE WHAT IT READS IS OF BULK AT MOST 1048576: true; the input reads as it did. -/
def idsWalksUptoRow : OpenClaim := { program := "ytfhnjdjkchbolaa", sum := "7a78103b11901007b930930262b704475523db641e3273ec529606dafefb1d5e", func := "lodestar/lodestarlaw08.IdsWalks", spec := "idsWalks", unfollowed := true, recurses := true, apart := false, narrowed := true }
def IdsWalksUptoSaid : Prop := idsWalksUptoRow.holds Try.pinned (OpenSpec.upto idsWalksSpec)

/-- 'lodestarlaw08.IdsBytes', WHERE WHAT IT READS IS OF BULK AT MOST 1048576: true; the input reads as it did. -/
def idsBytesUptoRow : OpenClaim := { program := "ytfhnjdjkchbolaa", sum := "7a78103b11901007b930930262b704475523db641e3273ec529606dafefb1d5e", func := "lodestar/lodestarlaw08.IdsBytes", spec := "idsBytes", unfollowed := true, recurses := true, apart := false, narrowed := true }
def IdsBytesUptoSaid : Prop := idsBytesUptoRow.holds Try.pinned (OpenSpec.upto idsBytesSpec)

/-- 'lodestarlaw08.IdsBack', WHERE WHAT IT READS IS OF BULK AT MOST 1048576: true; the input reads as it did. -/
def idsBackUptoRow : OpenClaim := { program := "ytfhnjdjkchbolaa", sum := "7a78103b11901007b930930262b704475523db641e3273ec529606dafefb1d5e", func := "lodestar/lodestarlaw08.IdsBack", spec := "idsBack", unfollowed := true, recurses := true, apart := false, narrowed := true }
def IdsBackUptoSaid : Prop := idsBackUptoRow.holds Try.pinned (OpenSpec.upto idsBackSpec)

/-- 'lodestarlaw08.IdsRules', WHERE WHAT IT READS IS OF BULK AT MOST 1048576: true; the input reads as it did. -/
def idsRulesUptoRow : OpenClaim := { program := "ytfhnjdjkchbolaa", sum := "7a78103b11901007b930930262b704475523db641e3273ec529606dafefb1d5e", func := "lodestar/lodestarlaw08.IdsRules", spec := "idsRules", unfollowed := true, recurses := true, apart := false, narrowed := true }
def IdsRulesUptoSaid : Prop := idsRulesUptoRow.holds Try.pinned (OpenSpec.upto idsRulesSpec)

end Rows
end Go.Proofs.Ytfhnjdjkchbolaa
