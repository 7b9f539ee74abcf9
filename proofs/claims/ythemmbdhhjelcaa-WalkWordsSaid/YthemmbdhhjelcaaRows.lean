/-
  No cell of these rows narrows 'for every input' (looked for: loops, veiled, ifaces, maps, wideKeys, modest, calm, conditions, laid).
  DERIVED. THE GIVEN ROWS OF THIS SEAT. 11 by the template 'for every input the law returns true; each argument reads behind the call as it read before'; 0 by the template 'total and deterministic' (their statements: YthemmbdhhjelcaaTotals.lean).
  GIVEN WITH THE SEED: the statements are not yours to turn. If you find one false, say at which input.
  Laid BY PROGRAM, IN A SANDBOX (cutbox-rows.mjs): the forced cells as the released guide's own fill.sh prints them over the translation 8bf3210cc812f418… (all of the seat's roots in one cut). By AI agents, Wed Nov 11 2026. No macro, syntax, notation, axiom, sorry.
-/
import Derived.Test.YthemmbdhhjelcaaChecked
import GoSem.Claim
import GoSem.ClaimJoined
import GoSem.ClaimMapViews
import Derived.JoinedTies
import Derived.KernelRfl
namespace Go.Proofs.Ythemmbdhhjelcaa
/- THE CELL 'sum', in the pinned program and in every row, IS THE sha256 OF THE DUMP (.gsa) THAT YthemmbdhhjelcaaProg.lean LOADS. Nothing in Lean hashes anything: it is a label: what it is worth is what the hold of that sum in a sandbox is worth. -/
noncomputable def Try.pinned : Pinned := { name := "ythemmbdhhjelcaa", sum := "8bf3210cc812f4183e03e5283b49243de7006e160e4e134d62e671a46e46a0bd", checked := Try.checked }
namespace Rows
def none {H : Type} : Left H := { results := [], args := [] }

/-- 'learnerlaw04.RandomNumbers': WHATEVER THE INPUT: true; the input reads as it did. -/
def randomNumbersSpec : ChangeSpec := { name := "randomNumbers", fn := fun _ => fun
  | [d1, d2] => { results := [.lit (.bool true)], args := [d1, d2] }
  | _ => none }
def randomNumbersRow : OpenClaim := { program := "ythemmbdhhjelcaa", sum := "8bf3210cc812f4183e03e5283b49243de7006e160e4e134d62e671a46e46a0bd", func := "learner/learnerlaw04.RandomNumbers", spec := "randomNumbers", apart := false }
def RandomNumbersSaid : Prop := randomNumbersRow.holds Try.pinned (OpenSpec.ofChange randomNumbersSpec)

/-- ITS FALSE NEIGHBOUR: 'it returns false'. Refute it at one input. -/
def randomNumbersWrong : ChangeSpec := { name := "randomNumbers", fn := fun _ => fun
  | [d1, d2] => { results := [.lit (.bool false)], args := [d1, d2] }
  | _ => none }
def RandomNumbersWrongFalsely : Prop := randomNumbersRow.holds Try.pinned (OpenSpec.ofChange randomNumbersWrong)

/-- 'learnerlaw04.RandomShuffles': WHATEVER THE INPUT: true; the input reads as it did. -/
def randomShufflesSpec : ChangeSpec := { name := "randomShuffles", fn := fun _ => fun
  | [d1, d2] => { results := [.lit (.bool true)], args := [d1, d2] }
  | _ => none }
def randomShufflesRow : OpenClaim := { program := "ythemmbdhhjelcaa", sum := "8bf3210cc812f4183e03e5283b49243de7006e160e4e134d62e671a46e46a0bd", func := "learner/learnerlaw04.RandomShuffles", spec := "randomShuffles", apart := false }
def RandomShufflesSaid : Prop := randomShufflesRow.holds Try.pinned (OpenSpec.ofChange randomShufflesSpec)

/-- ITS FALSE NEIGHBOUR: 'it returns false'. Refute it at one input. -/
def randomShufflesWrong : ChangeSpec := { name := "randomShuffles", fn := fun _ => fun
  | [d1, d2] => { results := [.lit (.bool false)], args := [d1, d2] }
  | _ => none }
def RandomShufflesWrongFalsely : Prop := randomShufflesRow.holds Try.pinned (OpenSpec.ofChange randomShufflesWrong)

/-- 'learnerlaw04.RandomChoices': WHATEVER THE INPUT: true; the input reads as it did. -/
def randomChoicesSpec : ChangeSpec := { name := "randomChoices", fn := fun _ => fun
  | [d1, d2] => { results := [.lit (.bool true)], args := [d1, d2] }
  | _ => none }
def randomChoicesRow : OpenClaim := { program := "ythemmbdhhjelcaa", sum := "8bf3210cc812f4183e03e5283b49243de7006e160e4e134d62e671a46e46a0bd", func := "learner/learnerlaw04.RandomChoices", spec := "randomChoices", apart := false }
def RandomChoicesSaid : Prop := randomChoicesRow.holds Try.pinned (OpenSpec.ofChange randomChoicesSpec)

/-- ITS FALSE NEIGHBOUR: 'it returns false'. Refute it at one input. -/
def randomChoicesWrong : ChangeSpec := { name := "randomChoices", fn := fun _ => fun
  | [d1, d2] => { results := [.lit (.bool false)], args := [d1, d2] }
  | _ => none }
def RandomChoicesWrongFalsely : Prop := randomChoicesRow.holds Try.pinned (OpenSpec.ofChange randomChoicesWrong)

/-- 'learnerlaw04.RandomFair': WHATEVER THE INPUT: true; the input reads as it did. -/
def randomFairSpec : ChangeSpec := { name := "randomFair", fn := fun _ => fun
  | [d1, d2, d3] => { results := [.lit (.bool true)], args := [d1, d2, d3] }
  | _ => none }
def randomFairRow : OpenClaim := { program := "ythemmbdhhjelcaa", sum := "8bf3210cc812f4183e03e5283b49243de7006e160e4e134d62e671a46e46a0bd", func := "learner/learnerlaw04.RandomFair", spec := "randomFair", apart := false }
def RandomFairSaid : Prop := randomFairRow.holds Try.pinned (OpenSpec.ofChange randomFairSpec)

/-- ITS FALSE NEIGHBOUR: 'it returns false'. Refute it at one input. -/
def randomFairWrong : ChangeSpec := { name := "randomFair", fn := fun _ => fun
  | [d1, d2, d3] => { results := [.lit (.bool false)], args := [d1, d2, d3] }
  | _ => none }
def RandomFairWrongFalsely : Prop := randomFairRow.holds Try.pinned (OpenSpec.ofChange randomFairWrong)

/-- 'learnerlaw04.RandomWords': WHATEVER THE INPUT: true; the input reads as it did. -/
def randomWordsSpec : ChangeSpec := { name := "randomWords", fn := fun _ => fun
  | [d1, d2, d3] => { results := [.lit (.bool true)], args := [d1, d2, d3] }
  | _ => none }
def randomWordsRow : OpenClaim := { program := "ythemmbdhhjelcaa", sum := "8bf3210cc812f4183e03e5283b49243de7006e160e4e134d62e671a46e46a0bd", func := "learner/learnerlaw04.RandomWords", spec := "randomWords", apart := false }
def RandomWordsSaid : Prop := randomWordsRow.holds Try.pinned (OpenSpec.ofChange randomWordsSpec)

/-- ITS FALSE NEIGHBOUR: 'it returns false'. Refute it at one input. -/
def randomWordsWrong : ChangeSpec := { name := "randomWords", fn := fun _ => fun
  | [d1, d2, d3] => { results := [.lit (.bool false)], args := [d1, d2, d3] }
  | _ => none }
def RandomWordsWrongFalsely : Prop := randomWordsRow.holds Try.pinned (OpenSpec.ofChange randomWordsWrong)

/-- 'learnerlaw04.RandomParts': WHATEVER THE INPUT: true; the input reads as it did. -/
def randomPartsSpec : ChangeSpec := { name := "randomParts", fn := fun _ => fun
  | [d] => { results := [.lit (.bool true)], args := [d] }
  | _ => none }
def randomPartsRow : OpenClaim := { program := "ythemmbdhhjelcaa", sum := "8bf3210cc812f4183e03e5283b49243de7006e160e4e134d62e671a46e46a0bd", func := "learner/learnerlaw04.RandomParts", spec := "randomParts", apart := false }
def RandomPartsSaid : Prop := randomPartsRow.holds Try.pinned (OpenSpec.ofChange randomPartsSpec)

/-- ITS FALSE NEIGHBOUR: 'it returns false'. Refute it at one input. -/
def randomPartsWrong : ChangeSpec := { name := "randomParts", fn := fun _ => fun
  | [d] => { results := [.lit (.bool false)], args := [d] }
  | _ => none }
def RandomPartsWrongFalsely : Prop := randomPartsRow.holds Try.pinned (OpenSpec.ofChange randomPartsWrong)

/-- 'learnerlaw32.WalkSuites': WHATEVER THE INPUT: true; the input reads as it did. -/
def walkSuitesSpec : ChangeSpec := { name := "walkSuites", fn := fun _ => fun
  | [d1, d2] => { results := [.lit (.bool true)], args := [d1, d2] }
  | _ => none }
def walkSuitesRow : OpenClaim := { program := "ythemmbdhhjelcaa", sum := "8bf3210cc812f4183e03e5283b49243de7006e160e4e134d62e671a46e46a0bd", func := "learner/learnerlaw32.WalkSuites", spec := "walkSuites", apart := false }
def WalkSuitesSaid : Prop := walkSuitesRow.holds Try.pinned (OpenSpec.ofChange walkSuitesSpec)

/-- ITS FALSE NEIGHBOUR: 'it returns false'. Refute it at one input. -/
def walkSuitesWrong : ChangeSpec := { name := "walkSuites", fn := fun _ => fun
  | [d1, d2] => { results := [.lit (.bool false)], args := [d1, d2] }
  | _ => none }
def WalkSuitesWrongFalsely : Prop := walkSuitesRow.holds Try.pinned (OpenSpec.ofChange walkSuitesWrong)

/-- 'learnerlaw32.WalkGuides': WHATEVER THE INPUT: true; the input reads as it did. -/
def walkGuidesSpec : ChangeSpec := { name := "walkGuides", fn := fun _ => fun
  | [d1, d2] => { results := [.lit (.bool true)], args := [d1, d2] }
  | _ => none }
def walkGuidesRow : OpenClaim := { program := "ythemmbdhhjelcaa", sum := "8bf3210cc812f4183e03e5283b49243de7006e160e4e134d62e671a46e46a0bd", func := "learner/learnerlaw32.WalkGuides", spec := "walkGuides", apart := false }
def WalkGuidesSaid : Prop := walkGuidesRow.holds Try.pinned (OpenSpec.ofChange walkGuidesSpec)

/-- ITS FALSE NEIGHBOUR: 'it returns false'. Refute it at one input. -/
def walkGuidesWrong : ChangeSpec := { name := "walkGuides", fn := fun _ => fun
  | [d1, d2] => { results := [.lit (.bool false)], args := [d1, d2] }
  | _ => none }
def WalkGuidesWrongFalsely : Prop := walkGuidesRow.holds Try.pinned (OpenSpec.ofChange walkGuidesWrong)

/-- 'learnerlaw32.WalkFirst': WHATEVER THE INPUT: true; the input reads as it did. -/
def walkFirstSpec : ChangeSpec := { name := "walkFirst", fn := fun _ => fun
  | [d1, d2, d3] => { results := [.lit (.bool true)], args := [d1, d2, d3] }
  | _ => none }
def walkFirstRow : OpenClaim := { program := "ythemmbdhhjelcaa", sum := "8bf3210cc812f4183e03e5283b49243de7006e160e4e134d62e671a46e46a0bd", func := "learner/learnerlaw32.WalkFirst", spec := "walkFirst", apart := false }
def WalkFirstSaid : Prop := walkFirstRow.holds Try.pinned (OpenSpec.ofChange walkFirstSpec)

/-- ITS FALSE NEIGHBOUR: 'it returns false'. Refute it at one input. -/
def walkFirstWrong : ChangeSpec := { name := "walkFirst", fn := fun _ => fun
  | [d1, d2, d3] => { results := [.lit (.bool false)], args := [d1, d2, d3] }
  | _ => none }
def WalkFirstWrongFalsely : Prop := walkFirstRow.holds Try.pinned (OpenSpec.ofChange walkFirstWrong)

/-- 'learnerlaw32.WalkFollows': WHATEVER THE INPUT: true; the input reads as it did. -/
def walkFollowsSpec : ChangeSpec := { name := "walkFollows", fn := fun _ => fun
  | [d1, d2] => { results := [.lit (.bool true)], args := [d1, d2] }
  | _ => none }
def walkFollowsRow : OpenClaim := { program := "ythemmbdhhjelcaa", sum := "8bf3210cc812f4183e03e5283b49243de7006e160e4e134d62e671a46e46a0bd", func := "learner/learnerlaw32.WalkFollows", spec := "walkFollows", apart := false }
def WalkFollowsSaid : Prop := walkFollowsRow.holds Try.pinned (OpenSpec.ofChange walkFollowsSpec)

/-- ITS FALSE NEIGHBOUR: 'it returns false'. Refute it at one input. -/
def walkFollowsWrong : ChangeSpec := { name := "walkFollows", fn := fun _ => fun
  | [d1, d2] => { results := [.lit (.bool false)], args := [d1, d2] }
  | _ => none }
def WalkFollowsWrongFalsely : Prop := walkFollowsRow.holds Try.pinned (OpenSpec.ofChange walkFollowsWrong)

/-- 'learnerlaw32.WalkWords': WHATEVER THE INPUT: true; the input reads as it did. -/
def walkWordsSpec : ChangeSpec := { name := "walkWords", fn := fun _ => fun
  | [d1, d2] => { results := [.lit (.bool true)], args := [d1, d2] }
  | _ => none }
def walkWordsRow : OpenClaim := { program := "ythemmbdhhjelcaa", sum := "8bf3210cc812f4183e03e5283b49243de7006e160e4e134d62e671a46e46a0bd", func := "learner/learnerlaw32.WalkWords", spec := "walkWords", unfollowed := true, recurses := true, apart := false }
def WalkWordsSaid : Prop := walkWordsRow.holds Try.pinned (OpenSpec.ofChange walkWordsSpec)

/-- ITS FALSE NEIGHBOUR: 'it returns false'. Refute it at one input. -/
def walkWordsWrong : ChangeSpec := { name := "walkWords", fn := fun _ => fun
  | [d1, d2] => { results := [.lit (.bool false)], args := [d1, d2] }
  | _ => none }
def WalkWordsWrongFalsely : Prop := walkWordsRow.holds Try.pinned (OpenSpec.ofChange walkWordsWrong)

/- THE SECOND FORM. 'bulk': how many values and letters a reading holds, each counted each time it is reached (what is shared counts as often as it is met; a slice's spare places count too). A statement '..UptoSaid' is the law's where the arguments, and the package variables that the reading takes, are together of bulk at most 1048576: NARROWER than '..Said'. Prove '..Said' where nothing that the law and all that it calls make is longer than what came in: it says more and counts as full. Else prove '..UptoSaid'. A law counts once. -/
mutual
def uptoBulk {H : Type} : DataW H → Nat
  | .lit (.string bytes) => bytes.length + 1
  | .lit _ => 1
  | .nil => 1
  | .ptr d => uptoBulk d + 1
  | .slice elems spare => uptoBulkAll elems + uptoBulkAll spare + 1
  | .agg parts => uptoBulkAll parts + 1
  | .iface _ d => uptoBulk d + 1
  | .map entries => uptoBulkEntries entries + 1
  | .held _ => 1
def uptoBulkAll {H : Type} : List (DataW H) → Nat
  | [] => 0
  | d :: r => uptoBulk d + uptoBulkAll r
def uptoBulkEntries {H : Type} : List (Lit × DataW H) → Nat
  | [] => 0
  | x :: r => uptoBulkEntry x + uptoBulkEntries r
def uptoBulkEntry {H : Type} : Lit × DataW H → Nat
  | (.string bytes, d) => bytes.length + uptoBulk d + 1
  | (_, d) => uptoBulk d + 1
 end
def uptoSmall : (H : Type) → List (DataW H) → Bool := fun _ ds => decide (uptoBulkAll ds ≤ 1048576)
def OpenSpec.upto (s : _root_.Go.ChangeSpec) : _root_.Go.OpenSpec := { _root_.Go.OpenSpec.ofChange s with cond := some uptoSmall }

/-- 'learnerlaw04.RandomNumbers', WHERE WHAT IT READS IS OF BULK AT MOST 1048576: true; the input reads as it did. -/
def randomNumbersUptoRow : OpenClaim := { program := "ythemmbdhhjelcaa", sum := "8bf3210cc812f4183e03e5283b49243de7006e160e4e134d62e671a46e46a0bd", func := "learner/learnerlaw04.RandomNumbers", spec := "randomNumbers", apart := false, narrowed := true }
def RandomNumbersUptoSaid : Prop := randomNumbersUptoRow.holds Try.pinned (OpenSpec.upto randomNumbersSpec)

/-- 'learnerlaw04.RandomShuffles', WHERE WHAT IT READS IS OF BULK AT MOST 1048576: true; the input reads as it did. -/
def randomShufflesUptoRow : OpenClaim := { program := "ythemmbdhhjelcaa", sum := "8bf3210cc812f4183e03e5283b49243de7006e160e4e134d62e671a46e46a0bd", func := "learner/learnerlaw04.RandomShuffles", spec := "randomShuffles", apart := false, narrowed := true }
def RandomShufflesUptoSaid : Prop := randomShufflesUptoRow.holds Try.pinned (OpenSpec.upto randomShufflesSpec)

/-- 'learnerlaw04.RandomChoices', WHERE WHAT IT READS IS OF BULK AT MOST 1048576: true; the input reads as it did. -/
def randomChoicesUptoRow : OpenClaim := { program := "ythemmbdhhjelcaa", sum := "8bf3210cc812f4183e03e5283b49243de7006e160e4e134d62e671a46e46a0bd", func := "learner/learnerlaw04.RandomChoices", spec := "randomChoices", apart := false, narrowed := true }
def RandomChoicesUptoSaid : Prop := randomChoicesUptoRow.holds Try.pinned (OpenSpec.upto randomChoicesSpec)

/-- 'learnerlaw04.RandomFair', WHERE WHAT IT READS IS OF BULK AT MOST 1048576: true; the input reads as it did. -/
def randomFairUptoRow : OpenClaim := { program := "ythemmbdhhjelcaa", sum := "8bf3210cc812f4183e03e5283b49243de7006e160e4e134d62e671a46e46a0bd", func := "learner/learnerlaw04.RandomFair", spec := "randomFair", apart := false, narrowed := true }
def RandomFairUptoSaid : Prop := randomFairUptoRow.holds Try.pinned (OpenSpec.upto randomFairSpec)

/-- 'learnerlaw04.RandomWords', WHERE WHAT IT READS IS OF BULK AT MOST 1048576: true; the input reads as it did. -/
def randomWordsUptoRow : OpenClaim := { program := "ythemmbdhhjelcaa", sum := "8bf3210cc812f4183e03e5283b49243de7006e160e4e134d62e671a46e46a0bd", func := "learner/learnerlaw04.RandomWords", spec := "randomWords", apart := false, narrowed := true }
def RandomWordsUptoSaid : Prop := randomWordsUptoRow.holds Try.pinned (OpenSpec.upto randomWordsSpec)

/-- 'learnerlaw04.RandomParts', WHERE WHAT IT READS IS OF BULK AT MOST 1048576: true; the input reads as it did. -/
def randomPartsUptoRow : OpenClaim := { program := "ythemmbdhhjelcaa", sum := "8bf3210cc812f4183e03e5283b49243de7006e160e4e134d62e671a46e46a0bd", func := "learner/learnerlaw04.RandomParts", spec := "randomParts", apart := false, narrowed := true }
def RandomPartsUptoSaid : Prop := randomPartsUptoRow.holds Try.pinned (OpenSpec.upto randomPartsSpec)

/-- 'learnerlaw32.WalkSuites', WHERE WHAT IT READS IS OF BULK AT MOST 1048576: true; the input reads as it did. -/
def walkSuitesUptoRow : OpenClaim := { program := "ythemmbdhhjelcaa", sum := "8bf3210cc812f4183e03e5283b49243de7006e160e4e134d62e671a46e46a0bd", func := "learner/learnerlaw32.WalkSuites", spec := "walkSuites", apart := false, narrowed := true }
def WalkSuitesUptoSaid : Prop := walkSuitesUptoRow.holds Try.pinned (OpenSpec.upto walkSuitesSpec)

/-- 'learnerlaw32.WalkGuides', WHERE WHAT IT READS IS OF BULK AT MOST 1048576: true; the input reads as it did. -/
def walkGuidesUptoRow : OpenClaim := { program := "ythemmbdhhjelcaa", sum := "8bf3210cc812f4183e03e5283b49243de7006e160e4e134d62e671a46e46a0bd", func := "learner/learnerlaw32.WalkGuides", spec := "walkGuides", apart := false, narrowed := true }
def WalkGuidesUptoSaid : Prop := walkGuidesUptoRow.holds Try.pinned (OpenSpec.upto walkGuidesSpec)

/-- 'learnerlaw32.WalkFirst', WHERE WHAT IT READS IS OF BULK AT MOST 1048576: true; the input reads as it did. -/
def walkFirstUptoRow : OpenClaim := { program := "ythemmbdhhjelcaa", sum := "8bf3210cc812f4183e03e5283b49243de7006e160e4e134d62e671a46e46a0bd", func := "learner/learnerlaw32.WalkFirst", spec := "walkFirst", apart := false, narrowed := true }
def WalkFirstUptoSaid : Prop := walkFirstUptoRow.holds Try.pinned (OpenSpec.upto walkFirstSpec)

/-- 'learnerlaw32.WalkFollows', WHERE WHAT IT READS IS OF BULK AT MOST 1048576: true; the input reads as it did. -/
def walkFollowsUptoRow : OpenClaim := { program := "ythemmbdhhjelcaa", sum := "8bf3210cc812f4183e03e5283b49243de7006e160e4e134d62e671a46e46a0bd", func := "learner/learnerlaw32.WalkFollows", spec := "walkFollows", apart := false, narrowed := true }
def WalkFollowsUptoSaid : Prop := walkFollowsUptoRow.holds Try.pinned (OpenSpec.upto walkFollowsSpec)

/-- 'learnerlaw32.WalkWords', WHERE WHAT IT READS IS OF BULK AT MOST 1048576: true; the input reads as it did. -/
def walkWordsUptoRow : OpenClaim := { program := "ythemmbdhhjelcaa", sum := "8bf3210cc812f4183e03e5283b49243de7006e160e4e134d62e671a46e46a0bd", func := "learner/learnerlaw32.WalkWords", spec := "walkWords", unfollowed := true, recurses := true, apart := false, narrowed := true }
def WalkWordsUptoSaid : Prop := walkWordsUptoRow.holds Try.pinned (OpenSpec.upto walkWordsSpec)

end Rows
end Go.Proofs.Ythemmbdhhjelcaa
