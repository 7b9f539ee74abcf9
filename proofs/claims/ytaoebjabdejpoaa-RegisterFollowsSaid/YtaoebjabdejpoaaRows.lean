/-
  No cell of these rows narrows 'for every input' (looked for: loops, veiled, ifaces, maps, wideKeys, modest, calm, conditions, laid).
  DERIVED. THE GIVEN ROWS OF THIS SEAT. 7 by the template 'for every input the law returns true; each argument reads behind the call as it read before'; 0 by the template 'total and deterministic' (their statements: YtaoebjabdejpoaaTotals.lean).
  GIVEN WITH THE SEED: the statements are not yours to turn. If you find one false, say at which input.
  Laid BY PROGRAM, IN A SANDBOX (cutbox-rows.mjs): the forced cells as the released guide's own fill.sh prints them over the translation 9542a7f7761c2b6a… (all of the seat's roots in one cut). By AI agents, Wed Nov 11 2026. No macro, syntax, notation, axiom, sorry.
-/
import Derived.Test.YtaoebjabdejpoaaChecked
import GoSem.Claim
import GoSem.ClaimJoined
import GoSem.ClaimMapViews
import Derived.JoinedTies
import Derived.KernelRfl
namespace Go.Proofs.Ytaoebjabdejpoaa
/- THE CELL 'sum', in the pinned program and in every row, IS THE sha256 OF THE DUMP (.gsa) THAT YtaoebjabdejpoaaProg.lean LOADS. Nothing in Lean hashes anything: it is a label: what it is worth is what the hold of that sum in a sandbox is worth. -/
noncomputable def Try.pinned : Pinned := { name := "ytaoebjabdejpoaa", sum := "9542a7f7761c2b6a3c068535eeb844eab773429ea2069037d93d26665aec39c2", checked := Try.checked }
namespace Rows
def none {H : Type} : Left H := { results := [], args := [] }

/-- 'learnerlaw39.RegisterRuns': WHATEVER THE INPUT: true; the input reads as it did. -/
def registerRunsSpec : ChangeSpec := { name := "registerRuns", fn := fun _ => fun
  | [d1, d2] => { results := [.lit (.bool true)], args := [d1, d2] }
  | _ => none }
def registerRunsRow : OpenClaim := { program := "ytaoebjabdejpoaa", sum := "9542a7f7761c2b6a3c068535eeb844eab773429ea2069037d93d26665aec39c2", func := "learner/learnerlaw39.RegisterRuns", spec := "registerRuns", unfollowed := true, recurses := true, plainKeys := false, apart := false }
def RegisterRunsSaid : Prop := registerRunsRow.holds Try.pinned (OpenSpec.ofChange registerRunsSpec)

/-- ITS FALSE NEIGHBOUR: 'it returns false'. Refute it at one input. -/
def registerRunsWrong : ChangeSpec := { name := "registerRuns", fn := fun _ => fun
  | [d1, d2] => { results := [.lit (.bool false)], args := [d1, d2] }
  | _ => none }
def RegisterRunsWrongFalsely : Prop := registerRunsRow.holds Try.pinned (OpenSpec.ofChange registerRunsWrong)

/-- 'learnerlaw39.RegisterSymbols': WHATEVER THE INPUT: true; the input reads as it did. -/
def registerSymbolsSpec : ChangeSpec := { name := "registerSymbols", fn := fun _ => fun
  | [d1, d2] => { results := [.lit (.bool true)], args := [d1, d2] }
  | _ => none }
def registerSymbolsRow : OpenClaim := { program := "ytaoebjabdejpoaa", sum := "9542a7f7761c2b6a3c068535eeb844eab773429ea2069037d93d26665aec39c2", func := "learner/learnerlaw39.RegisterSymbols", spec := "registerSymbols", unfollowed := true, recurses := true, plainKeys := false, apart := false }
def RegisterSymbolsSaid : Prop := registerSymbolsRow.holds Try.pinned (OpenSpec.ofChange registerSymbolsSpec)

/-- ITS FALSE NEIGHBOUR: 'it returns false'. Refute it at one input. -/
def registerSymbolsWrong : ChangeSpec := { name := "registerSymbols", fn := fun _ => fun
  | [d1, d2] => { results := [.lit (.bool false)], args := [d1, d2] }
  | _ => none }
def RegisterSymbolsWrongFalsely : Prop := registerSymbolsRow.holds Try.pinned (OpenSpec.ofChange registerSymbolsWrong)

/-- 'learnerlaw39.RegisterData': WHATEVER THE INPUT: true; the input reads as it did. -/
def registerDataSpec : ChangeSpec := { name := "registerData", fn := fun _ => fun
  | [d1, d2] => { results := [.lit (.bool true)], args := [d1, d2] }
  | _ => none }
def registerDataRow : OpenClaim := { program := "ytaoebjabdejpoaa", sum := "9542a7f7761c2b6a3c068535eeb844eab773429ea2069037d93d26665aec39c2", func := "learner/learnerlaw39.RegisterData", spec := "registerData", unfollowed := true, recurses := true, plainKeys := false, apart := false }
def RegisterDataSaid : Prop := registerDataRow.holds Try.pinned (OpenSpec.ofChange registerDataSpec)

/-- ITS FALSE NEIGHBOUR: 'it returns false'. Refute it at one input. -/
def registerDataWrong : ChangeSpec := { name := "registerData", fn := fun _ => fun
  | [d1, d2] => { results := [.lit (.bool false)], args := [d1, d2] }
  | _ => none }
def RegisterDataWrongFalsely : Prop := registerDataRow.holds Try.pinned (OpenSpec.ofChange registerDataWrong)

/-- 'learnerlaw39.RegisterUnfolds': WHATEVER THE INPUT: true; the input reads as it did. -/
def registerUnfoldsSpec : ChangeSpec := { name := "registerUnfolds", fn := fun _ => fun
  | [d1, d2] => { results := [.lit (.bool true)], args := [d1, d2] }
  | _ => none }
def registerUnfoldsRow : OpenClaim := { program := "ytaoebjabdejpoaa", sum := "9542a7f7761c2b6a3c068535eeb844eab773429ea2069037d93d26665aec39c2", func := "learner/learnerlaw39.RegisterUnfolds", spec := "registerUnfolds", unfollowed := true, recurses := true, plainKeys := false, apart := false }
def RegisterUnfoldsSaid : Prop := registerUnfoldsRow.holds Try.pinned (OpenSpec.ofChange registerUnfoldsSpec)

/-- ITS FALSE NEIGHBOUR: 'it returns false'. Refute it at one input. -/
def registerUnfoldsWrong : ChangeSpec := { name := "registerUnfolds", fn := fun _ => fun
  | [d1, d2] => { results := [.lit (.bool false)], args := [d1, d2] }
  | _ => none }
def RegisterUnfoldsWrongFalsely : Prop := registerUnfoldsRow.holds Try.pinned (OpenSpec.ofChange registerUnfoldsWrong)

/-- 'learnerlaw39.RegisterBack': WHATEVER THE INPUT: true; the input reads as it did. -/
def registerBackSpec : ChangeSpec := { name := "registerBack", fn := fun _ => fun
  | [d1, d2] => { results := [.lit (.bool true)], args := [d1, d2] }
  | _ => none }
def registerBackRow : OpenClaim := { program := "ytaoebjabdejpoaa", sum := "9542a7f7761c2b6a3c068535eeb844eab773429ea2069037d93d26665aec39c2", func := "learner/learnerlaw39.RegisterBack", spec := "registerBack", unfollowed := true, recurses := true, plainKeys := false, apart := false }
def RegisterBackSaid : Prop := registerBackRow.holds Try.pinned (OpenSpec.ofChange registerBackSpec)

/-- ITS FALSE NEIGHBOUR: 'it returns false'. Refute it at one input. -/
def registerBackWrong : ChangeSpec := { name := "registerBack", fn := fun _ => fun
  | [d1, d2] => { results := [.lit (.bool false)], args := [d1, d2] }
  | _ => none }
def RegisterBackWrongFalsely : Prop := registerBackRow.holds Try.pinned (OpenSpec.ofChange registerBackWrong)

/-- 'learnerlaw39.RegisterRenames': WHATEVER THE INPUT: true; the input reads as it did. -/
def registerRenamesSpec : ChangeSpec := { name := "registerRenames", fn := fun _ => fun
  | [d1, d2] => { results := [.lit (.bool true)], args := [d1, d2] }
  | _ => none }
def registerRenamesRow : OpenClaim := { program := "ytaoebjabdejpoaa", sum := "9542a7f7761c2b6a3c068535eeb844eab773429ea2069037d93d26665aec39c2", func := "learner/learnerlaw39.RegisterRenames", spec := "registerRenames", unfollowed := true, recurses := true, plainKeys := false, apart := false }
def RegisterRenamesSaid : Prop := registerRenamesRow.holds Try.pinned (OpenSpec.ofChange registerRenamesSpec)

/-- ITS FALSE NEIGHBOUR: 'it returns false'. Refute it at one input. -/
def registerRenamesWrong : ChangeSpec := { name := "registerRenames", fn := fun _ => fun
  | [d1, d2] => { results := [.lit (.bool false)], args := [d1, d2] }
  | _ => none }
def RegisterRenamesWrongFalsely : Prop := registerRenamesRow.holds Try.pinned (OpenSpec.ofChange registerRenamesWrong)

/-- 'learnerlaw39.RegisterFollows': WHATEVER THE INPUT: true; the input reads as it did. -/
def registerFollowsSpec : ChangeSpec := { name := "registerFollows", fn := fun _ => fun
  | [d1, d2, d3] => { results := [.lit (.bool true)], args := [d1, d2, d3] }
  | _ => none }
def registerFollowsRow : OpenClaim := { program := "ytaoebjabdejpoaa", sum := "9542a7f7761c2b6a3c068535eeb844eab773429ea2069037d93d26665aec39c2", func := "learner/learnerlaw39.RegisterFollows", spec := "registerFollows", unfollowed := true, recurses := true, plainKeys := false, apart := false }
def RegisterFollowsSaid : Prop := registerFollowsRow.holds Try.pinned (OpenSpec.ofChange registerFollowsSpec)

/-- ITS FALSE NEIGHBOUR: 'it returns false'. Refute it at one input. -/
def registerFollowsWrong : ChangeSpec := { name := "registerFollows", fn := fun _ => fun
  | [d1, d2, d3] => { results := [.lit (.bool false)], args := [d1, d2, d3] }
  | _ => none }
def RegisterFollowsWrongFalsely : Prop := registerFollowsRow.holds Try.pinned (OpenSpec.ofChange registerFollowsWrong)

/- THE SECOND FORM. 'bulk': how many values and letters a reading holds, each counted each time it is reached (what is shared counts as often as it is met; a slice's spare places count too). A statement '..UptoSaid' is the law's where the arguments, and the package variables that the reading takes, are together of bulk at most 1048576: NARROWER than '..Said'. Prove '..Said' where nothing that the law and all that it calls make is longer than what came in: it says more and counts as full. Else prove '..UptoSaid'. A law counts once. -/
mutual
def uptoBulk {H : Type} : DataW H → Nat
  | .lit (.string bytes) => bytes.length + 1
  | .lit _ => 1
  | .nil => 1
  | .ptr d => uptoBulk d + 1
  | .slice elems spare => uptoBulkAll elems + uptoBulkAll spare + 1
  | .agg parts => uptoBulkAll parts + 1
  | .iface _ d => uptoBulk d + 1
  | .map entries => uptoBulkEntries entries + 1
  | .held _ => 1
def uptoBulkAll {H : Type} : List (DataW H) → Nat
  | [] => 0
  | d :: r => uptoBulk d + uptoBulkAll r
def uptoBulkEntries {H : Type} : List (Lit × DataW H) → Nat
  | [] => 0
  | x :: r => uptoBulkEntry x + uptoBulkEntries r
def uptoBulkEntry {H : Type} : Lit × DataW H → Nat
  | (.string bytes, d) => bytes.length + uptoBulk d + 1
  | (_, d) => uptoBulk d + 1
 end
def uptoSmall : (H : Type) → List (DataW H) → Bool := fun _ ds => decide (uptoBulkAll ds ≤ 1048576)
def OpenSpec.upto (s : _root_.Go.ChangeSpec) : _root_.Go.OpenSpec := { _root_.Go.OpenSpec.ofChange s with cond := some uptoSmall }

/-- 'learnerlaw39.RegisterRuns', WHERE WHAT IT READS IS OF BULK AT MOST 1048576: true; the input reads as it did. -/
def registerRunsUptoRow : OpenClaim := { program := "ytaoebjabdejpoaa", sum := "9542a7f7761c2b6a3c068535eeb844eab773429ea2069037d93d26665aec39c2", func := "learner/learnerlaw39.RegisterRuns", spec := "registerRuns", unfollowed := true, recurses := true, plainKeys := false, apart := false, narrowed := true }
def RegisterRunsUptoSaid : Prop := registerRunsUptoRow.holds Try.pinned (OpenSpec.upto registerRunsSpec)

/-- 'learnerlaw39.RegisterSymbols', WHERE WHAT IT READS IS OF BULK AT MOST 1048576: true; the input reads as it did. -/
def registerSymbolsUptoRow : OpenClaim := { program := "ytaoebjabdejpoaa", sum := "9542a7f7761c2b6a3c068535eeb844eab773429ea2069037d93d26665aec39c2", func := "learner/learnerlaw39.RegisterSymbols", spec := "registerSymbols", unfollowed := true, recurses := true, plainKeys := false, apart := false, narrowed := true }
def RegisterSymbolsUptoSaid : Prop := registerSymbolsUptoRow.holds Try.pinned (OpenSpec.upto registerSymbolsSpec)

/-- 'learnerlaw39.RegisterData', WHERE WHAT IT READS IS OF BULK AT MOST 1048576: true; the input reads as it did. -/
def registerDataUptoRow : OpenClaim := { program := "ytaoebjabdejpoaa", sum := "9542a7f7761c2b6a3c068535eeb844eab773429ea2069037d93d26665aec39c2", func := "learner/learnerlaw39.RegisterData", spec := "registerData", unfollowed := true, recurses := true, plainKeys := false, apart := false, narrowed := true }
def RegisterDataUptoSaid : Prop := registerDataUptoRow.holds Try.pinned (OpenSpec.upto registerDataSpec)

/-- 'learnerlaw39.RegisterUnfolds', WHERE WHAT IT READS IS OF BULK AT MOST 1048576: true; the input reads as it did. -/
def registerUnfoldsUptoRow : OpenClaim := { program := "ytaoebjabdejpoaa", sum := "9542a7f7761c2b6a3c068535eeb844eab773429ea2069037d93d26665aec39c2", func := "learner/learnerlaw39.RegisterUnfolds", spec := "registerUnfolds", unfollowed := true, recurses := true, plainKeys := false, apart := false, narrowed := true }
def RegisterUnfoldsUptoSaid : Prop := registerUnfoldsUptoRow.holds Try.pinned (OpenSpec.upto registerUnfoldsSpec)

/-- 'learnerlaw39.RegisterBack', WHERE WHAT IT READS IS OF BULK AT MOST 1048576: true; the input reads as it did. -/
def registerBackUptoRow : OpenClaim := { program := "ytaoebjabdejpoaa", sum := "9542a7f7761c2b6a3c068535eeb844eab773429ea2069037d93d26665aec39c2", func := "learner/learnerlaw39.RegisterBack", spec := "registerBack", unfollowed := true, recurses := true, plainKeys := false, apart := false, narrowed := true }
def RegisterBackUptoSaid : Prop := registerBackUptoRow.holds Try.pinned (OpenSpec.upto registerBackSpec)

/-- 'learnerlaw39.RegisterRenames', WHERE WHAT IT READS IS OF BULK AT MOST 1048576: true; the input reads as it did. -/
def registerRenamesUptoRow : OpenClaim := { program := "ytaoebjabdejpoaa", sum := "9542a7f7761c2b6a3c068535eeb844eab773429ea2069037d93d26665aec39c2", func := "learner/learnerlaw39.RegisterRenames", spec := "registerRenames", unfollowed := true, recurses := true, plainKeys := false, apart := false, narrowed := true }
def RegisterRenamesUptoSaid : Prop := registerRenamesUptoRow.holds Try.pinned (OpenSpec.upto registerRenamesSpec)

/-- 'learnerlaw39.RegisterFollows', WHERE WHAT IT READS IS OF BULK AT MOST 1048576: true; the input reads as it did. -/
def registerFollowsUptoRow : OpenClaim := { program := "ytaoebjabdejpoaa", sum := "9542a7f7761c2b6a3c068535eeb844eab773429ea2069037d93d26665aec39c2", func := "learner/learnerlaw39.RegisterFollows", spec := "registerFollows", unfollowed := true, recurses := true, plainKeys := false, apart := false, narrowed := true }
def RegisterFollowsUptoSaid : Prop := registerFollowsUptoRow.holds Try.pinned (OpenSpec.upto registerFollowsSpec)

end Rows
end Go.Proofs.Ytaoebjabdejpoaa
