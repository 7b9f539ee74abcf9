/-
  No cell of these rows narrows 'for every input' (looked for: loops, veiled, ifaces, maps, wideKeys, modest, calm, conditions, laid).
  DERIVED. THE GIVEN ROWS OF THIS SEAT. 6 by the template 'for every input the law returns true; each argument reads behind the call as it read before'; 0 by the template 'total and deterministic' (their statements: YtpcoddbkcelaoaaTotals.lean).
  GIVEN WITH THE SEED: the statements are not yours to turn. If you find one false, say at which input.
  Laid BY PROGRAM, IN A SANDBOX (cutbox-rows.mjs): the forced cells as the released guide's own fill.sh prints them over the translation 51277d571534f45e… (all of the seat's roots in one cut). By AI agents, Wed Nov 11 2026. No macro, syntax, notation, axiom, sorry.
-/
import Derived.Test.YtpcoddbkcelaoaaChecked
import GoSem.Claim
import GoSem.ClaimJoined
import GoSem.ClaimMapViews
import Derived.JoinedTies
import Derived.KernelRfl
namespace Go.Proofs.Ytpcoddbkcelaoaa
/- THE CELL 'sum', in the pinned program and in every row, IS THE sha256 OF THE DUMP (.gsa) THAT YtpcoddbkcelaoaaProg.lean LOADS. Nothing in Lean hashes anything: it is a label: what it is worth is what the hold of that sum in a sandbox is worth. -/
noncomputable def Try.pinned : Pinned := { name := "ytpcoddbkcelaoaa", sum := "51277d571534f45e1dc7fe5be711d79e7c47b2167b68281db15af22fccf725b9", checked := Try.checked }
namespace Rows
def none {H : Type} : Left H := { results := [], args := [] }

/-- 'learnerlaw41.TimerValid': WHATEVER THE INPUT: true; the input reads as it did. -/
def timerValidSpec : ChangeSpec := { name := "timerValid", fn := fun _ => fun
  | [d] => { results := [.lit (.bool true)], args := [d] }
  | _ => none }
def timerValidRow : OpenClaim := { program := "ytpcoddbkcelaoaa", sum := "51277d571534f45e1dc7fe5be711d79e7c47b2167b68281db15af22fccf725b9", func := "learner/learnerlaw41.TimerValid", spec := "timerValid", plainKeys := false, apart := false }
def TimerValidSaid : Prop := timerValidRow.holds Try.pinned (OpenSpec.ofChange timerValidSpec)

/-- ITS FALSE NEIGHBOUR: 'it returns false'. Refute it at one input. -/
def timerValidWrong : ChangeSpec := { name := "timerValid", fn := fun _ => fun
  | [d] => { results := [.lit (.bool false)], args := [d] }
  | _ => none }
def TimerValidWrongFalsely : Prop := timerValidRow.holds Try.pinned (OpenSpec.ofChange timerValidWrong)

/-- 'learnerlaw41.TimerRuns': WHATEVER THE INPUT: true; the input reads as it did. -/
def timerRunsSpec : ChangeSpec := { name := "timerRuns", fn := fun _ => fun
  | [d1, d2, d3] => { results := [.lit (.bool true)], args := [d1, d2, d3] }
  | _ => none }
def timerRunsRow : OpenClaim := { program := "ytpcoddbkcelaoaa", sum := "51277d571534f45e1dc7fe5be711d79e7c47b2167b68281db15af22fccf725b9", func := "learner/learnerlaw41.TimerRuns", spec := "timerRuns", plainKeys := false, apart := false }
def TimerRunsSaid : Prop := timerRunsRow.holds Try.pinned (OpenSpec.ofChange timerRunsSpec)

/-- ITS FALSE NEIGHBOUR: 'it returns false'. Refute it at one input. -/
def timerRunsWrong : ChangeSpec := { name := "timerRuns", fn := fun _ => fun
  | [d1, d2, d3] => { results := [.lit (.bool false)], args := [d1, d2, d3] }
  | _ => none }
def TimerRunsWrongFalsely : Prop := timerRunsRow.holds Try.pinned (OpenSpec.ofChange timerRunsWrong)

/-- 'learnerlaw41.TimerUntimed': WHATEVER THE INPUT: true; the input reads as it did. -/
def timerUntimedSpec : ChangeSpec := { name := "timerUntimed", fn := fun _ => fun
  | [d] => { results := [.lit (.bool true)], args := [d] }
  | _ => none }
def timerUntimedRow : OpenClaim := { program := "ytpcoddbkcelaoaa", sum := "51277d571534f45e1dc7fe5be711d79e7c47b2167b68281db15af22fccf725b9", func := "learner/learnerlaw41.TimerUntimed", spec := "timerUntimed", plainKeys := false, apart := false }
def TimerUntimedSaid : Prop := timerUntimedRow.holds Try.pinned (OpenSpec.ofChange timerUntimedSpec)

/-- ITS FALSE NEIGHBOUR: 'it returns false'. Refute it at one input. -/
def timerUntimedWrong : ChangeSpec := { name := "timerUntimed", fn := fun _ => fun
  | [d] => { results := [.lit (.bool false)], args := [d] }
  | _ => none }
def TimerUntimedWrongFalsely : Prop := timerUntimedRow.holds Try.pinned (OpenSpec.ofChange timerUntimedWrong)

/-- 'learnerlaw41.TimerTimes': WHATEVER THE INPUT: true; the input reads as it did. -/
def timerTimesSpec : ChangeSpec := { name := "timerTimes", fn := fun _ => fun
  | [d1, d2, d3] => { results := [.lit (.bool true)], args := [d1, d2, d3] }
  | _ => none }
def timerTimesRow : OpenClaim := { program := "ytpcoddbkcelaoaa", sum := "51277d571534f45e1dc7fe5be711d79e7c47b2167b68281db15af22fccf725b9", func := "learner/learnerlaw41.TimerTimes", spec := "timerTimes", plainKeys := false, apart := false }
def TimerTimesSaid : Prop := timerTimesRow.holds Try.pinned (OpenSpec.ofChange timerTimesSpec)

/-- ITS FALSE NEIGHBOUR: 'it returns false'. Refute it at one input. -/
def timerTimesWrong : ChangeSpec := { name := "timerTimes", fn := fun _ => fun
  | [d1, d2, d3] => { results := [.lit (.bool false)], args := [d1, d2, d3] }
  | _ => none }
def TimerTimesWrongFalsely : Prop := timerTimesRow.holds Try.pinned (OpenSpec.ofChange timerTimesWrong)

/-- 'learnerlaw41.TimerEnds': WHATEVER THE INPUT: true; the input reads as it did. -/
def timerEndsSpec : ChangeSpec := { name := "timerEnds", fn := fun _ => fun
  | [d1, d2, d3] => { results := [.lit (.bool true)], args := [d1, d2, d3] }
  | _ => none }
def timerEndsRow : OpenClaim := { program := "ytpcoddbkcelaoaa", sum := "51277d571534f45e1dc7fe5be711d79e7c47b2167b68281db15af22fccf725b9", func := "learner/learnerlaw41.TimerEnds", spec := "timerEnds", plainKeys := false, apart := false }
def TimerEndsSaid : Prop := timerEndsRow.holds Try.pinned (OpenSpec.ofChange timerEndsSpec)

/-- ITS FALSE NEIGHBOUR: 'it returns false'. Refute it at one input. -/
def timerEndsWrong : ChangeSpec := { name := "timerEnds", fn := fun _ => fun
  | [d1, d2, d3] => { results := [.lit (.bool false)], args := [d1, d2, d3] }
  | _ => none }
def TimerEndsWrongFalsely : Prop := timerEndsRow.holds Try.pinned (OpenSpec.ofChange timerEndsWrong)

/-- 'learnerlaw41.TimerFollows': WHATEVER THE INPUT: true; the input reads as it did. -/
def timerFollowsSpec : ChangeSpec := { name := "timerFollows", fn := fun _ => fun
  | [d1, d2, d3] => { results := [.lit (.bool true)], args := [d1, d2, d3] }
  | _ => none }
def timerFollowsRow : OpenClaim := { program := "ytpcoddbkcelaoaa", sum := "51277d571534f45e1dc7fe5be711d79e7c47b2167b68281db15af22fccf725b9", func := "learner/learnerlaw41.TimerFollows", spec := "timerFollows", plainKeys := false, apart := false }
def TimerFollowsSaid : Prop := timerFollowsRow.holds Try.pinned (OpenSpec.ofChange timerFollowsSpec)

/-- ITS FALSE NEIGHBOUR: 'it returns false'. Refute it at one input. -/
def timerFollowsWrong : ChangeSpec := { name := "timerFollows", fn := fun _ => fun
  | [d1, d2, d3] => { results := [.lit (.bool false)], args := [d1, d2, d3] }
  | _ => none }
def TimerFollowsWrongFalsely : Prop := timerFollowsRow.holds Try.pinned (OpenSpec.ofChange timerFollowsWrong)

/- THE SECOND FORM. 'bulk': how many values and letters a reading holds, each counted each time it is reached (what is shared counts as often as it is met; a slice's spare places count too). A statement '..UptoSaid' is the law's where the arguments, and the package variables that the reading takes, are together of bulk at most 1048576: NARROWER than '..Said'. Prove '..Said' where nothing that the law and all that it calls make is longer than what came in: it says more and counts as full. Else prove '..UptoSaid'. A law counts once. -/
mutual
def uptoBulk {H : Type} : DataW H → Nat
  | .lit (.string bytes) => bytes.length + 1
  | .lit _ => 1
  | .nil => 1
  | .ptr d => uptoBulk d + 1
  | .slice elems spare => uptoBulkAll elems + uptoBulkAll spare + 1
  | .agg parts => uptoBulkAll parts + 1
  | .iface _ d => uptoBulk d + 1
  | .map entries => uptoBulkEntries entries + 1
  | .held _ => 1
def uptoBulkAll {H : Type} : List (DataW H) → Nat
  | [] => 0
  | d :: r => uptoBulk d + uptoBulkAll r
def uptoBulkEntries {H : Type} : List (Lit × DataW H) → Nat
  | [] => 0
  | x :: r => uptoBulkEntry x + uptoBulkEntries r
def uptoBulkEntry {H : Type} : Lit × DataW H → Nat
  | (.string bytes, d) => bytes.length + uptoBulk d + 1
  | (_, d) => uptoBulk d + 1
 end
def uptoSmall : (H : Type) → List (DataW H) → Bool := fun _ ds => decide (uptoBulkAll ds ≤ 1048576)
def OpenSpec.upto (s : _root_.Go.ChangeSpec) : _root_.Go.OpenSpec := { _root_.Go.OpenSpec.ofChange s with cond := some uptoSmall }

/-- 'learnerlaw41.TimerValid', WHERE WHAT IT READS IS OF BULK AT MOST 1048576: true; the input reads as it did. -/
def timerValidUptoRow : OpenClaim := { program := "ytpcoddbkcelaoaa", sum := "51277d571534f45e1dc7fe5be711d79e7c47b2167b68281db15af22fccf725b9", func := "learner/learnerlaw41.TimerValid", spec := "timerValid", plainKeys := false, apart := false, narrowed := true }
def TimerValidUptoSaid : Prop := timerValidUptoRow.holds Try.pinned (OpenSpec.upto timerValidSpec)

/-- 'learnerlaw41.TimerRuns', WHERE WHAT IT READS IS OF BULK AT MOST 1048576: true; the input reads as it did. -/
def timerRunsUptoRow : OpenClaim := { program := "ytpcoddbkcelaoaa", sum := "51277d571534f45e1dc7fe5be711d79e7c47b2167b68281db15af22fccf725b9", func := "learner/learnerlaw41.TimerRuns", spec := "timerRuns", plainKeys := false, apart := false, narrowed := true }
def TimerRunsUptoSaid : Prop := timerRunsUptoRow.holds Try.pinned (OpenSpec.upto timerRunsSpec)

/-- 'learnerlaw41.TimerUntimed', WHERE WHAT IT READS IS OF BULK AT MOST 1048576: true; the input reads as it did. -/
def timerUntimedUptoRow : OpenClaim := { program := "ytpcoddbkcelaoaa", sum := "51277d571534f45e1dc7fe5be711d79e7c47b2167b68281db15af22fccf725b9", func := "learner/learnerlaw41.TimerUntimed", spec := "timerUntimed", plainKeys := false, apart := false, narrowed := true }
def TimerUntimedUptoSaid : Prop := timerUntimedUptoRow.holds Try.pinned (OpenSpec.upto timerUntimedSpec)

/-- 'learnerlaw41.TimerTimes', WHERE WHAT IT READS IS OF BULK AT MOST 1048576: true; the input reads as it did. -/
def timerTimesUptoRow : OpenClaim := { program := "ytpcoddbkcelaoaa", sum := "51277d571534f45e1dc7fe5be711d79e7c47b2167b68281db15af22fccf725b9", func := "learner/learnerlaw41.TimerTimes", spec := "timerTimes", plainKeys := false, apart := false, narrowed := true }
def TimerTimesUptoSaid : Prop := timerTimesUptoRow.holds Try.pinned (OpenSpec.upto timerTimesSpec)

/-- 'learnerlaw41.TimerEnds', WHERE WHAT IT READS IS OF BULK AT MOST 1048576: true; the input reads as it did. -/
def timerEndsUptoRow : OpenClaim := { program := "ytpcoddbkcelaoaa", sum := "51277d571534f45e1dc7fe5be711d79e7c47b2167b68281db15af22fccf725b9", func := "learner/learnerlaw41.TimerEnds", spec := "timerEnds", plainKeys := false, apart := false, narrowed := true }
def TimerEndsUptoSaid : Prop := timerEndsUptoRow.holds Try.pinned (OpenSpec.upto timerEndsSpec)

/-- 'learnerlaw41.TimerFollows', WHERE WHAT IT READS IS OF BULK AT MOST 1048576: true; the input reads as it did. -/
def timerFollowsUptoRow : OpenClaim := { program := "ytpcoddbkcelaoaa", sum := "51277d571534f45e1dc7fe5be711d79e7c47b2167b68281db15af22fccf725b9", func := "learner/learnerlaw41.TimerFollows", spec := "timerFollows", plainKeys := false, apart := false, narrowed := true }
def TimerFollowsUptoSaid : Prop := timerFollowsUptoRow.holds Try.pinned (OpenSpec.upto timerFollowsSpec)

end Rows
end Go.Proofs.Ytpcoddbkcelaoaa
