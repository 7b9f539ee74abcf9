/-
  No cell of these rows narrows 'for every input' (looked for: loops, veiled, ifaces, maps, wideKeys, modest, calm, conditions, laid).
  DERIVED. THE GIVEN ROWS OF THIS SEAT. 5 by the template 'for every input the law returns true; each argument reads behind the call as it read before'; 0 by the template 'total and deterministic' (their statements: YtpoppadihbgbgaaTotals.lean).
  GIVEN WITH THE SEED: the statements are not yours to turn. If you find one false, say at which input.
  Laid BY PROGRAM, IN A SANDBOX (cutbox-rows.mjs): the forced cells as the released guide's own fill.sh prints them over the translation 260689c5d863e506… (all of the seat's roots in one cut). By AI agents, Wed Nov 11 2026. No macro, syntax, notation, axiom, sorry.
-/
import Derived.Test.YtpoppadihbgbgaaChecked
import GoSem.Claim
import GoSem.ClaimJoined
import GoSem.ClaimMapViews
import Derived.JoinedTies
import Derived.KernelRfl
namespace Go.Proofs.Ytpoppadihbgbgaa
/- THE CELL 'sum', in the pinned program and in every row, IS THE sha256 OF THE DUMP (.gsa) THAT YtpoppadihbgbgaaProg.lean LOADS. Nothing in Lean hashes anything: it is a label: what it is worth is what the hold of that sum in a sandbox is worth. -/
noncomputable def Try.pinned : Pinned := { name := "ytpoppadihbgbgaa", sum := "260689c5d863e506b262b14fc4ddd21e67a7d3c5450df67b0668020de00d9685", checked := Try.checked }
namespace Rows
def none {H : Type} : Left H := { results := [], args := [] }

/-- 'learnerlaw19.DeviceSteps': WHATEVER THE INPUT: true; the input reads as it did. -/
def deviceStepsSpec : ChangeSpec := { name := "deviceSteps", fn := fun _ => fun
  | [d1, d2] => { results := [.lit (.bool true)], args := [d1, d2] }
  | _ => none }
def deviceStepsRow : OpenClaim := { program := "ytpoppadihbgbgaa", sum := "260689c5d863e506b262b14fc4ddd21e67a7d3c5450df67b0668020de00d9685", func := "learner/learnerlaw19.DeviceSteps", spec := "deviceSteps", unfollowed := true, recurses := true, apart := false }
def DeviceStepsSaid : Prop := deviceStepsRow.holds Try.pinned (OpenSpec.ofChange deviceStepsSpec)

/-- ITS FALSE NEIGHBOUR: 'it returns false'. Refute it at one input. -/
def deviceStepsWrong : ChangeSpec := { name := "deviceSteps", fn := fun _ => fun
  | [d1, d2] => { results := [.lit (.bool false)], args := [d1, d2] }
  | _ => none }
def DeviceStepsWrongFalsely : Prop := deviceStepsRow.holds Try.pinned (OpenSpec.ofChange deviceStepsWrong)

/-- 'learnerlaw19.DeviceErrors': WHATEVER THE INPUT: true; the input reads as it did. -/
def deviceErrorsSpec : ChangeSpec := { name := "deviceErrors", fn := fun _ => fun
  | [d] => { results := [.lit (.bool true)], args := [d] }
  | _ => none }
def deviceErrorsRow : OpenClaim := { program := "ytpoppadihbgbgaa", sum := "260689c5d863e506b262b14fc4ddd21e67a7d3c5450df67b0668020de00d9685", func := "learner/learnerlaw19.DeviceErrors", spec := "deviceErrors", unfollowed := true, recurses := true, apart := false }
def DeviceErrorsSaid : Prop := deviceErrorsRow.holds Try.pinned (OpenSpec.ofChange deviceErrorsSpec)

/-- ITS FALSE NEIGHBOUR: 'it returns false'. Refute it at one input. -/
def deviceErrorsWrong : ChangeSpec := { name := "deviceErrors", fn := fun _ => fun
  | [d] => { results := [.lit (.bool false)], args := [d] }
  | _ => none }
def DeviceErrorsWrongFalsely : Prop := deviceErrorsRow.holds Try.pinned (OpenSpec.ofChange deviceErrorsWrong)

/-- 'learnerlaw19.DeviceNews': WHATEVER THE INPUT: true; the input reads as it did. -/
def deviceNewsSpec : ChangeSpec := { name := "deviceNews", fn := fun _ => fun
  | [d1, d2] => { results := [.lit (.bool true)], args := [d1, d2] }
  | _ => none }
def deviceNewsRow : OpenClaim := { program := "ytpoppadihbgbgaa", sum := "260689c5d863e506b262b14fc4ddd21e67a7d3c5450df67b0668020de00d9685", func := "learner/learnerlaw19.DeviceNews", spec := "deviceNews", unfollowed := true, recurses := true, apart := false }
def DeviceNewsSaid : Prop := deviceNewsRow.holds Try.pinned (OpenSpec.ofChange deviceNewsSpec)

/-- ITS FALSE NEIGHBOUR: 'it returns false'. Refute it at one input. -/
def deviceNewsWrong : ChangeSpec := { name := "deviceNews", fn := fun _ => fun
  | [d1, d2] => { results := [.lit (.bool false)], args := [d1, d2] }
  | _ => none }
def DeviceNewsWrongFalsely : Prop := deviceNewsRow.holds Try.pinned (OpenSpec.ofChange deviceNewsWrong)

/-- 'learnerlaw19.DeviceQueries': WHATEVER THE INPUT: true; the input reads as it did. -/
def deviceQueriesSpec : ChangeSpec := { name := "deviceQueries", fn := fun _ => fun
  | [d1, d2] => { results := [.lit (.bool true)], args := [d1, d2] }
  | _ => none }
def deviceQueriesRow : OpenClaim := { program := "ytpoppadihbgbgaa", sum := "260689c5d863e506b262b14fc4ddd21e67a7d3c5450df67b0668020de00d9685", func := "learner/learnerlaw19.DeviceQueries", spec := "deviceQueries", unfollowed := true, recurses := true, apart := false }
def DeviceQueriesSaid : Prop := deviceQueriesRow.holds Try.pinned (OpenSpec.ofChange deviceQueriesSpec)

/-- ITS FALSE NEIGHBOUR: 'it returns false'. Refute it at one input. -/
def deviceQueriesWrong : ChangeSpec := { name := "deviceQueries", fn := fun _ => fun
  | [d1, d2] => { results := [.lit (.bool false)], args := [d1, d2] }
  | _ => none }
def DeviceQueriesWrongFalsely : Prop := deviceQueriesRow.holds Try.pinned (OpenSpec.ofChange deviceQueriesWrong)

/-- 'learnerlaw19.DeviceFaithful': WHATEVER THE INPUT: true; the input reads as it did. -/
def deviceFaithfulSpec : ChangeSpec := { name := "deviceFaithful", fn := fun _ => fun
  | [d] => { results := [.lit (.bool true)], args := [d] }
  | _ => none }
def deviceFaithfulRow : OpenClaim := { program := "ytpoppadihbgbgaa", sum := "260689c5d863e506b262b14fc4ddd21e67a7d3c5450df67b0668020de00d9685", func := "learner/learnerlaw19.DeviceFaithful", spec := "deviceFaithful", unfollowed := true, recurses := true, apart := false }
def DeviceFaithfulSaid : Prop := deviceFaithfulRow.holds Try.pinned (OpenSpec.ofChange deviceFaithfulSpec)

/-- ITS FALSE NEIGHBOUR: 'it returns false'. Refute it at one input. -/
def deviceFaithfulWrong : ChangeSpec := { name := "deviceFaithful", fn := fun _ => fun
  | [d] => { results := [.lit (.bool false)], args := [d] }
  | _ => none }
def DeviceFaithfulWrongFalsely : Prop := deviceFaithfulRow.holds Try.pinned (OpenSpec.ofChange deviceFaithfulWrong)

/- THE SECOND FORM. 'bulk': how many values and letters a reading holds, each counted each time it is reached (what is shared counts as often as it is met; a slice's spare places count too). A statement '..UptoSaid' is the law's where the arguments, and the package variables that the reading takes, are together of bulk at most 1048576: NARROWER than '..Said'. Prove '..Said' where nothing that the law and all that it calls make is longer than what came in: it says more and counts as full. Else prove '..UptoSaid'. A law counts once. -/
mutual
def uptoBulk {H : Type} : DataW H → Nat
  | .lit (.string bytes) => bytes.length + 1
  | .lit _ => 1
  | .nil => 1
  | .ptr d => uptoBulk d + 1
  | .slice elems spare => uptoBulkAll elems + uptoBulkAll spare + 1
  | .agg parts => uptoBulkAll parts + 1
  | .iface _ d => uptoBulk d + 1
  | .map entries => uptoBulkEntries entries + 1
  | .held _ => 1
def uptoBulkAll {H : Type} : List (DataW H) → Nat
  | [] => 0
  | d :: r => uptoBulk d + uptoBulkAll r
def uptoBulkEntries {H : Type} : List (Lit × DataW H) → Nat
  | [] => 0
  | x :: r => uptoBulkEntry x + uptoBulkEntries r
def uptoBulkEntry {H : Type} : Lit × DataW H → Nat
  | (.string bytes, d) => bytes.length + uptoBulk d + 1
  | (_, d) => uptoBulk d + 1
 end
def uptoSmall : (H : Type) → List (DataW H) → Bool := fun _ ds => decide (uptoBulkAll ds ≤ 1048576)
def OpenSpec.upto (s : _root_.Go.ChangeSpec) : _root_.Go.OpenSpec := { _root_.Go.OpenSpec.ofChange s with cond := some uptoSmall }

/-- 'learnerlaw19.DeviceSteps', WHERE WHAT IT READS IS OF BULK AT MOST 1048576: true; the input reads as it did. -/
def deviceStepsUptoRow : OpenClaim := { program := "ytpoppadihbgbgaa", sum := "260689c5d863e506b262b14fc4ddd21e67a7d3c5450df67b0668020de00d9685", func := "learner/learnerlaw19.DeviceSteps", spec := "deviceSteps", unfollowed := true, recurses := true, apart := false, narrowed := true }
def DeviceStepsUptoSaid : Prop := deviceStepsUptoRow.holds Try.pinned (OpenSpec.upto deviceStepsSpec)

/-- 'learnerlaw19.DeviceErrors', WHERE WHAT IT READS IS OF BULK AT MOST 1048576: true; the input reads as it did. -/
def deviceErrorsUptoRow : OpenClaim := { program := "ytpoppadihbgbgaa", sum := "260689c5d863e506b262b14fc4ddd21e67a7d3c5450df67b0668020de00d9685", func := "learner/learnerlaw19.DeviceErrors", spec := "deviceErrors", unfollowed := true, recurses := true, apart := false, narrowed := true }
def DeviceErrorsUptoSaid : Prop := deviceErrorsUptoRow.holds Try.pinned (OpenSpec.upto deviceErrorsSpec)

/-- 'learnerlaw19.DeviceNews', WHERE WHAT IT READS IS OF BULK AT MOST 1048576: true; the input reads as it did. -/
def deviceNewsUptoRow : OpenClaim := { program := "ytpoppadihbgbgaa", sum := "260689c5d863e506b262b14fc4ddd21e67a7d3c5450df67b0668020de00d9685", func := "learner/learnerlaw19.DeviceNews", spec := "deviceNews", unfollowed := true, recurses := true, apart := false, narrowed := true }
def DeviceNewsUptoSaid : Prop := deviceNewsUptoRow.holds Try.pinned (OpenSpec.upto deviceNewsSpec)

/-- 'learnerlaw19.DeviceQueries', WHERE WHAT IT READS IS OF BULK AT MOST 1048576: true; the input reads as it did. -/
def deviceQueriesUptoRow : OpenClaim := { program := "ytpoppadihbgbgaa", sum := "260689c5d863e506b262b14fc4ddd21e67a7d3c5450df67b0668020de00d9685", func := "learner/learnerlaw19.DeviceQueries", spec := "deviceQueries", unfollowed := true, recurses := true, apart := false, narrowed := true }
def DeviceQueriesUptoSaid : Prop := deviceQueriesUptoRow.holds Try.pinned (OpenSpec.upto deviceQueriesSpec)

/-- 'learnerlaw19.DeviceFaithful', WHERE WHAT IT READS IS OF BULK AT MOST 1048576: true; the input reads as it did. -/
def deviceFaithfulUptoRow : OpenClaim := { program := "ytpoppadihbgbgaa", sum := "260689c5d863e506b262b14fc4ddd21e67a7d3c5450df67b0668020de00d9685", func := "learner/learnerlaw19.DeviceFaithful", spec := "deviceFaithful", unfollowed := true, recurses := true, apart := false, narrowed := true }
def DeviceFaithfulUptoSaid : Prop := deviceFaithfulUptoRow.holds Try.pinned (OpenSpec.upto deviceFaithfulSpec)

end Rows
end Go.Proofs.Ytpoppadihbgbgaa
