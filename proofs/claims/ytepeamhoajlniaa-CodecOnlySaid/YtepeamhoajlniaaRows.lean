/-
  No cell of these rows narrows 'for every input' (looked for: loops, veiled, ifaces, maps, wideKeys, modest, calm, conditions, laid).
  DERIVED. THE GIVEN ROWS OF THIS SEAT. 6 by the template 'for every input the law returns true; each argument reads behind the call as it read before'; 0 by the template 'total and deterministic' (their statements: YtepeamhoajlniaaTotals.lean).
  GIVEN WITH THE SEED: the statements are not yours to turn. If you find one false, say at which input.
  Laid BY PROGRAM, IN A SANDBOX (cutbox-rows.mjs): the forced cells as the released guide's own fill.sh prints them over the translation ad7abaeb7bf03988… (all of the seat's roots in one cut). By AI agents, Wed Nov 11 2026. No macro, syntax, notation, axiom, sorry.
-/
import Derived.Test.YtepeamhoajlniaaChecked
import GoSem.Claim
import GoSem.ClaimJoined
import GoSem.ClaimMapViews
import Derived.JoinedTies
import Derived.KernelRfl
namespace Go.Proofs.Ytepeamhoajlniaa
/- THE CELL 'sum', in the pinned program and in every row, IS THE sha256 OF THE DUMP (.gsa) THAT YtepeamhoajlniaaProg.lean LOADS. Nothing in Lean hashes anything: it is a label: what it is worth is what the hold of that sum in a sandbox is worth. -/
noncomputable def Try.pinned : Pinned := { name := "ytepeamhoajlniaa", sum := "ad7abaeb7bf03988aebb5d820426475fbce1b265f773d0268c84471937b49dfe", checked := Try.checked }
namespace Rows
def none {H : Type} : Left H := { results := [], args := [] }

/-- 'learnerlaw05.CodecNumbers': WHATEVER THE INPUT: true; the input reads as it did. -/
def codecNumbersSpec : ChangeSpec := { name := "codecNumbers", fn := fun _ => fun
  | [d1, d2] => { results := [.lit (.bool true)], args := [d1, d2] }
  | _ => none }
def codecNumbersRow : OpenClaim := { program := "ytepeamhoajlniaa", sum := "ad7abaeb7bf03988aebb5d820426475fbce1b265f773d0268c84471937b49dfe", func := "learner/learnerlaw05.CodecNumbers", spec := "codecNumbers", unfollowed := true, recurses := true, apart := false }
def CodecNumbersSaid : Prop := codecNumbersRow.holds Try.pinned (OpenSpec.ofChange codecNumbersSpec)

/-- ITS FALSE NEIGHBOUR: 'it returns false'. Refute it at one input. -/
def codecNumbersWrong : ChangeSpec := { name := "codecNumbers", fn := fun _ => fun
  | [d1, d2] => { results := [.lit (.bool false)], args := [d1, d2] }
  | _ => none }
def CodecNumbersWrongFalsely : Prop := codecNumbersRow.holds Try.pinned (OpenSpec.ofChange codecNumbersWrong)

/-- 'learnerlaw05.CodecLists': WHATEVER THE INPUT: true; the input reads as it did. -/
def codecListsSpec : ChangeSpec := { name := "codecLists", fn := fun _ => fun
  | [d1, d2, d3] => { results := [.lit (.bool true)], args := [d1, d2, d3] }
  | _ => none }
def codecListsRow : OpenClaim := { program := "ytepeamhoajlniaa", sum := "ad7abaeb7bf03988aebb5d820426475fbce1b265f773d0268c84471937b49dfe", func := "learner/learnerlaw05.CodecLists", spec := "codecLists", unfollowed := true, recurses := true, apart := false }
def CodecListsSaid : Prop := codecListsRow.holds Try.pinned (OpenSpec.ofChange codecListsSpec)

/-- ITS FALSE NEIGHBOUR: 'it returns false'. Refute it at one input. -/
def codecListsWrong : ChangeSpec := { name := "codecLists", fn := fun _ => fun
  | [d1, d2, d3] => { results := [.lit (.bool false)], args := [d1, d2, d3] }
  | _ => none }
def CodecListsWrongFalsely : Prop := codecListsRow.holds Try.pinned (OpenSpec.ofChange codecListsWrong)

/-- 'learnerlaw05.CodecTrips': WHATEVER THE INPUT: true; the input reads as it did. -/
def codecTripsSpec : ChangeSpec := { name := "codecTrips", fn := fun _ => fun
  | [d] => { results := [.lit (.bool true)], args := [d] }
  | _ => none }
def codecTripsRow : OpenClaim := { program := "ytepeamhoajlniaa", sum := "ad7abaeb7bf03988aebb5d820426475fbce1b265f773d0268c84471937b49dfe", func := "learner/learnerlaw05.CodecTrips", spec := "codecTrips", unfollowed := true, recurses := true, apart := false }
def CodecTripsSaid : Prop := codecTripsRow.holds Try.pinned (OpenSpec.ofChange codecTripsSpec)

/-- ITS FALSE NEIGHBOUR: 'it returns false'. Refute it at one input. -/
def codecTripsWrong : ChangeSpec := { name := "codecTrips", fn := fun _ => fun
  | [d] => { results := [.lit (.bool false)], args := [d] }
  | _ => none }
def CodecTripsWrongFalsely : Prop := codecTripsRow.holds Try.pinned (OpenSpec.ofChange codecTripsWrong)

/-- 'learnerlaw05.CodecFrames': WHATEVER THE INPUT: true; the input reads as it did. -/
def codecFramesSpec : ChangeSpec := { name := "codecFrames", fn := fun _ => fun
  | [d1, d2, d3] => { results := [.lit (.bool true)], args := [d1, d2, d3] }
  | _ => none }
def codecFramesRow : OpenClaim := { program := "ytepeamhoajlniaa", sum := "ad7abaeb7bf03988aebb5d820426475fbce1b265f773d0268c84471937b49dfe", func := "learner/learnerlaw05.CodecFrames", spec := "codecFrames", unfollowed := true, recurses := true, apart := false }
def CodecFramesSaid : Prop := codecFramesRow.holds Try.pinned (OpenSpec.ofChange codecFramesSpec)

/-- ITS FALSE NEIGHBOUR: 'it returns false'. Refute it at one input. -/
def codecFramesWrong : ChangeSpec := { name := "codecFrames", fn := fun _ => fun
  | [d1, d2, d3] => { results := [.lit (.bool false)], args := [d1, d2, d3] }
  | _ => none }
def CodecFramesWrongFalsely : Prop := codecFramesRow.holds Try.pinned (OpenSpec.ofChange codecFramesWrong)

/-- 'learnerlaw05.CodecSeals': WHATEVER THE INPUT: true; the input reads as it did. -/
def codecSealsSpec : ChangeSpec := { name := "codecSeals", fn := fun _ => fun
  | [d] => { results := [.lit (.bool true)], args := [d] }
  | _ => none }
def codecSealsRow : OpenClaim := { program := "ytepeamhoajlniaa", sum := "ad7abaeb7bf03988aebb5d820426475fbce1b265f773d0268c84471937b49dfe", func := "learner/learnerlaw05.CodecSeals", spec := "codecSeals", unfollowed := true, recurses := true, apart := false }
def CodecSealsSaid : Prop := codecSealsRow.holds Try.pinned (OpenSpec.ofChange codecSealsSpec)

/-- ITS FALSE NEIGHBOUR: 'it returns false'. Refute it at one input. -/
def codecSealsWrong : ChangeSpec := { name := "codecSeals", fn := fun _ => fun
  | [d] => { results := [.lit (.bool false)], args := [d] }
  | _ => none }
def CodecSealsWrongFalsely : Prop := codecSealsRow.holds Try.pinned (OpenSpec.ofChange codecSealsWrong)

/-- 'learnerlaw05.CodecOnly': WHATEVER THE INPUT: true; the input reads as it did. -/
def codecOnlySpec : ChangeSpec := { name := "codecOnly", fn := fun _ => fun
  | [d] => { results := [.lit (.bool true)], args := [d] }
  | _ => none }
def codecOnlyRow : OpenClaim := { program := "ytepeamhoajlniaa", sum := "ad7abaeb7bf03988aebb5d820426475fbce1b265f773d0268c84471937b49dfe", func := "learner/learnerlaw05.CodecOnly", spec := "codecOnly", unfollowed := true, recurses := true, apart := false }
def CodecOnlySaid : Prop := codecOnlyRow.holds Try.pinned (OpenSpec.ofChange codecOnlySpec)

/-- ITS FALSE NEIGHBOUR: 'it returns false'. Refute it at one input. -/
def codecOnlyWrong : ChangeSpec := { name := "codecOnly", fn := fun _ => fun
  | [d] => { results := [.lit (.bool false)], args := [d] }
  | _ => none }
def CodecOnlyWrongFalsely : Prop := codecOnlyRow.holds Try.pinned (OpenSpec.ofChange codecOnlyWrong)

/- THE SECOND FORM. 'bulk': how many values and letters a reading holds, each counted each time it is reached (what is shared counts as often as it is met; a slice's spare places count too). A statement '..UptoSaid' is the law's where the arguments, and the package variables that the reading takes, are together of bulk at most 1048576: NARROWER than '..Said'. Prove '..Said' where nothing that the law and all that it calls make is longer than what came in: it says more and counts as full. Else prove '..UptoSaid'. A law counts once. -/
mutual
def uptoBulk {H : Type} : DataW H → Nat
  | .lit (.string bytes) => bytes.length + 1
  | .lit _ => 1
  | .nil => 1
  | .ptr d => uptoBulk d + 1
  | .slice elems spare => uptoBulkAll elems + uptoBulkAll spare + 1
  | .agg parts => uptoBulkAll parts + 1
  | .iface _ d => uptoBulk d + 1
  | .map entries => uptoBulkEntries entries + 1
  | .held _ => 1
def uptoBulkAll {H : Type} : List (DataW H) → Nat
  | [] => 0
  | d :: r => uptoBulk d + uptoBulkAll r
def uptoBulkEntries {H : Type} : List (Lit × DataW H) → Nat
  | [] => 0
  | x :: r => uptoBulkEntry x + uptoBulkEntries r
def uptoBulkEntry {H : Type} : Lit × DataW H → Nat
  | (.string bytes, d) => bytes.length + uptoBulk d + 1
  | (_, d) => uptoBulk d + 1
 end
def uptoSmall : (H : Type) → List (DataW H) → Bool := fun _ ds => decide (uptoBulkAll ds ≤ 1048576)
def OpenSpec.upto (s : _root_.Go.ChangeSpec) : _root_.Go.OpenSpec := { _root_.Go.OpenSpec.ofChange s with cond := some uptoSmall }

/-- 'learnerlaw05.CodecNumbers', WHERE WHAT IT READS IS OF BULK AT MOST 1048576: true; the input reads as it did. -/
def codecNumbersUptoRow : OpenClaim := { program := "ytepeamhoajlniaa", sum := "ad7abaeb7bf03988aebb5d820426475fbce1b265f773d0268c84471937b49dfe", func := "learner/learnerlaw05.CodecNumbers", spec := "codecNumbers", unfollowed := true, recurses := true, apart := false, narrowed := true }
def CodecNumbersUptoSaid : Prop := codecNumbersUptoRow.holds Try.pinned (OpenSpec.upto codecNumbersSpec)

/-- 'learnerlaw05.CodecLists', WHERE WHAT IT READS IS OF BULK AT MOST 1048576: true; the input reads as it did. -/
def codecListsUptoRow : OpenClaim := { program := "ytepeamhoajlniaa", sum := "ad7abaeb7bf03988aebb5d820426475fbce1b265f773d0268c84471937b49dfe", func := "learner/learnerlaw05.CodecLists", spec := "codecLists", unfollowed := true, recurses := true, apart := false, narrowed := true }
def CodecListsUptoSaid : Prop := codecListsUptoRow.holds Try.pinned (OpenSpec.upto codecListsSpec)

/-- 'learnerlaw05.CodecTrips', WHERE WHAT IT READS IS OF BULK AT MOST 1048576: true; the input reads as it did. -/
def codecTripsUptoRow : OpenClaim := { program := "ytepeamhoajlniaa", sum := "ad7abaeb7bf03988aebb5d820426475fbce1b265f773d0268c84471937b49dfe", func := "learner/learnerlaw05.CodecTrips", spec := "codecTrips", unfollowed := true, recurses := true, apart := false, narrowed := true }
def CodecTripsUptoSaid : Prop := codecTripsUptoRow.holds Try.pinned (OpenSpec.upto codecTripsSpec)

/-- 'learnerlaw05.CodecFrames', WHERE WHAT IT READS IS OF BULK AT MOST 1048576: true; the input reads as it did. -/
def codecFramesUptoRow : OpenClaim := { program := "ytepeamhoajlniaa", sum := "ad7abaeb7bf03988aebb5d820426475fbce1b265f773d0268c84471937b49dfe", func := "learner/learnerlaw05.CodecFrames", spec := "codecFrames", unfollowed := true, recurses := true, apart := false, narrowed := true }
def CodecFramesUptoSaid : Prop := codecFramesUptoRow.holds Try.pinned (OpenSpec.upto codecFramesSpec)

/-- 'learnerlaw05.CodecSeals', WHERE WHAT IT READS IS OF BULK AT MOST 1048576: true; the input reads as it did. -/
def codecSealsUptoRow : OpenClaim := { program := "ytepeamhoajlniaa", sum := "ad7abaeb7bf03988aebb5d820426475fbce1b265f773d0268c84471937b49dfe", func := "learner/learnerlaw05.CodecSeals", spec := "codecSeals", unfollowed := true, recurses := true, apart := false, narrowed := true }
def CodecSealsUptoSaid : Prop := codecSealsUptoRow.holds Try.pinned (OpenSpec.upto codecSealsSpec)

/-- 'learnerlaw05.CodecOnly', WHERE WHAT IT READS IS OF BULK AT MOST 1048576: true; the input reads as it did. -/
def codecOnlyUptoRow : OpenClaim := { program := "ytepeamhoajlniaa", sum := "ad7abaeb7bf03988aebb5d820426475fbce1b265f773d0268c84471937b49dfe", func := "learner/learnerlaw05.CodecOnly", spec := "codecOnly", unfollowed := true, recurses := true, apart := false, narrowed := true }
def CodecOnlyUptoSaid : Prop := codecOnlyUptoRow.holds Try.pinned (OpenSpec.upto codecOnlySpec)

end Rows
end Go.Proofs.Ytepeamhoajlniaa
