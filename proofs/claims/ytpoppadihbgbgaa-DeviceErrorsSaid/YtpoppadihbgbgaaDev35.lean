/- DeviceErrors: the walk of the law as the frame asks it. -/
import Derived.Test.YtpoppadihbgbgaaDev33
namespace Go.Proofs.Ytpoppadihbgbgaa
open Go.RowKit
theorem deviceErrors_walk (w : World) (a0 a1 : Int) (A2 : Option Addr) (c2 : Nat) (x2 : List (List Int)) (A3 : Option Addr) (c3 : Nat) (x3 : List (List Int)) (A4 : Option Addr) (c4 : Nat) (x4 : List Int) (a5 a6 a7 a8 a9 : Int) (A10 : Option Addr) (c10 : Nat) (x10 : List Int)
    (_ : (Lit.int .i64 a0).wf = true) (_ : (Lit.int .i64 a1).wf = true) (r2 : RdM .i64 w A2 x2) (_ : WfM .i64 x2) (r3 : RdM .i64 w A3 x3) (_ : WfM .i64 x3) (r4 : RdK .i64 w A4 x4) (_ : Wf .i64 x4) (_ : (Lit.int .i64 a5).wf = true) (_ : (Lit.int .i64 a6).wf = true) (_ : (Lit.int .i64 a7).wf = true) (_ : (Lit.int .i64 a8).wf = true) (hs : (Lit.int .u64 a9).wf = true) (r10 : RdK .i64 w A10 x10) (_ : Wf .i64 x10) :
    Calls Try.prog 4 #[.agg #[.int .i64 a0, .int .i64 a1, .slice A2 x2.length c2, .slice A3 x3.length c3, .slice A4 x4.length c4, .int .i64 a5, .int .i64 a6, .int .i64 a7, .int .i64 a8, .int .u64 a9, .slice A10 x10.length c10]] w fun r w' => r = .returned (.bool true) ∧ Below w.heap.size w w' :=
  errors_w ⟨a0, a1, x2, x3, 0, false, x4, a5, a6, a7, a8, a9, 0, 0, 0⟩ x10 A2 A3 A4 A10 c2 c3 c4 c10 w ⟨r2, r3, r4⟩ r10 (u64_bd hs).1 (u64_bd hs).2
end Go.Proofs.Ytpoppadihbgbgaa
