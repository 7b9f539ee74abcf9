/- The walks of the statements RandomNumbers, RandomWords, RandomShuffles, RandomChoices. -/
import Derived.Test.YthemmbdhhjelcaaWake04
import Derived.Test.YthemmbdhhjelcaaOpen
namespace Go.Proofs.Ythemmbdhhjelcaa
open Go.RowKit
theorem u64_nat {a : Int} (w : (Lit.int .u64 a).wf = true) : ∃ s : Nat, a = s ∧ s < 18446744073709551616 := by
  have := bounds_u64 w
  exact ⟨a.toNat, by omega, by omega⟩
set_option maxHeartbeats 400000 in
theorem randomNumbers_walk (w : World) (a0 a1 : Int) (w0 : (Lit.int .u64 a0).wf = true) (w1 : (Lit.int .i64 a1).wf = true) :
    Calls Try.prog 3 #[.int .u64 a0, .int .i64 a1] w fun e w' => e = .returned (.bool true) ∧ Below w.heap.size w w' := by
  obtain ⟨s, rfl, hs⟩ := u64_nat w0
  by_cases h : a1 < 1 ∨ 2147483648 < a1
  · go_enter Try.func3, Try.ntmps3
    go_wp2_with (first | (go_at_call 14; refine (next_p s _).mono ?_; rintro e w' ⟨rfl, rfl⟩) | (go_at_call 15; refine (next_r s _).mono ?_; rintro e w' ⟨rfl, rfl⟩) | (go_at_call 16; refine (below_p_no s a1 _ h).mono ?_; rintro e w' ⟨rfl, rfl⟩) | (go_at_call 17; refine (below_r_no s a1 _ h).mono ?_; rintro e w' ⟨rfl, rfl⟩) | (go_at_call 18; refine (awake4 _).mono ?_; rintro e w' ⟨rfl, hb⟩))
    go_ret
    exact ⟨rfl, hb⟩
  · obtain ⟨n, rfl⟩ : ∃ n : Nat, a1 = n := ⟨a1.toNat, by omega⟩
    have h1 : 1 ≤ n := by omega
    have h2 : n ≤ 2147483648 := by omega
    go_enter Try.func3, Try.ntmps3
    go_wp2_with (first | (go_at_call 14; refine (next_p s _).mono ?_; rintro e w' ⟨rfl, rfl⟩) | (go_at_call 15; refine (next_r s _).mono ?_; rintro e w' ⟨rfl, rfl⟩) | (go_at_call 16; refine (below_p s n _ hs h1 h2).mono ?_; rintro e w' ⟨rfl, rfl⟩) | (go_at_call 17; refine (below_r s n _ hs h1 h2).mono ?_; rintro e w' ⟨rfl, rfl⟩) | (go_at_call 18; refine (awake4 _).mono ?_; rintro e w' ⟨rfl, hb⟩))
    go_ret
    exact ⟨rfl, hb⟩
end Go.Proofs.Ythemmbdhhjelcaa
