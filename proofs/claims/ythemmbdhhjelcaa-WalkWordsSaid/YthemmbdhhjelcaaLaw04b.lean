/- The walks of the statements RandomWords, RandomShuffles, RandomChoices. -/
import Derived.Test.YthemmbdhhjelcaaLaw04
namespace Go.Proofs.Ythemmbdhhjelcaa
open Go.RowKit

theorem sameB_refl (xs : List Int) : sameB xs xs = true := by simp [sameB]
/-- two own lists of the same content are the same -/
theorem same_own {w : World} {b1 b2 e1 e2 n : Nat} {A B : Option Addr} {c d : Nat} {xs : List Int} (h1 : w.ownsRow b1 e1 1 (.slice A n c) n (xs.map (.int .i64))) (h2 : w.ownsRow b2 e2 1 (.slice B n d) n (xs.map (.int .i64))) (hn : n ≤ 1152921504606846976) :
    Calls Try.prog 21 #[.slice A n c, .slice B n d] w fun e w' => e = .returned (.bool true) ∧ ∃ n, w' = w.drewN n := by
  obtain ⟨hl, r1⟩ := own_rd h1 hn
  obtain ⟨_, r2⟩ := own_rd h2 hn
  subst hl
  have := same_any A B c d xs xs w r1 r2
  rw [sameB_refl] at this
  exact this
theorem same_nil (w : World) : Calls Try.prog 21 #[.slice none 0 0, .slice none 0 0] w fun e w' => e = .returned (.bool true) ∧ ∃ n, w' = w.drewN n :=
  same_any none none 0 0 [] [] w RdK.nil RdK.nil

set_option maxHeartbeats 400000 in
theorem randomWords_walk (w : World) (a0 a1 a2 : Int) (w0 : (Lit.int .u64 a0).wf = true) (w1 : (Lit.int .i64 a1).wf = true) (w2 : (Lit.int .i64 a2).wf = true) :
    Calls Try.prog 7 #[.int .u64 a0, .int .i64 a1, .int .i64 a2] w fun e w' => e = .returned (.bool true) ∧ Below w.heap.size w w' := by
  obtain ⟨s, rfl, hs⟩ := u64_nat w0
  by_cases h : a1 < 1 ∨ 1024 < a1 ∨ a2 < 0 ∨ 1024 < a2
  · go_enter Try.func7, Try.ntmps7
    go_wp2_with (first | (go_at_call 24; refine (word_p_no s a1 a2 _ h).mono ?_; rintro e w' ⟨rfl, rfl⟩) | (go_at_call 25; refine (word_r_no s a1 a2 _ h).mono ?_; rintro e w' ⟨rfl, rfl⟩) | (go_at_call 21; refine (same_nil _).mono ?_; rintro e w' ⟨rfl, m, rfl⟩) | (go_at_call 18; refine (awake4 _).mono ?_; rintro e w' ⟨rfl, hb⟩))
    go_ret
    exact ⟨rfl, below_of_drewN hb⟩
  · obtain ⟨k, rfl⟩ : ∃ n : Nat, a1 = n := ⟨a1.toNat, by omega⟩
    obtain ⟨n, rfl⟩ : ∃ n : Nat, a2 = n := ⟨a2.toNat, by omega⟩
    have h1 : 1 ≤ k := by omega
    have h2 : k ≤ 1024 := by omega
    have h3 : n ≤ 1024 := by omega
    clear h
    go_enter Try.func7, Try.ntmps7
    go_wp2_with fail
    refine (word_p s k n _ hs h1 h2 h3).mono ?_
    rintro e w1 ⟨v1, rfl, ho1, hb1⟩
    obtain ⟨A, c, rfl⟩ := own_slice ho1
    go_wp2_with fail
    refine (word_r s k n _ hs h1 h2 h3).mono ?_
    rintro e w2 ⟨v2, rfl, ho2, hb2⟩
    obtain ⟨B, d, rfl⟩ := own_slice ho2
    go_wp2_with fail
    refine (same_own (own_keep ho1 hb2) ho2 (by omega)).mono ?_
    rintro e w' ⟨rfl, m, rfl⟩
    go_wp2_with fail
    refine (awake4 _).mono ?_
    rintro e w3 ⟨rfl, hb3⟩
    go_wp2_with fail
    go_ret
    exact ⟨rfl, below_seq (below_seq hb1 hb2) (below_of_drewN hb3)⟩

set_option maxHeartbeats 400000 in
theorem randomShuffles_walk (w : World) (a0 a1 : Int) (w0 : (Lit.int .u64 a0).wf = true) (w1 : (Lit.int .i64 a1).wf = true) :
    Calls Try.prog 4 #[.int .u64 a0, .int .i64 a1] w fun e w' => e = .returned (.bool true) ∧ Below w.heap.size w w' := by
  obtain ⟨s, rfl, hs⟩ := u64_nat w0
  by_cases h : a1 < 0 ∨ 10000 < a1
  · rcases h with h | h
    · have h' : ¬ 300 < a1 := by omega
      go_enter Try.func4, Try.ntmps4
      go_wp2_with (first | (go_at_call 19; refine (shuffle_p_no s a1 _ (.inl h)).mono ?_; rintro e w' ⟨rfl, rfl⟩) | (go_at_call 20; refine (shuffle_r_no s a1 _ (.inl h)).mono ?_; rintro e w' ⟨rfl, rfl⟩) | (go_at_call 21; refine (same_nil _).mono ?_; rintro e w' ⟨rfl, m, rfl⟩) | (go_at_call 18; refine (awake4 _).mono ?_; rintro e w' ⟨rfl, hb⟩))
      go_ret
      exact ⟨rfl, below_of_drewN hb⟩
    · have h1 : 300 < a1 := by omega
      have h2 : ¬ a1 ≤ 10000 := by omega
      go_enter Try.func4, Try.ntmps4
      go_wp2_with (first | (go_at_call 19; refine (shuffle_p_no s a1 _ (.inr h)).mono ?_; rintro e w' ⟨rfl, rfl⟩) | (go_at_call 20; refine (shuffle_r_no s a1 _ (.inr h)).mono ?_; rintro e w' ⟨rfl, rfl⟩) | (go_at_call 21; refine (same_nil _).mono ?_; rintro e w' ⟨rfl, m, rfl⟩) | (go_at_call 18; refine (awake4 _).mono ?_; rintro e w' ⟨rfl, hb⟩))
      go_ret
      exact ⟨rfl, below_of_drewN hb⟩
  · by_cases h3 : 300 < a1
    · have h2 : a1 ≤ 10000 := by omega
      go_enter Try.func4, Try.ntmps4
      go_wp2_with (go_at_call 18; refine (awake4 _).mono ?_; rintro e w' ⟨rfl, hb⟩)
      go_ret
      exact ⟨rfl, hb⟩
    · obtain ⟨n, rfl⟩ : ∃ n : Nat, a1 = n := ⟨a1.toNat, by omega⟩
      have h4 : n ≤ 10000 := by omega
      clear h
      go_enter Try.func4, Try.ntmps4
      go_wp2_with fail
      refine (shuffle_p s n _ hs h4).mono ?_
      rintro e w1 ⟨v1, rfl, ho1, hb1⟩
      obtain ⟨A, c, rfl⟩ := own_slice ho1
      go_wp2_with fail
      refine (shuffle_r s n _ hs h4).mono ?_
      rintro e w2 ⟨v2, rfl, ho2, hb2⟩
      obtain ⟨B, d, rfl⟩ := own_slice ho2
      go_wp2_with fail
      refine (same_own (own_keep ho1 hb2) ho2 (by omega)).mono ?_
      rintro e w' ⟨rfl, m, rfl⟩
      go_wp2_with fail
      refine (awake4 _).mono ?_
      rintro e w3 ⟨rfl, hb3⟩
      go_wp2_with fail
      go_ret
      exact ⟨rfl, below_seq (below_seq hb1 hb2) (below_of_drewN hb3)⟩

set_option maxHeartbeats 400000 in
theorem randomChoices_walk (w : World) (a0 : Int) (A : Option Addr) (c : Nat) (xs : List Int) (w0 : (Lit.int .u64 a0).wf = true) (hr : Rd w A xs) (_hw : Wf .i64 xs) :
    Calls Try.prog 5 #[.int .u64 a0, .slice A xs.length c] w fun e w' => e = .returned (.bool true) ∧ Below w.heap.size w w' := by
  obtain ⟨s, rfl, hs⟩ := u64_nat w0
  have hm := hr.1
  by_cases h : 100 < xs.length
  · have h1 : (100 : Int) < xs.length := by omega
    go_enter Try.func5, Try.ntmps5
    go_wp2_with (go_at_call 18; refine (awake4 _).mono ?_; rintro e w' ⟨rfl, hb⟩)
    go_ret
    exact ⟨rfl, hb⟩
  · have h1 : ¬ (100 : Int) < xs.length := by omega
    go_enter Try.func5, Try.ntmps5
    go_wp2_with (first | (go_at_call 22; refine (choose_p s A c xs _ hr hs).mono ?_; rintro e w' ⟨rfl, rfl⟩) | (go_at_call 23; refine (choose_r s A c xs _ hr hs).mono ?_; rintro e w' ⟨rfl, rfl⟩) | (go_at_call 18; refine (awake4 _).mono ?_; rintro e w' ⟨rfl, hb⟩))
    go_ret
    exact ⟨rfl, hb⟩
end Go.Proofs.Ythemmbdhhjelcaa
