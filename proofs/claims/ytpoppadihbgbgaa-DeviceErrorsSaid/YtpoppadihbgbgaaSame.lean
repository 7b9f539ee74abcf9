/- Slices of ints that are read: Common and Same of the reference. -/
import Derived.Test.YtpoppadihbgbgaaProg
import Derived.Test.YtpoppadihbgbgaaLib
namespace Go.Proofs.Ytpoppadihbgbgaa
open Go.RowKit

def com : List Int → List Int → Nat
  | x :: xs, y :: ys => if x = y then com xs ys + 1 else 0
  | _, _ => 0
theorem com_le (xs ys : List Int) : com xs ys ≤ xs.length ∧ com xs ys ≤ ys.length := by
  induction xs generalizing ys with
  | nil => simp [com]
  | cons x xs ih =>
    cases ys with
    | nil => simp [com]
    | cons y ys => have := ih ys; simp only [com]; split <;> simp <;> omega
theorem com_eq (xs ys : List Int) (h : xs.length = ys.length) : com xs ys = xs.length ↔ xs = ys := by
  induction xs generalizing ys with
  | nil => cases ys <;> simp_all [com]
  | cons x xs ih =>
    cases ys with
    | nil => simp at h
    | cons y ys =>
      have := ih ys (by simpa using h)
      simp only [com]
      split
      · simp_all
      · simp_all
/-- the first difference -/
theorem com_step (xs ys : List Int) (k : Nat) (hk : k ≤ com xs ys) : (k < com xs ys ↔ k < xs.length ∧ k < ys.length ∧ xs.getD k 0 = ys.getD k 0) := by
  induction xs generalizing ys k with
  | nil => simp [com]
  | cons x xs ih =>
    cases ys with
    | nil => simp [com]
    | cons y ys =>
      simp only [com] at hk ⊢
      split at hk
      · rename_i hxy
        rw [if_pos hxy]
        cases k with
        | zero => simp [hxy]
        | succ k => have := ih ys k (by omega); simp at this ⊢; omega
      · rename_i hxy
        rw [if_neg hxy]
        have : k = 0 := by omega
        subst this
        simp [hxy]

set_option maxHeartbeats 400000 in
theorem common_any (A B : Option Addr) (c d : Nat) (xs ys : List Int) (w : World) (ha : Rd w A xs) (hb : Rd w B ys) :
    Calls Try.prog 37 #[.slice A xs.length c, .slice B ys.length d] w fun e w' => e = .returned (.int .i64 (com xs ys)) ∧ ∃ n, w' = w.drewN n := by
  have hl := com_le xs ys
  have ma := ha.1
  have mb := hb.1
  go_enter Try.func37, Try.ntmps37
  go_wp2
  go_loopw [5] (fun i wr => ∃ k n : Nat, k ≤ com xs ys ∧ i = .int .i64 k ∧ wr = w.drewN n) (fun i _ => xs.length - (intOf i).toNat)
  case atStart => exact ⟨0, 0, Nat.zero_le _, rfl, rfl⟩
  case round =>
    obtain ⟨k, n, hk, rfl, rfl⟩ := hrel
    have hs := com_step xs ys k hk
    by_cases h1 : k < xs.length
    · by_cases h2 : k < ys.length
      · obtain ⟨a, x, rfl, hx, ca⟩ := ha.at_ h1
        obtain ⟨b, y, rfl, hy, cb⟩ := hb.at_ h2
        rw [hx, hy] at hs
        have HX := Lib.hid hx
        have HY := Lib.hid hy
        clear hx hy
        by_cases h3 : x = y
        · have hlt := hs.2 ⟨h1, h2, h3⟩
          subst h3
          clear hs ha hb
          go_wp2_with fail
          go_quiet (fail)
          go_wp2
          go_roundw
          case rel => exact ⟨k + 1, _, by omega, by go_num, rfl⟩
          case measure => simp [intOf]; omega
        · have hb3 : (x == y) = false := by simpa using h3
          have he : ¬ k < com xs ys := fun hh => h3 (hs.1 hh).2.2
          clear hs ha hb h3
          go_wp2_with fail
          go_quiet (fail)
          go_wp2
          go_ret
          exact ⟨ret_i (by omega), dd _ _ _⟩
      · have he : ¬ k < com xs ys := fun hh => h2 (hs.1 hh).2.1
        have d1 : decide (k < ys.length) = false := by simpa using h2
        clear hs
        go_wp2_with fail
        go_quiet (fail)
        go_wp2
        go_ret
        exact ⟨ret_i (by omega), dd _ _ _⟩
    · have he : ¬ k < com xs ys := fun hh => h1 (hs.1 hh).1
      have d1 : decide (k < xs.length) = false := by simpa using h1
      clear hs
      go_wp2_with fail
      go_quiet (fail)
      go_wp2
      go_ret
      exact ⟨ret_i (by omega), dd _ _ _⟩

def sameB (xs ys : List Int) : Bool := decide (xs = ys)
set_option maxHeartbeats 400000 in
theorem same_any (A B : Option Addr) (c d : Nat) (xs ys : List Int) (w : World) (ha : Rd w A xs) (hb : Rd w B ys) :
    Calls Try.prog 18 #[.slice A xs.length c, .slice B ys.length d] w fun e w' => e = .returned (.bool (sameB xs ys)) ∧ ∃ n, w' = w.drewN n := by
  have ma := ha.1
  have mb := hb.1
  by_cases hlen : xs.length = ys.length
  · have hb1 : ((xs.length : Int) == (ys.length : Int)) = true := by simp [hlen]
    have hb2 : ((com xs ys : Int) == (xs.length : Int)) = sameB xs ys := by
      have := com_eq xs ys hlen
      unfold sameB
      rw [Bool.eq_iff_iff, beq_iff_eq, decide_eq_true_iff, ← this]; omega
    clear hlen
    go_enter Try.func18, Try.ntmps18
    go_wp2_with (go_at_call 37; refine (common_any A B c d xs ys _ ha hb).mono ?_; rintro e w' ⟨rfl, n, rfl⟩)
    go_ret
    exact ⟨rfl, _, rfl⟩
  · have hb1 : ((xs.length : Int) == (ys.length : Int)) = false := by simp; omega
    have hb2 : sameB xs ys = false := by unfold sameB; simp; rintro rfl; exact hlen rfl
    clear hlen
    go_enter Try.func18, Try.ntmps18
    go_wp2
    go_ret
    exact ⟨by rw [hb2]; rfl, 0, rfl⟩
end Go.Proofs.Ytpoppadihbgbgaa
