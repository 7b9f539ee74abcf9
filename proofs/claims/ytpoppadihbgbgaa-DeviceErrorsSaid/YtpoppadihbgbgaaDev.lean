/- Devices: the small functions of chapter 19. -/
import Derived.Test.YtpoppadihbgbgaaRVal
import Derived.Test.YtpoppadihbgbgaaCheck
import Derived.Test.YtpoppadihbgbgaaNum
import Derived.Test.YtpoppadihbgbgaaMat
namespace Go.Proofs.Ytpoppadihbgbgaa
open Go.RowKit

/-- outside 0 .. m -/
def outB (n m : Int) : Bool := decide (n < 0 ∨ m < n)
theorem outB_yes {n m : Int} (h : n < 0 ∨ m < n) : outB n m = true := by unfold outB; simpa using h
theorem outB_no {n m : Int} (h1 : 0 ≤ n) (h2 : n ≤ m) : outB n m = false := by unfold outB; simp; omega
theorem outside_any (n m : Int) (w : World) : Calls Try.prog 41 #[.int .i64 n, .int .i64 m] w fun e w' => e = .returned (.bool (outB n m)) ∧ w = w' := by
  by_cases h1 : n < 0
  · have HD := Lib.hid (outB_yes (m := m) (.inl h1))
    go_enter Try.func41, Try.ntmps41
    go_wp2
    go_ret
    exact ⟨by rw [HD.out]; rfl, rfl⟩
  · by_cases h2 : m < n
    · have HD := Lib.hid (outB_yes (n := n) (.inr h2))
      go_enter Try.func41, Try.ntmps41
      go_wp2
      go_ret
      exact ⟨by rw [HD.out]; rfl, rfl⟩
    · have HD := Lib.hid (outB_no (n := n) (m := m) (by omega) (by omega))
      go_enter Try.func41, Try.ntmps41
      go_wp2
      go_ret
      exact ⟨by rw [HD.out]; rfl, rfl⟩
theorem counter_any (n : Int) (w : World) : Calls Try.prog 32 #[.int .i64 n] w fun e w' => e = .returned (.bool (!outB n 1125899906842624)) ∧ w = w' := by
  by_cases h1 : n < 0
  · have HD := Lib.hid (outB_yes (m := 1125899906842624) (.inl h1))
    go_enter Try.func32, Try.ntmps32
    go_wp2
    go_ret
    exact ⟨by rw [HD.out]; rfl, rfl⟩
  · by_cases h2 : 1125899906842624 < n
    · have hd : decide (n ≤ 1125899906842624) = false := by simpa using h2
      have HD := Lib.hid (outB_yes (n := n) (.inr h2))
      go_enter Try.func32, Try.ntmps32
      go_wp2
      go_ret
      exact ⟨by rw [HD.out]; rfl, rfl⟩
    · have HD := Lib.hid (outB_no (n := n) (m := 1125899906842624) (by omega) (by omega))
      go_enter Try.func32, Try.ntmps32
      go_wp2
      go_ret
      exact ⟨by rw [HD.out]; rfl, rfl⟩
theorem rate_any (n : Int) (w : World) : Calls Try.prog 45 #[.int .i64 n] w fun e w' => e = .returned (.bool (!outB n 10000)) ∧ w = w' := by
  by_cases h1 : n < 0
  · have HD := Lib.hid (outB_yes (m := 10000) (.inl h1))
    go_enter Try.func45, Try.ntmps45
    go_wp2
    go_ret
    exact ⟨by rw [HD.out]; rfl, rfl⟩
  · by_cases h2 : 10000 < n
    · have hd : decide (n ≤ 10000) = false := by simpa using h2
      have HD := Lib.hid (outB_yes (n := n) (.inr h2))
      go_enter Try.func45, Try.ntmps45
      go_wp2
      go_ret
      exact ⟨by rw [HD.out]; rfl, rfl⟩
    · have HD := Lib.hid (outB_no (n := n) (m := 10000) (by omega) (by omega))
      go_enter Try.func45, Try.ntmps45
      go_wp2
      go_ret
      exact ⟨by rw [HD.out]; rfl, rfl⟩
/-- the closure that asks whether a cost is wrong -/
theorem wrong_any (n : Int) (w : World) : Calls Try.prog 55 #[.int .i64 n] w fun e w' => e = .returned (.bool (outB n 1048576)) ∧ w = w' := by
  go_enter Try.func55, Try.ntmps55
  go_wp2_with (go_at_call 41; refine (outside_any _ _ _).mono ?_; rintro e w' ⟨rfl, rfl⟩)
  go_ret
  exact ⟨rfl, rfl⟩
/-- a wrong cost -/
def wrg (n : Int) : Bool := outB n 1048576
theorem wrg_any (n : Int) (w : World) : Calls Try.prog 55 #[.int .i64 n] w fun e w' => e = .returned (.bool (wrg n)) ∧ w = w' := wrong_any n w
set_option maxHeartbeats 400000 in
theorem cidx_none (A : Option Addr) (c : Nat) (xs : List Int) (w : World) (h : Rd w A xs) (hg : ∀ j, j < xs.length → wrg (xs.getD j 0) = false) :
    Calls Try.prog 60 #[.slice A xs.length c, .func (Fn.func 55) #[] #[]] w fun e w' => e = .returned (.int .i64 (-1)) ∧ w = w' := by
  have hm := h.1
  have HG := Lib.hid hg
  clear hg
  go_enter Try.func60, Try.ntmps60
  go_wp2
  go_loop [8] (fun i => ∃ j : Nat, j ≤ xs.length ∧ i = .int .i64 j) (fun i => xs.length - (intOf i).toNat)
  case atStart => exact ⟨0, Nat.zero_le _, rfl⟩
  case round =>
    obtain ⟨j, hj, rfl⟩ := hrel
    by_cases hjl : j < xs.length
    · obtain ⟨ad, x, rfl, hx, cx⟩ := h.at_ hjl
      have hb := HG.out j hjl
      rw [hx] at hb
      have HB := Lib.hid hb
      clear hx hb h
      go_wp2_with (go_at_call 55; refine (wrg_any x _).mono ?_; rintro e w' ⟨rfl, rfl⟩; rw [HB.out])
      go_round
      case rel => exact ⟨j + 1, by omega, by go_num⟩
      case measure => simp [intOf] <;> omega
    · go_wp2
      go_ret
      exact ⟨rfl, rfl⟩
set_option maxHeartbeats 400000 in
theorem cidx_some (q : Nat) (A : Option Addr) (c : Nat) (xs : List Int) (w : World) (h : Rd w A xs) (hq : q < xs.length) (hbad : wrg (xs.getD q 0) = true) (hg : ∀ j, j < q → wrg (xs.getD j 0) = false) :
    Calls Try.prog 60 #[.slice A xs.length c, .func (Fn.func 55) #[] #[]] w fun e w' => e = .returned (.int .i64 q) ∧ w = w' := by
  have hm := h.1
  have HG := Lib.hid hg
  have HQ := Lib.hid hbad
  clear hg hbad
  go_enter Try.func60, Try.ntmps60
  go_wp2
  go_loop [8] (fun i => ∃ j : Nat, j ≤ q ∧ i = .int .i64 j) (fun i => xs.length - (intOf i).toNat)
  case atStart => exact ⟨0, Nat.zero_le _, rfl⟩
  case round =>
    obtain ⟨j, hj, rfl⟩ := hrel
    have hjl : j < xs.length := by omega
    obtain ⟨ad, x, rfl, hx, cx⟩ := h.at_ hjl
    by_cases hjq : j < q
    · have hb := HG.out j hjq
      rw [hx] at hb
      have HB := Lib.hid hb
      clear hx hb h
      go_wp2_with (go_at_call 55; refine (wrg_any x _).mono ?_; rintro e w' ⟨rfl, rfl⟩; rw [HB.out])
      go_round
      case rel => exact ⟨j + 1, by omega, by go_num⟩
      case measure => simp [intOf] <;> omega
    · have hjq' : q = j := by omega
      subst hjq'
      have hb := HQ.out
      rw [hx] at hb
      have HB := Lib.hid hb
      clear hx hb h
      go_wp2_with (go_at_call 55; refine (wrg_any x _).mono ?_; rintro e w' ⟨rfl, rfl⟩; rw [HB.out])
      go_ret
      exact ⟨rfl, rfl⟩
theorem ccont_any (A : Option Addr) (c : Nat) (xs : List Int) (w : World) (h : Rd w A xs) :
    Calls Try.prog 53 #[.slice A xs.length c, .func (Fn.func 55) #[] #[]] w fun e w' => e = .returned (.bool (xs.any wrg)) ∧ w = w' := by
  rcases any_or wrg xs with ⟨h1, h2⟩ | ⟨h1, q, h2, h3, h4⟩
  · rw [h1]
    go_enter Try.func53, Try.ntmps53
    go_wp2_with (go_at_call 60; refine (cidx_none A c xs _ h h2).mono ?_; rintro e w' ⟨rfl, rfl⟩)
    go_ret
    exact ⟨rfl, rfl⟩
  · rw [h1]
    have hq0 : (0 : Int) ≤ q := by omega
    have H2 := Lib.hid h2
    have H3 := Lib.hid h3
    have H4 := Lib.hid h4
    clear h2 h3 h4 h1
    go_enter Try.func53, Try.ntmps53
    go_wp2_with (go_at_call 60; refine (cidx_some q A c xs _ h H2.out H3.out H4.out).mono ?_; rintro e w' ⟨rfl, rfl⟩)
    go_ret
    exact ⟨rfl, rfl⟩
/-- costs: some cost is wrong -/
def badC (lat : List Int) (rs : Int) : Bool := wrg rs || lat.any wrg
def costE (lat : List Int) (rs : Int) : Int := if badC lat rs = true then 2 else 0
set_option maxHeartbeats 400000 in
theorem costs_p (A : Option Addr) (c : Nat) (lat : List Int) (rs : Int) (w : World) (h : Rd w A lat) :
    Calls Try.prog 38 #[.agg #[.slice A lat.length c, .int .i64 rs]] w fun e w' => e = .returned (.int .i64 (costE lat rs)) ∧ Below w.heap.size w w' := by
  have hbx : Below w.heap.size w (w.alloc (.cells #[.slice A lat.length c, .int .i64 rs] 27)) := (Below.refl _ _).alloc (Nat.le_refl _) _
  have HC := Lib.hid (ccont_any A c lat _ (h.keep hbx))
  have hm := h.1
  clear h
  by_cases h1 : wrg rs = true
  · have HD : Hid (costE lat rs = 2) := Lib.hid (by unfold costE badC; rw [h1]; rfl)
    have H1 := Lib.hid h1
    clear h1
    go_enter Try.func38, Try.ntmps38
    go_wp2_with fail
    refine (wrg_any rs _).mono ?_
    rintro e w' ⟨rfl, rfl⟩
    rw [H1.out]
    go_wp2_with fail
    go_ret
    exact ⟨by rw [HD.out]; rfl, hbx⟩
  · have h1 : wrg rs = false := by simpa using h1
    have H1 := Lib.hid h1
    by_cases h2 : lat.any wrg = true
    · have H2 := Lib.hid h2
      have HD : Hid (costE lat rs = 2) := Lib.hid (by unfold costE badC; rw [h1, h2]; rfl)
      clear h2 h1
      go_enter Try.func38, Try.ntmps38
      go_wp2_with fail
      refine (wrg_any rs _).mono ?_
      rintro e w' ⟨rfl, rfl⟩
      rw [H1.out]
      go_wp2_with fail
      refine HC.out.mono ?_
      rintro e w' ⟨rfl, rfl⟩
      rw [H2.out]
      go_wp2_with fail
      go_ret
      exact ⟨by rw [HD.out]; rfl, hbx⟩
    · have h2 : lat.any wrg = false := by simpa using h2
      have H2 := Lib.hid h2
      have HD : Hid (costE lat rs = 0) := Lib.hid (by unfold costE badC; rw [h1, h2]; rfl)
      clear h2 h1
      go_enter Try.func38, Try.ntmps38
      go_wp2_with fail
      refine (wrg_any rs _).mono ?_
      rintro e w' ⟨rfl, rfl⟩
      rw [H1.out]
      go_wp2_with fail
      refine HC.out.mono ?_
      rintro e w' ⟨rfl, rfl⟩
      rw [H2.out]
      go_wp2_with fail
      go_ret
      exact ⟨by rw [HD.out]; rfl, hbx⟩
end Go.Proofs.Ytpoppadihbgbgaa
