/- The walks of last, of number, and of TakeInt of the reference. -/
import Derived.Test.YtepeamhoajlniaaPut2
namespace Go.Proofs.Ytepeamhoajlniaa
open Go.RowKit

namespace Cod
theorem tk_syn {b : List Nat} (h : lead 10 b = 10) : tk b = ⟨0, 0, 5⟩ := by unfold tk; simp only [h, if_true]
theorem tk_trunc {b : List Nat} (h1 : lead 10 b ≠ 10) (h2 : lead 10 b = b.length) : tk b = ⟨0, 0, 4⟩ := by
  unfold tk
  rw [h2] at h1
  simp only [h2, if_true, if_neg h1]
theorem tk_form {b : List Nat} (h1 : lead 10 b ≠ 10) (h2 : lead 10 b ≠ b.length) (h3 : (lead 10 b = 9 ∧ 1 < b.getD (lead 10 b) 0) ∨ (0 < lead 10 b ∧ b.getD (lead 10 b) 0 = 0)) : tk b = ⟨0, 0, 5⟩ := by
  unfold tk
  simp only [if_neg h1, if_neg h2, if_pos h3]
theorem tk_ok {b : List Nat} (h1 : lead 10 b ≠ 10) (h2 : lead 10 b ≠ b.length) (h3 : ¬((lead 10 b = 9 ∧ 1 < b.getD (lead 10 b) 0) ∨ (0 < lead 10 b ∧ b.getD (lead 10 b) 0 = 0))) : tk b = ⟨unzig (dec (lead 10 b + 1) b), lead 10 b + 1, 0⟩ := by
  unfold tk
  simp only [if_neg h1, if_neg h2, if_neg h3]
theorem dec_split (j n : Nat) (b : List Nat) : dec (j + n) b = dec j b + 128 ^ j * dec n (b.drop j) := by
  induction j generalizing b with
  | zero => simp [dec]
  | succ j ih =>
    cases b with
    | nil => rw [show j + 1 + n = (j + n) + 1 by omega]; cases n <;> simp [dec]
    | cons x xs =>
      rw [show j + 1 + n = (j + n) + 1 by omega]
      simp only [dec, List.drop_succ_cons]
      rw [ih, Nat.pow_succ, Nat.mul_add, Nat.mul_comm (128 ^ j) 128, ← Nat.mul_assoc]
      omega
theorem dec_step (n : Nat) (b : List Nat) (j : Nat) (h : j < b.length) : dec (n + 1) (b.drop j) = b.getD j 0 % 128 + 128 * dec n (b.drop (j + 1)) := by
  rw [List.drop_eq_getElem_cons h]
  simp only [dec]
  rw [List.getD_eq_getElem?_getD, List.getElem?_eq_getElem h]; rfl
theorem dec_lt64 (k : Nat) (b : List Nat) (hk : k ≤ 9) (hl : k < b.length) (h : k = 9 → b.getD k 0 ≤ 1) : dec (k + 1) b < 18446744073709551616 := by
  rcases Nat.lt_or_ge k 9 with h1 | h1
  · have h2 := dec_lt (k + 1) b
    have h3 : 128 ^ (k + 1) ≤ 128 ^ 9 := Nat.pow_le_pow_right (by omega) (by omega)
    omega
  · obtain rfl : k = 9 := by omega
    have h2 := dec_split 9 1 b
    have h3 := dec_lt 9 b
    have h4 := dec_step 0 b 9 hl
    have h5 := h rfl
    rw [h4] at h2
    simp only [dec] at h2
    omega
theorem dec_part (k j : Nat) (b : List Nat) (hj : j ≤ k + 1) (h : dec (k + 1) b < 18446744073709551616) : 128 ^ j * dec (k + 1 - j) (b.drop j) < 18446744073709551616 := by
  have := dec_split j (k + 1 - j) b
  rw [show j + (k + 1 - j) = k + 1 by omega] at this
  omega
theorem dec_part7 (k j : Nat) (b : List Nat) (hj : j < k + 1) (h : dec (k + 1) b < 18446744073709551616) : 128 * dec (k + 1 - (j + 1)) (b.drop (j + 1)) < 18446744073709551616 := by
  have h1 := dec_part k (j + 1) b (by omega) h
  have h2 : 128 ^ 1 ≤ 128 ^ (j + 1) := Nat.pow_le_pow_right (by omega) (by omega)
  have h3 := Nat.mul_le_mul_right (dec (k + 1 - (j + 1)) (b.drop (j + 1))) h2
  omega
end Cod

abbrev Pan (n : Int) : Ending := .panicked [{ v := .iface 24 (.int .i64 n), recovered := false }]
section
variable (A : Option Addr) (c : Nat) (bs : List Nat) (w : World)
set_option maxRecDepth 100000 in
theorem last_ok (h : RdB w A c bs) (h1 : Cod.lead 10 bs < 10) (h2 : Cod.lead 10 bs < bs.length) :
    Calls Try.prog 44 #[.slice A bs.length c] w fun e w' => e = .returned (.int .i64 (Cod.lead 10 bs : Nat)) ∧ w = w' := by
  have hm := h.len
  have HI := Lib.hid (fun i (hi : i < Cod.lead 10 bs) => Cod.lead_hi 10 bs hi)
  have HL := Lib.hid (Cod.lead_lo 10 bs h1 h2)
  obtain ⟨k0, hk0⟩ : ∃ k0, k0 = Cod.lead 10 bs := ⟨_, rfl⟩
  rw [← hk0] at h1 h2 HI HL ⊢
  clear hk0
  go_enter Try.func44, Try.ntmps44
  go_wp2
  go_loop [3] (fun i => ∃ k : Nat, k ≤ k0 ∧ i = .int .i64 k) (fun i => k0 - (intOf i).toNat)
  case atStart => exact ⟨0, Nat.zero_le _, rfl⟩
  case round =>
    obtain ⟨k, hk, rfl⟩ := hrel
    obtain ⟨ad, x, rfl, hx, cx⟩ := h.at_ (i := k) (by omega)
    by_cases hlt : k < k0
    · have hg := HI.out k hlt
      rw [hx] at hg
      have hg' : ¬ (x : Int) < 128 := by omega
      clear hx hg h
      go_wp2
      go_round
      case rel => exact ⟨k + 1, by omega, by go_num⟩
      case measure => simp [intOf]; omega
    · obtain rfl : k = k0 := by omega
      have hg := HL.out
      rw [hx] at hg
      have hg' : (x : Int) < 128 := by omega
      clear hx hg h
      go_wp2
      go_ret
      exact ⟨rfl, rfl⟩
set_option maxRecDepth 100000 in
theorem last_syn (h : RdB w A c bs) (h1 : Cod.lead 10 bs = 10) :
    Calls Try.prog 44 #[.slice A bs.length c] w fun e w' => e = Pan 5 ∧ w = w' := by
  have hm := h.len
  have HI := Lib.hid (fun i (hi : i < Cod.lead 10 bs) => Cod.lead_hi 10 bs hi)
  have hl := Cod.lead_len 10 bs
  rw [h1] at HI hl
  clear h1
  go_enter Try.func44, Try.ntmps44
  go_wp2
  go_loop [3] (fun i => ∃ k : Nat, k ≤ 10 ∧ i = .int .i64 k) (fun i => 10 - (intOf i).toNat)
  case atStart => exact ⟨0, Nat.zero_le _, rfl⟩
  case round =>
    obtain ⟨k, hk, rfl⟩ := hrel
    by_cases hlt : k < 10
    · obtain ⟨ad, x, rfl, hx, cx⟩ := h.at_ (i := k) (by omega)
      have hg := HI.out k hlt
      rw [hx] at hg
      have hg' : ¬ (x : Int) < 128 := by omega
      clear hx hg h
      go_wp2
      go_round
      case rel => exact ⟨k + 1, by omega, by go_num⟩
      case measure => simp [intOf]; omega
    · obtain rfl : k = 10 := by omega
      by_cases h10 : 10 < bs.length
      · go_wp2
        exact ⟨rfl, rfl, rfl⟩
      · go_wp2
        exact ⟨rfl, rfl, rfl⟩
set_option maxRecDepth 100000 in
theorem last_trunc (h : RdB w A c bs) (h0 : Cod.lead 10 bs ≠ 10) (h1 : Cod.lead 10 bs = bs.length) :
    Calls Try.prog 44 #[.slice A bs.length c] w fun e w' => e = Pan 4 ∧ w = w' := by
  have hm := h.len
  have HI := Lib.hid (fun i (hi : i < Cod.lead 10 bs) => Cod.lead_hi 10 bs hi)
  have hl := Cod.lead_le 10 bs
  have hl' : bs.length < 10 := by omega
  rw [h1] at HI
  clear h1 h0 hl
  go_enter Try.func44, Try.ntmps44
  go_wp2
  go_loop [3] (fun i => ∃ k : Nat, k ≤ bs.length ∧ i = .int .i64 k) (fun i => bs.length - (intOf i).toNat)
  case atStart => exact ⟨0, Nat.zero_le _, rfl⟩
  case round =>
    obtain ⟨k, hk, rfl⟩ := hrel
    by_cases hlt : k < bs.length
    · obtain ⟨ad, x, rfl, hx, cx⟩ := h.at_ (i := k) (by omega)
      have hg := HI.out k hlt
      rw [hx] at hg
      have hg' : ¬ (x : Int) < 128 := by omega
      clear hx hg h
      go_wp2
      go_round
      case rel => exact ⟨k + 1, by omega, by go_num⟩
      case measure => simp [intOf]; omega
    · have d1 : decide (k < bs.length) = false := by simpa using hlt
      go_wp2
      exact ⟨rfl, rfl, rfl⟩
end
end Go.Proofs.Ytepeamhoajlniaa
