/- Both checks of a word of symbols. -/
import Derived.Test.YtaoebjabdejpoaaCheck
import Derived.Test.YtaoebjabdejpoaaSymR
namespace Go.Proofs.Ytaoebjabdejpoaa
open Go.RowKit

theorem wordE_check (k : Int) (xs : List Int) : checkE k xs = Rg.wordE k xs := by
  unfold checkE Rg.wordE
  by_cases h1 : k < 1 ∨ 1024 < k
  · rw [if_pos h1, if_pos h1]
  rw [if_neg h1, if_neg h1]
  by_cases h2 : 1024 < xs.length
  · rw [if_pos h2, if_pos h2]
  rw [if_neg h2, if_neg h2]
  have key : ∀ j, badB k (xs.getD j 0) = true ↔ xs.getD j 0 < 0 ∨ k ≤ xs.getD j 0 := fun j => by simp [badB]
  rcases any_or (badB k) xs with ⟨ha, hb⟩ | ⟨ha, j, hj, hb, hc⟩
  · rw [ha, if_neg (by simp), Mea.firstE_zero (fun j hj => by rw [if_neg]; intro h; have := (key j).2 h; rw [hb j hj] at this; cases this), if_neg (by simp)]
  · rw [ha, if_pos rfl, Mea.firstE_at (s := j) (fun i hi => by rw [if_neg]; intro h; have := (key i).2 h; rw [hc i hi] at this; cases this) (by rw [if_pos ((key j).1 hb)]; decide) hj, if_pos ((key j).1 hb), if_pos (by decide)]
theorem word_p (k : Int) (A : Option Addr) (c : Nat) (xs : List Int) (w : World) (h : Rd w A xs) :
    Calls Try.prog 37 #[.slice A xs.length c, .int .i64 k] w fun e w' => e = .returned (.int .i64 (Rg.wordE k xs)) ∧ Below w.heap.size w w' := by
  have := check_any k A c xs w h
  rwa [wordE_check] at this
def sizeB (k : Int) : Bool := decide (1 ≤ k ∧ k ≤ 1024)
theorem size_r (k : Int) (w : World) : Calls Try.prog 50 #[.int .i64 k] w fun e w' => e = .returned (.bool (sizeB k)) ∧ w = w' := by
  obtain ⟨b, hb⟩ : ∃ b, sizeB k = b := ⟨_, rfl⟩
  rw [hb]
  have HB := Lib.hid hb
  clear hb
  by_cases q0 : 1 ≤ k
  rotate_left
  · obtain rfl : false = b := by rw [← HB.out]; exact (decide_eq_false (by omega)).symm
    have d0 : decide (1 ≤ k) = false := decide_eq_false q0
    go_enter Try.func50, Try.ntmps50
    go_wp2
    go_ret
    exact ⟨rfl, rfl⟩
  by_cases q1 : k ≤ 1024
  rotate_left
  · obtain rfl : false = b := by rw [← HB.out]; exact (decide_eq_false (by omega)).symm
    have d0 : decide (k ≤ 1024) = false := decide_eq_false q1
    go_enter Try.func50, Try.ntmps50
    go_wp2
    go_ret
    exact ⟨rfl, rfl⟩
  obtain rfl : true = b := by rw [← HB.out]; exact (decide_eq_true ⟨q0, q1⟩).symm
  go_enter Try.func50, Try.ntmps50
  go_wp2
  go_ret
  exact ⟨rfl, rfl⟩
set_option maxHeartbeats 1600000 in
theorem word_r (k : Int) (A : Option Addr) (c : Nat) (xs : List Int) (w : World) (h : Rd w A xs) :
    Calls Try.prog 38 #[.slice A xs.length c, .int .i64 k] w fun e w' => e = .returned (.int .i64 (Rg.wordE k xs)) ∧ w = w' := by
  have hm := h.1
  have H := Lib.hid h
  clear h
  by_cases h1 : k < 1 ∨ 1024 < k
  · have hE := Lib.hid (show Rg.wordE k xs = 2 by unfold Rg.wordE; rw [if_pos h1])
    have HC := Lib.hid ((show sizeB k = false from decide_eq_false (by omega)) ▸ size_r k)
    clear h1
    go_enter Try.func38, Try.ntmps38
    go_wp2_with (first | (go_at_call 50; refine (HC.out _).mono ?_; rintro r w' ⟨rfl, rfl⟩))
    go_ret
    exact ⟨by rw [hE.out]; rfl, rfl⟩
  have HC := Lib.hid ((show sizeB k = true from decide_eq_true (by omega)) ▸ size_r k)
  by_cases h2 : 1024 < xs.length
  · have hE := Lib.hid (show Rg.wordE k xs = 3 by unfold Rg.wordE; rw [if_neg h1, if_pos h2])
    have h2' : (1024 : Int) < xs.length := by omega
    clear h1
    go_enter Try.func38, Try.ntmps38
    go_wp2_with (first | (go_at_call 50; refine (HC.out _).mono ?_; rintro r w' ⟨rfl, rfl⟩))
    go_ret
    exact ⟨by rw [hE.out]; rfl, rfl⟩
  have HE : Hid (Rg.wordE k xs = if Mea.firstE (fun j => if xs.getD j 0 < 0 ∨ k ≤ xs.getD j 0 then 1 else 0) xs.length ≠ 0 then 1 else 0) := Lib.hid (by unfold Rg.wordE; rw [if_neg h1, if_neg h2])
  have h2' : ¬ (1024 : Int) < xs.length := by omega
  clear h1
  go_enter Try.func38, Try.ntmps38
  go_upto_region 6 with (first | (go_at_call 50; refine (HC.out _).mono ?_; rintro r w' ⟨rfl, rfl⟩))
  clear h2'
  go_loopw [5] (fun jv wr => ∃ j : Nat, j ≤ xs.length ∧ jv = .int .i64 j ∧ w = wr ∧ Hid (∀ t, t < j → (if xs.getD t 0 < 0 ∨ k ≤ xs.getD t 0 then (1 : Int) else 0) = 0)) (fun jv _ => xs.length - (intOf jv).toNat)
  case atStart => exact ⟨0, Nat.zero_le _, rfl, rfl, Lib.hid (fun t ht => by omega)⟩
  case round =>
    obtain ⟨j, hj, rfl, rfl, HZ⟩ := hrel
    by_cases hjl : j < xs.length
    rotate_left
    · obtain rfl : j = xs.length := by omega
      have HF := Lib.hid (show Rg.wordE k xs = 0 by rw [HE.out, Mea.firstE_zero HZ.out, if_neg (by simp)])
      go_wp2
      go_ret
      exact ⟨by rw [HF.out]; rfl, rfl⟩
    have hji : (j : Int) < (xs.length : Int) := by omega
    obtain ⟨ad, v, rfl, hv, cv⟩ := H.out.at_ hjl
    have HV := Lib.hid hv
    clear hv
    have HF : Hid (v < 0 ∨ k ≤ v → Rg.wordE k xs = 1) := Lib.hid (fun hc => by
      have hval : (if xs.getD j 0 < 0 ∨ k ≤ xs.getD j 0 then (1 : Int) else 0) = 1 := by rw [HV.out, if_pos hc]
      rw [HE.out, Mea.firstE_at HZ.out (by rw [hval]; decide) hjl, hval, if_pos (by decide)])
    by_cases q0 : v < 0
    · have HF1 := Lib.hid (HF.out (.inl q0))
      have e1 : decide (v < 0) = true := decide_eq_true q0
      clear q0
      go_wp2
      go_ret
      exact ⟨by rw [HF1.out]; rfl, rfl⟩
    have e1 : decide (v < 0) = false := decide_eq_false q0
    by_cases q1 : k ≤ v
    · have HF1 := Lib.hid (HF.out (.inr q1))
      have e2 : decide (k ≤ v) = true := decide_eq_true q1
      clear q0 q1
      go_wp2
      go_ret
      exact ⟨by rw [HF1.out]; rfl, rfl⟩
    have e2 : decide (k ≤ v) = false := decide_eq_false q1
    have HZ2 : Hid (∀ t, t < j + 1 → (if xs.getD t 0 < 0 ∨ k ≤ xs.getD t 0 then (1 : Int) else 0) = 0) := Lib.hid (fun t ht => by
      by_cases et : t = j
      · subst et; rw [HV.out, if_neg (by omega)]
      · exact HZ.out t (by omega))
    clear q0 q1
    go_wp2
    go_roundw
    case rel => exact ⟨j + 1, by omega, by go_num, trivial, HZ2⟩
    case measure => simp [intOf] <;> omega
end Go.Proofs.Ytaoebjabdejpoaa
