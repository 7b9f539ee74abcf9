/- Devices: Check, Reset of the reference. -/
import Derived.Test.YtpoppadihbgbgaaDev13
import Derived.Deep.RegionHeld3
namespace Go.Proofs.Ytpoppadihbgbgaa
open Go.RowKit

theorem permr_yes (k : Int) (w : World) (h1 : 1 ≤ k) (h2 : k ≤ 1024) : Calls Try.prog 35 #[.int .i64 k] w fun e w' => e = .returned (.bool true) ∧ w = w' := by
  go_enter Try.func35, Try.ntmps35
  go_wp2
  go_ret
  exact ⟨rfl, rfl⟩
theorem permr_no (k : Int) (w : World) (h : k < 1 ∨ 1024 < k) : Calls Try.prog 35 #[.int .i64 k] w fun e w' => e = .returned (.bool false) ∧ w = w' := by
  rcases h with h | h
  · go_enter Try.func35, Try.ntmps35
    go_wp2
    go_ret
    exact ⟨rfl, rfl⟩
  · have h1 : 1 ≤ k := by omega
    go_enter Try.func35, Try.ntmps35
    go_wp2
    go_ret
    refine ⟨?_, rfl⟩
    show Ending.returned (.bool (decide (k ≤ 1024))) = _
    rw [decide_eq_false (by omega)]
theorem check_at {k : Int} {ws : List Int} {j : Nat} (h1 : 1 ≤ k) (h2 : k ≤ 1024) (h3 : ws.length ≤ 1024) (hj : j < ws.length) (hb : ws.getD j 0 < 0 ∨ k ≤ ws.getD j 0) : checkE k ws = 1 := by
  unfold checkE
  rw [if_neg (by omega), if_neg (by omega), if_pos]
  rw [List.any_eq_true]
  refine ⟨_, getD_mem' hj, ?_⟩
  unfold badB
  rcases hb with hb | hb
  · rw [decide_eq_true hb]; rfl
  · rw [decide_eq_true hb]; simp
theorem check_none {k : Int} {ws : List Int} (h1 : 1 ≤ k) (h2 : k ≤ 1024) (h3 : ws.length ≤ 1024) (h : ∀ i, i < ws.length → 0 ≤ ws.getD i 0 ∧ ws.getD i 0 < k) : checkE k ws = 0 := by
  unfold checkE
  rw [if_neg (by omega), if_neg (by omega), if_neg]
  simp only [List.any_eq_true, not_exists, not_and]
  intro n hn
  obtain ⟨i, hi, rfl⟩ := List.getElem_of_mem hn
  have h5 := h i hi
  have e : ws.getD i 0 = ws[i] := by rw [List.getD_eq_getElem?_getD, List.getElem?_eq_getElem hi]; rfl
  rw [e] at h5
  unfold badB
  rw [decide_eq_false (by omega), decide_eq_false (by omega)]; simp
theorem check_r (k : Int) (A : Option Addr) (c : Nat) (ws : List Int) (w : World) (h : Rd w A ws) :
    Calls Try.prog 16 #[.slice A ws.length c, .int .i64 k] w fun e w' => e = .returned (.int .i64 (checkE k ws)) ∧ w = w' := by
  have hm := h.1
  by_cases h1 : k < 1 ∨ 1024 < k
  · have hE : Hid (checkE k ws = 2) := Lib.hid (by unfold checkE; rw [if_pos h1])
    have H1 := Lib.hid h1
    clear h1
    go_enter Try.func16, Try.ntmps16
    go_wp2_with fail
    refine (permr_no k w H1.out).mono ?_
    rintro e w1 ⟨rfl, rfl⟩
    go_wp2_with fail
    go_ret
    exact ⟨by rw [hE.out]; rfl, rfl⟩
  have hk1 : 1 ≤ k := by omega
  have hk2 : k ≤ 1024 := by omega
  by_cases h2 : 1024 < ws.length
  · have hE : Hid (checkE k ws = 3) := Lib.hid (by unfold checkE; rw [if_neg h1, if_pos h2])
    clear h1
    go_enter Try.func16, Try.ntmps16
    go_wp2_with fail
    refine (permr_yes k w hk1 hk2).mono ?_
    rintro e w1 ⟨rfl, rfl⟩
    go_wp2_with fail
    go_ret
    exact ⟨by rw [hE.out]; rfl, rfl⟩
  clear h1
  have hl : ws.length ≤ 1024 := by omega
  clear h2
  go_enter Try.func16, Try.ntmps16
  go_wp2_with fail
  refine (permr_yes k w hk1 hk2).mono ?_
  rintro e w1 ⟨rfl, rfl⟩
  have HR := Lib.hid h
  clear h
  go_wp2_with fail
  go_loopw [5] (fun u wr => ∃ j : Nat, j ≤ ws.length ∧ u = .int .i64 (j : Int) ∧ wr = w ∧ Hid (∀ i, i < j → 0 ≤ ws.getD i 0 ∧ ws.getD i 0 < k)) (fun u _ => ws.length - (intOf u).toNat)
  case atStart => exact ⟨0, Nat.zero_le _, rfl, by simp, Lib.hid (fun i hi => absurd hi (Nat.not_lt_zero _))⟩
  case round =>
    obtain ⟨j, hj, rfl, rfl, HG⟩ := hrel
    by_cases hjl : j < ws.length
    · obtain ⟨ad, a, rfl, ha, hca⟩ := HR.out.at_ hjl
      have HA := Lib.hid ha
      clear ha
      by_cases hb1 : a < 0
      · have hE := Lib.hid (check_at hk1 hk2 hl hjl (.inl (by rw [HA.out]; exact hb1)))
        go_wp2_with fail
        go_ret
        exact ⟨by rw [hE.out]; rfl, by simp⟩
      by_cases hb2 : k ≤ a
      · have hE := Lib.hid (check_at hk1 hk2 hl hjl (.inr (by rw [HA.out]; exact hb2)))
        go_wp2_with fail
        go_ret
        exact ⟨by rw [hE.out]; rfl, by simp⟩
      go_wp2_with fail
      go_roundw
      case rel =>
        refine ⟨j + 1, by omega, by go_num, by simp, Lib.hid (fun i hi => ?_)⟩
        by_cases e : i = j
        · subst e; rw [HA.out]; omega
        · exact HG.out i (by omega)
      case measure => simp [intOf]; omega
    · have hE := Lib.hid (check_none hk1 hk2 hl (fun i hi => HG.out i (by omega)))
      go_wp2_with fail
      go_ret
      exact ⟨by rw [hE.out]; rfl, by simp⟩
end Go.Proofs.Ytpoppadihbgbgaa
