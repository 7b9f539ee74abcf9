/- The walks of the two Chooses. -/
import Derived.Test.YthemmbdhhjelcaaShuf
import Derived.Test.YthemmbdhhjelcaaPick
namespace Go.Proofs.Ythemmbdhhjelcaa
open Go.RowKit

set_option maxHeartbeats 400000 in
theorem choose_p_neg (s k0 : Nat) (A : Option Addr) (c : Nat) (xs : List Int) (w : World) (h : Rd w A xs) (hk0 : k0 < xs.length) (hneg : xs.getD k0 0 < 0) (hpos : ∀ j, j < k0 → 0 ≤ xs.getD j 0) :
    Calls Try.prog 22 #[.int .u64 s, .slice A xs.length c] w fun e w' => e = .returned (.tuple #[.int .i64 0, .int .u64 0, .int .i64 1]) ∧ w = w' := by
  have hm := h.1
  go_enter Try.func22, Try.ntmps22
  go_wp2
  go_loop [17] (fun i => ∃ j : Nat, j ≤ k0 ∧ i = .int .i64 j) (fun i => xs.length - (intOf i).toNat)
  case atStart => exact ⟨0, Nat.zero_le _, rfl⟩
  case round =>
    obtain ⟨j, hj, rfl⟩ := hrel
    have hjl : j < xs.length := by omega
    obtain ⟨a, x, rfl, hx, ca⟩ := h.at_ hjl
    by_cases h1 : j = k0
    · have hx0 : x < 0 := by rw [← hx, h1]; exact hneg
      clear hx h1 hj hpos hneg h
      go_wp2
      go_ret3
      exact ⟨rfl, rfl⟩
    · have hx0 : 0 ≤ x := by rw [← hx]; exact hpos j (by omega)
      clear hx hpos hneg h
      go_wp2
      go_round
      case rel => exact ⟨j + 1, by omega, by go_num⟩
      case measure => simp [intOf]; omega

set_option maxHeartbeats 800000 in
theorem choose_p_nn (s : Nat) (A : Option Addr) (c : Nat) (xs : List Int) (w : World) (h : Rd w A xs) (hs : s < 18446744073709551616) (hnn : ∀ x ∈ xs, 0 ≤ x) :
    Calls Try.prog 22 #[.int .u64 s, .slice A xs.length c] w fun e w' => e = .returned (.tuple #[.int .i64 (Rnd.chv s xs).1, .int .u64 (Rnd.chv s xs).2.1, .int .i64 (Rnd.chv s xs).2.2]) ∧ w = w' := by
  have hm := h.1
  go_enter Try.func22, Try.ntmps22
  go_wp2
  go_loop [17] (fun i => ∃ j : Nat, j ≤ xs.length ∧ i = .int .i64 j) (fun i => xs.length - (intOf i).toNat)
  case atStart => exact ⟨0, Nat.zero_le _, rfl⟩
  case round =>
    obtain ⟨j, hj, rfl⟩ := hrel
    by_cases hjl : j < xs.length
    · obtain ⟨a, x, rfl, hx, ca⟩ := h.at_ hjl
      have hx0 : 0 ≤ x := by rw [← hx]; exact Rnd.getD_nn xs hnn j
      clear hx hnn h
      go_wp2
      go_round
      case rel => exact ⟨j + 1, by omega, by go_num⟩
      case measure => simp [intOf]; omega
    · go_wp2
      go_loop [9, 26] (fun v i => ∃ (j : Nat) (sum : Int), j ≤ xs.length ∧ i = .int .i64 j ∧ v = .int .i64 sum ∧ 0 ≤ sum ∧ sum ≤ 2147483648 ∧ sum + (xs.drop j).sum = xs.sum) (fun _ i => xs.length - (intOf i).toNat)
      case atStart => exact ⟨0, 0, Nat.zero_le _, rfl, rfl, by omega, by omega, by simp⟩
      case round =>
        clear hj hjl
        obtain ⟨j, sum, hj, rfl, rfl, hs0, hs1, hsum⟩ := hrel
        have hd0 := Rnd.sum_drop_nn xs hnn (j + 1)
        by_cases hjl : j < xs.length
        · obtain ⟨a, x, rfl, hx, ca⟩ := h.at_ hjl
          have hx0 : 0 ≤ x := by rw [← hx]; exact Rnd.getD_nn xs hnn j
          have hd := Rnd.sum_drop xs j hjl
          rw [hx] at hd
          by_cases hov : 2147483648 - sum < x
          · have hch := Rnd.chv_out (s := s) hnn (.inl (by omega))
            have HC := Lib.hid hch
            clear hx hnn h hd hsum hch
            go_wp2
            go_ret3
            exact ⟨by rw [HC.out]; rfl, rfl⟩
          · have hsum' : (sum + x) + (xs.drop (j + 1)).sum = xs.sum := by omega
            have HS := Lib.hid hsum'
            clear hx hnn h hd hsum hsum'
            go_wp2
            go_round
            case rel => exact ⟨j + 1, sum + x, by omega, by go_num, rfl, by omega, by omega, HS.out⟩
            case measure => simp [intOf]; omega
        · have hsum' : sum = xs.sum := by rw [List.drop_eq_nil_of_le (by omega)] at hsum; simpa using hsum
          subst hsum'
          clear hsum
          by_cases hz : xs.sum = 0
          · have hch := Rnd.chv_out (s := s) hnn (.inr hz)
            have HC := Lib.hid hch
            have hb : (xs.sum == 0) = true := by simp [hz]
            clear hch hz hnn
            go_wp2
            go_ret3
            exact ⟨by rw [HC.out]; rfl, rfl⟩
          · have hch := Rnd.chv_in (s := s) hnn hs1 (by omega)
            have HC := Lib.hid hch
            have hb : (xs.sum == 0) = false := by simp [hz]
            have hbl := Rnd.bel_lt s xs.sum.toNat (by omega)
            obtain ⟨x0, hx0⟩ : ∃ x0, x0 = (Rnd.bel s xs.sum.toNat).1 := ⟨_, rfl⟩
            rw [← hx0] at hbl
            have HX := Lib.hid hx0
            clear hch hx0
            go_wp2_with (go_at_call 38; refine (bel_pI s _ _ xs.sum.toNat (by omega) hs (by omega) (by omega)).mono ?_; rintro e w' ⟨rfl, rfl⟩; rw [← HX.out])
            go_loop [12, 14] (fun u v => ∃ (i : Nat) (x : Int), u = .int .i64 x ∧ v = .int .i64 i ∧ 0 ≤ x ∧ x < (xs.drop i).sum ∧ x ≤ 2147483648 ∧ Rnd.pick (xs.drop i) x + i = Rnd.pick xs x0) (fun _ v => xs.length - (intOf v).toNat)
            case atStart => exact ⟨0, x0, rfl, rfl, by omega, by simp; omega, by omega, by simp⟩
            case round =>
              obtain ⟨i, x, rfl, rfl, hx0, hx1, hx2, hp⟩ := hrel
              have hil := Rnd.drop_pos hx0 hx1
              obtain ⟨a, y, rfl, hy, ca⟩ := h.at_ hil
              have hy0 : 0 ≤ y := by rw [← hy]; exact Rnd.getD_nn xs hnn i
              by_cases hyx : y ≤ x
              · have hd := Rnd.sum_drop xs i hil
                have hp' := Rnd.pick_yes hil (by rw [hy]; exact hyx)
                rw [hy] at hd hp'
                have hq : Rnd.pick (xs.drop (i + 1)) (x - y) + (i + 1) = Rnd.pick xs x0 := by omega
                have hlt : x - y < (xs.drop (i + 1)).sum := by omega
                have HQ := Lib.hid hq
                have HL := Lib.hid hlt
                clear hy hd hp' hq hp hlt hx1 h hnn
                go_wp2
                go_round
                case rel => exact ⟨i + 1, x - y, rfl, by go_num, by omega, HL.out, by omega, HQ.out⟩
                case measure => simp [intOf]; omega
              · have hp' := Rnd.pick_no hil (x := x) (by rw [hy]; omega)
                have hq : i = Rnd.pick xs x0 := by omega
                have HQ := Lib.hid hq
                clear hy hp' hq hp hx1 h hnn
                go_wp2
                go_ret3
                refine ⟨ret3i ?_ ?_ ?_, rfl⟩
                · rw [HC.out, ← HX.out, ← HQ.out]
                · rw [HC.out]
                · rw [HC.out]
theorem choose_p (s : Nat) (A : Option Addr) (c : Nat) (xs : List Int) (w : World) (h : Rd w A xs) (hs : s < 18446744073709551616) :
    Calls Try.prog 22 #[.int .u64 s, .slice A xs.length c] w fun e w' => e = .returned (.tuple #[.int .i64 (Rnd.chv s xs).1, .int .u64 (Rnd.chv s xs).2.1, .int .i64 (Rnd.chv s xs).2.2]) ∧ w = w' := by
  rcases Rnd.nn_or xs with hn | ⟨k, h1, h2, h3⟩
  · exact choose_p_nn s A c xs w h hs hn
  · have hch := Rnd.chv_neg (s := s) (xs := xs) fun hn => by have := Rnd.getD_nn xs hn k; omega
    rw [hch]
    exact choose_p_neg s k A c xs w h h1 h2 h3
set_option maxHeartbeats 400000 in
theorem choose_r_neg (s k0 : Nat) (A : Option Addr) (c : Nat) (xs : List Int) (w : World) (h : Rd w A xs) (hk0 : k0 < xs.length) (hneg : xs.getD k0 0 < 0) (hpos : ∀ j, j < k0 → 0 ≤ xs.getD j 0) :
    Calls Try.prog 23 #[.int .u64 s, .slice A xs.length c] w fun e w' => e = .returned (.tuple #[.int .i64 0, .int .u64 0, .int .i64 1]) ∧ w = w' := by
  have hm := h.1
  go_enter Try.func23, Try.ntmps23
  go_wp2
  go_loop [8] (fun i => ∃ j : Nat, j ≤ k0 ∧ i = .int .i64 j) (fun i => xs.length - (intOf i).toNat)
  case atStart => exact ⟨0, Nat.zero_le _, rfl⟩
  case round =>
    obtain ⟨j, hj, rfl⟩ := hrel
    have hjl : j < xs.length := by omega
    obtain ⟨a, x, rfl, hx, ca⟩ := h.at_ hjl
    by_cases h1 : j = k0
    · have hx0 : x < 0 := by rw [← hx, h1]; exact hneg
      clear hx h1 hj hpos hneg h
      go_wp2
      go_ret3
      exact ⟨rfl, rfl⟩
    · have hx0 : 0 ≤ x := by rw [← hx]; exact hpos j (by omega)
      clear hx hpos hneg h
      go_wp2
      go_round
      case rel => exact ⟨j + 1, by omega, by go_num⟩
      case measure => simp [intOf]; omega

set_option maxHeartbeats 800000 in
theorem choose_r_nn (s : Nat) (A : Option Addr) (c : Nat) (xs : List Int) (w : World) (h : Rd w A xs) (hs : s < 18446744073709551616) (hnn : ∀ x ∈ xs, 0 ≤ x) :
    Calls Try.prog 23 #[.int .u64 s, .slice A xs.length c] w fun e w' => e = .returned (.tuple #[.int .i64 (Rnd.chv s xs).1, .int .u64 (Rnd.chv s xs).2.1, .int .i64 (Rnd.chv s xs).2.2]) ∧ w = w' := by
  have hm := h.1
  go_enter Try.func23, Try.ntmps23
  go_wp2
  go_loop [8] (fun i => ∃ j : Nat, j ≤ xs.length ∧ i = .int .i64 j) (fun i => xs.length - (intOf i).toNat)
  case atStart => exact ⟨0, Nat.zero_le _, rfl⟩
  case round =>
    obtain ⟨j, hj, rfl⟩ := hrel
    by_cases hjl : j < xs.length
    · obtain ⟨a, x, rfl, hx, ca⟩ := h.at_ hjl
      have hx0 : 0 ≤ x := by rw [← hx]; exact Rnd.getD_nn xs hnn j
      clear hx hnn h
      go_wp2
      go_round
      case rel => exact ⟨j + 1, by omega, by go_num⟩
      case measure => simp [intOf]; omega
    · go_wp2
      go_loop [7, 9] (fun v i => ∃ (j : Nat) (sum : Int), j ≤ xs.length ∧ i = .int .i64 j ∧ v = .int .i64 sum ∧ 0 ≤ sum ∧ sum ≤ 2147483648 ∧ sum + (xs.drop j).sum = xs.sum) (fun _ i => xs.length - (intOf i).toNat)
      case atStart => exact ⟨0, 0, Nat.zero_le _, rfl, rfl, by omega, by omega, by simp⟩
      case round =>
        clear hj hjl
        obtain ⟨j, sum, hj, rfl, rfl, hs0, hs1, hsum⟩ := hrel
        have hd0 := Rnd.sum_drop_nn xs hnn (j + 1)
        by_cases hjl : j < xs.length
        · obtain ⟨a, x, rfl, hx, ca⟩ := h.at_ hjl
          have hx0 : 0 ≤ x := by rw [← hx]; exact Rnd.getD_nn xs hnn j
          have hd := Rnd.sum_drop xs j hjl
          rw [hx] at hd
          by_cases hov : 2147483648 - sum < x
          · have hch := Rnd.chv_out (s := s) hnn (.inl (by omega))
            have HC := Lib.hid hch
            clear hx hnn h hd hsum hch
            go_wp2
            go_ret3
            exact ⟨by rw [HC.out]; rfl, rfl⟩
          · have hsum' : (sum + x) + (xs.drop (j + 1)).sum = xs.sum := by omega
            have HS := Lib.hid hsum'
            clear hx hnn h hd hsum hsum'
            go_wp2
            go_round
            case rel => exact ⟨j + 1, sum + x, by omega, by go_num, rfl, by omega, by omega, HS.out⟩
            case measure => simp [intOf]; omega
        · have hsum' : sum = xs.sum := by rw [List.drop_eq_nil_of_le (by omega)] at hsum; simpa using hsum
          subst hsum'
          clear hsum
          by_cases hz : xs.sum = 0
          · have hch := Rnd.chv_out (s := s) hnn (.inr hz)
            have HC := Lib.hid hch
            have hb : (xs.sum == 0) = true := by simp [hz]
            clear hch hz hnn
            go_wp2
            go_ret3
            exact ⟨by rw [HC.out]; rfl, rfl⟩
          · have hch := Rnd.chv_in (s := s) hnn hs1 (by omega)
            have HC := Lib.hid hch
            have hb : (xs.sum == 0) = false := by simp [hz]
            have hbl := Rnd.bel_lt s xs.sum.toNat (by omega)
            obtain ⟨x0, hx0⟩ : ∃ x0, x0 = (Rnd.bel s xs.sum.toNat).1 := ⟨_, rfl⟩
            rw [← hx0] at hbl
            have HX := Lib.hid hx0
            clear hch hx0
            go_wp2_with (go_at_call 39; refine (bel_rI s _ _ xs.sum.toNat (by omega) hs (by omega) (by omega)).mono ?_; rintro e w' ⟨rfl, rfl⟩; rw [← HX.out])
            go_loop [10, 12] (fun u v => ∃ (i : Nat) (x : Int), u = .int .i64 x ∧ v = .int .i64 i ∧ 0 ≤ x ∧ x < (xs.drop i).sum ∧ x ≤ 2147483648 ∧ Rnd.pick (xs.drop i) x + i = Rnd.pick xs x0) (fun _ v => xs.length - (intOf v).toNat)
            case atStart => exact ⟨0, x0, rfl, rfl, by omega, by simp; omega, by omega, by simp⟩
            case round =>
              obtain ⟨i, x, rfl, rfl, hx0, hx1, hx2, hp⟩ := hrel
              have hil := Rnd.drop_pos hx0 hx1
              obtain ⟨a, y, rfl, hy, ca⟩ := h.at_ hil
              have hy0 : 0 ≤ y := by rw [← hy]; exact Rnd.getD_nn xs hnn i
              by_cases hyx : y ≤ x
              · have hd := Rnd.sum_drop xs i hil
                have hp' := Rnd.pick_yes hil (by rw [hy]; exact hyx)
                rw [hy] at hd hp'
                have hq : Rnd.pick (xs.drop (i + 1)) (x - y) + (i + 1) = Rnd.pick xs x0 := by omega
                have hlt : x - y < (xs.drop (i + 1)).sum := by omega
                have HQ := Lib.hid hq
                have HL := Lib.hid hlt
                clear hy hd hp' hq hp hlt hx1 h hnn
                go_wp2
                go_round
                case rel => exact ⟨i + 1, x - y, rfl, by go_num, by omega, HL.out, by omega, HQ.out⟩
                case measure => simp [intOf]; omega
              · have hp' := Rnd.pick_no hil (x := x) (by rw [hy]; omega)
                have hq : i = Rnd.pick xs x0 := by omega
                have HQ := Lib.hid hq
                clear hy hp' hq hp hx1 h hnn
                go_wp2
                go_ret3
                refine ⟨ret3i ?_ ?_ ?_, rfl⟩
                · rw [HC.out, ← HX.out, ← HQ.out]
                · rw [HC.out]
                · rw [HC.out]
theorem choose_r (s : Nat) (A : Option Addr) (c : Nat) (xs : List Int) (w : World) (h : Rd w A xs) (hs : s < 18446744073709551616) :
    Calls Try.prog 23 #[.int .u64 s, .slice A xs.length c] w fun e w' => e = .returned (.tuple #[.int .i64 (Rnd.chv s xs).1, .int .u64 (Rnd.chv s xs).2.1, .int .i64 (Rnd.chv s xs).2.2]) ∧ w = w' := by
  rcases Rnd.nn_or xs with hn | ⟨k, h1, h2, h3⟩
  · exact choose_r_nn s A c xs w h hs hn
  · have hch := Rnd.chv_neg (s := s) (xs := xs) fun hn => by have := Rnd.getD_nn xs hn k; omega
    rw [hch]
    exact choose_r_neg s k A c xs w h h1 h2 h3
end Go.Proofs.Ythemmbdhhjelcaa
