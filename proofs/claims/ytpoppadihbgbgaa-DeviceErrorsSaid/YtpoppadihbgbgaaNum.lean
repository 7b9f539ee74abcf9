/- The walks of Next, below, draw and Below: what they return is what the plain functions of Rnd say, in every world. -/
import Derived.Test.YtpoppadihbgbgaaProg
import Derived.Test.YtpoppadihbgbgaaRnd
import Derived.Test.YtpoppadihbgbgaaLib
namespace Go.Proofs.Ytpoppadihbgbgaa
open Go.RowKit

theorem ny_i (s : Nat) : IntKind.u64.wrap ((s : Int) + 11400714819323198485) = (Rnd.ny s : Int) := by
  rw [IntKind.wrap_u64, Rnd.ny_def]; unfold Rnd.ny0; omega
theorem mz_i (s : Nat) (h : s < 18446744073709551616) : IntKind.u64.wrap (bits .xor .u64 (s : Int) ((s : Int) / 1073741824) * 13787848793156543929) = (Rnd.mz s : Int) :=
  mixStep_u64 s 1073741824 13787848793156543929 h
theorem mu_i (s : Nat) (h : s < 18446744073709551616) : IntKind.u64.wrap (bits .xor .u64 (s : Int) ((s : Int) / 134217728) * 10723151780598845931) = (Rnd.mu s : Int) :=
  mixStep_u64 s 134217728 10723151780598845931 h
theorem mx_i (s : Nat) (h : s < 18446744073709551616) : bits .xor .u64 (s : Int) ((s : Int) / 2147483648) = (Rnd.mx s : Int) :=
  xorShift_u64 s 2147483648 h
theorem mix_i (s : Nat) : bits BinOp.xor IntKind.u64
     (IntKind.u64.wrap (bits BinOp.xor IntKind.u64 (IntKind.u64.wrap (bits BinOp.xor IntKind.u64 (IntKind.u64.wrap (↑s + 11400714819323198485)) (IntKind.u64.wrap (↑s + 11400714819323198485) / 1073741824) * 13787848793156543929))
        (IntKind.u64.wrap (bits BinOp.xor IntKind.u64 (IntKind.u64.wrap (↑s + 11400714819323198485)) (IntKind.u64.wrap (↑s + 11400714819323198485) / 1073741824) * 13787848793156543929) / 134217728) * 10723151780598845931))
     (IntKind.u64.wrap (bits BinOp.xor IntKind.u64 (IntKind.u64.wrap (bits BinOp.xor IntKind.u64 (IntKind.u64.wrap (↑s + 11400714819323198485)) (IntKind.u64.wrap (↑s + 11400714819323198485) / 1073741824) * 13787848793156543929))
        (IntKind.u64.wrap (bits BinOp.xor IntKind.u64 (IntKind.u64.wrap (↑s + 11400714819323198485)) (IntKind.u64.wrap (↑s + 11400714819323198485) / 1073741824) * 13787848793156543929) / 134217728) * 10723151780598845931) / 2147483648) = (Rnd.mix (Rnd.ny s) : Int) := by
  rw [ny_i, mz_i _ (Rnd.ny_lt s), mu_i _ (Rnd.mz_lt _), mx_i _ (Rnd.mu_lt _), Rnd.mix_def]; rfl

set_option maxHeartbeats 400000 in
theorem next_p (s : Nat) (w : World) :
    Calls Try.prog 61 #[.int .u64 s] w fun e w' => e = .returned (.tuple #[.int .u64 (Rnd.mix (Rnd.ny s)), .int .u64 (Rnd.ny s)]) ∧ w = w' := by
  go_enter Try.func61, Try.ntmps61
  go_wp2
  go_ret2
  exact ⟨ret2i (mix_i s) (ny_i s), rfl⟩
set_option maxHeartbeats 400000 in
theorem next_r (s : Nat) (w : World) :
    Calls Try.prog 59 #[.int .u64 s] w fun e w' => e = .returned (.tuple #[.int .u64 (Rnd.mix (Rnd.ny s)), .int .u64 (Rnd.ny s)]) ∧ w = w' := by
  go_enter Try.func59, Try.ntmps59
  go_wp2
  go_ret2
  exact ⟨ret2i (mix_i s) (ny_i s), rfl⟩

theorem rest_i (n : Nat) (h1 : 1 ≤ n) (h2 : n ≤ 2147483648) : (IntKind.u64.wrap (-(n : Int))).tmod (n : Int) = (Rnd.rest n : Int) := by
  rw [IntKind.wrap_u64, tmod_of_emod]
  have e : (-(n : Int)) % 18446744073709551616 = ((18446744073709551616 - n : Nat) : Int) := by omega
  rw [e, ← Int.natCast_emod]
  rw [Rnd.rest_def]
  have : 18446744073709551616 % n = (18446744073709551616 - n) % n := by
    rw [← Nat.mod_eq_sub_mod (by omega)]
  rw [this]
set_option maxHeartbeats 400000 in
theorem bel_p (s n : Nat) (w : World) (hs : s < 18446744073709551616) (hn : 1 ≤ n) (hn2 : n ≤ 2147483648) :
    Calls Try.prog 58 #[.int .u64 s, .int .i64 n] w fun e w' => e = .returned (.tuple #[.int .i64 (Rnd.bel s n).1, .int .u64 (Rnd.bel s n).2]) ∧ w = w' := by
  have hr := Rnd.rest_lt n hn
  go_enter Try.func58, Try.ntmps58
  go_wp2
  rw [rest_i n hn hn2]
  go_loop [0] (fun v => ∃ t : Nat, v = .int .u64 t ∧ t < 18446744073709551616 ∧ Rnd.draw (Rnd.rest n) t = Rnd.draw (Rnd.rest n) s) (fun v => Rnd.left (intOf v).toNat)
  case atStart => exact ⟨s, rfl, hs, rfl⟩
  case round =>
    obtain ⟨t, rfl, ht, hd⟩ := hrel
    have HD := Lib.hid hd
    clear hd
    have hm := Rnd.mix_lt (Rnd.ny t)
    have hmod : (Rnd.mix (Rnd.ny t) : Int) % (n : Int) < n := Int.emod_lt_of_pos _ (by omega)
    have hmod0 : 0 ≤ (Rnd.mix (Rnd.ny t) : Int) % (n : Int) := Int.emod_nonneg _ (by omega)
    by_cases h0 : Rnd.rest n = 0
    · have hb : ((Rnd.rest n : Int) == 0) = true := by simp [h0]
      have hy : Rnd.draw (Rnd.rest n) t = (Rnd.mix (Rnd.ny t), Rnd.ny t) := Rnd.draw_yes ht (by omega) (by rw [h0]; omega)
      have HY := Lib.hid hy
      clear hy h0
      go_wp2_with (go_at_call 61; refine (next_p t _).mono ?_; rintro e w' ⟨rfl, rfl⟩)
      go_ret2
      refine ⟨ret2i ?_ ?_, rfl⟩
      · unfold Rnd.bel; rw [← HD.out, HY.out]; exact (Int.natCast_emod _ _).symm
      · unfold Rnd.bel; rw [← HD.out, HY.out]
    · have hw : IntKind.u64.wrap (-(Rnd.rest n : Int)) = 18446744073709551616 - (Rnd.rest n : Int) := by rw [IntKind.wrap_u64]; omega
      have hb : ((Rnd.rest n : Int) == 0) = false := by simp [h0]
      by_cases h : Rnd.mix (Rnd.ny t) < 18446744073709551616 - Rnd.rest n
      · have hy : Rnd.draw (Rnd.rest n) t = (Rnd.mix (Rnd.ny t), Rnd.ny t) := Rnd.draw_yes ht (by omega) h
        have HY := Lib.hid hy
        have hc : (Rnd.mix (Rnd.ny t) : Int) < IntKind.u64.wrap (-(Rnd.rest n : Int)) := by rw [hw]; omega
        clear hy hw h0 h
        go_wp2_with (go_at_call 61; refine (next_p t _).mono ?_; rintro e w' ⟨rfl, rfl⟩)
        go_ret2
        refine ⟨ret2i ?_ ?_, rfl⟩
        · unfold Rnd.bel; rw [← HD.out, HY.out]; exact (Int.natCast_emod _ _).symm
        · unfold Rnd.bel; rw [← HD.out, HY.out]
      · have hy : Rnd.draw (Rnd.rest n) t = Rnd.draw (Rnd.rest n) (Rnd.ny t) := Rnd.draw_no ht (by omega) h
        have HY := Lib.hid hy
        have HL : Rnd.left (Rnd.ny t) < Rnd.left t := Rnd.no_left ht (by omega) h
        have hc : ¬ ((Rnd.mix (Rnd.ny t) : Int) < IntKind.u64.wrap (-(Rnd.rest n : Int))) := by rw [hw]; omega
        clear hy hw h0 h
        go_wp2_with (go_at_call 61; refine (next_p t _).mono ?_; rintro e w' ⟨rfl, rfl⟩)
        go_round
        case rel => exact ⟨Rnd.ny t, rfl, Rnd.ny_lt _, by rw [← HY.out, HD.out]⟩
        case measure => simpa only [intOf, Int.toNat_natCast] using HL

theorem restr_i (n : Nat) (h1 : 1 ≤ n) (h2 : n ≤ 2147483648) : (18446744073709551615 - (n : Int) + 1) % (n : Int) = (Rnd.rest n : Int) := by
  have e : 18446744073709551615 - (n : Int) + 1 = ((18446744073709551616 - n : Nat) : Int) := by omega
  rw [e, ← Int.natCast_emod, Rnd.rest_def]
  have : 18446744073709551616 % n = (18446744073709551616 - n) % n := by
    rw [← Nat.mod_eq_sub_mod (by omega)]
  rw [this]
set_option maxHeartbeats 400000 in
theorem bel_r (s n : Nat) (w : World) (hs : s < 18446744073709551616) (hn : 1 ≤ n) (hn2 : n ≤ 2147483648) :
    Calls Try.prog 51 #[.int .u64 s, .int .i64 n] w fun e w' => e = .returned (.tuple #[.int .i64 (Rnd.bel s n).1, .int .u64 (Rnd.bel s n).2]) ∧ w = w' := by
  have hr := Rnd.rest_lt n hn
  go_enter Try.func51, Try.ntmps51
  go_wp2_with (go_at_call 59; refine (next_r s _).mono ?_; rintro e w' ⟨rfl, rfl⟩)
  rw [restr_i n hn hn2]
  go_loop [7, 8] (fun x v => ∃ t : Nat, x = .int .u64 (Rnd.mix (Rnd.ny t)) ∧ v = .int .u64 (Rnd.ny t) ∧ t < 18446744073709551616 ∧ Rnd.draw (Rnd.rest n) t = Rnd.draw (Rnd.rest n) s) (fun _ v => Rnd.left2 (intOf v).toNat)
  case atStart => exact ⟨s, rfl, rfl, hs, rfl⟩
  case round =>
    obtain ⟨t, rfl, rfl, ht, hd⟩ := hrel
    have HD := Lib.hid hd
    clear hd
    have hm := Rnd.mix_lt (Rnd.ny t)
    have hmod : (Rnd.mix (Rnd.ny t) : Int) % (n : Int) < n := Int.emod_lt_of_pos _ (by omega)
    have hmod0 : 0 ≤ (Rnd.mix (Rnd.ny t) : Int) % (n : Int) := Int.emod_nonneg _ (by omega)
    by_cases h : Rnd.mix (Rnd.ny t) < 18446744073709551616 - Rnd.rest n
    · have hy : Rnd.draw (Rnd.rest n) t = (Rnd.mix (Rnd.ny t), Rnd.ny t) := Rnd.draw_yes ht (by omega) h
      have HY := Lib.hid hy
      have hc : ¬ (18446744073709551615 - (Rnd.rest n : Int) < (Rnd.mix (Rnd.ny t) : Int)) := by omega
      clear hy h
      by_cases h0 : 0 < Rnd.rest n
      · have hc0 : (0 : Int) < (Rnd.rest n : Int) := by omega
        go_wp2
        go_ret2
        refine ⟨ret2i ?_ ?_, rfl⟩
        · unfold Rnd.bel; rw [← HD.out, HY.out]; exact (Int.natCast_emod _ _).symm
        · unfold Rnd.bel; rw [← HD.out, HY.out]
      · have hc0 : ¬ (0 : Int) < (Rnd.rest n : Int) := by omega
        clear hc
        go_wp2
        go_ret2
        refine ⟨ret2i ?_ ?_, rfl⟩
        · unfold Rnd.bel; rw [← HD.out, HY.out]; exact (Int.natCast_emod _ _).symm
        · unfold Rnd.bel; rw [← HD.out, HY.out]
    · have hy : Rnd.draw (Rnd.rest n) t = Rnd.draw (Rnd.rest n) (Rnd.ny t) := Rnd.draw_no ht (by omega) h
      have HY := Lib.hid hy
      have hn0 : Rnd.ny t ≠ 0 := by intro h0; rw [h0, Rnd.mix_zero] at h; omega
      have h0 : ¬ Rnd.rest n = 0 := by intro h0; omega
      have hc0 : (0 : Int) < (Rnd.rest n : Int) := by omega
      have hc : 18446744073709551615 - (Rnd.rest n : Int) < (Rnd.mix (Rnd.ny t) : Int) := by omega
      have HL : Rnd.left2 (Rnd.ny (Rnd.ny t)) < Rnd.left2 (Rnd.ny t) := Rnd.left2_lt _ (Rnd.ny_lt t) hn0
      clear hy h h0
      have hny := Rnd.ny_lt t
      go_wp2_with (go_at_call 59; refine (next_r (Rnd.ny t) _).mono ?_; rintro e w' ⟨rfl, rfl⟩)
      go_round
      case rel => exact ⟨Rnd.ny t, rfl, rfl, Rnd.ny_lt _, by rw [← HY.out, HD.out]⟩
      case measure => simpa only [intOf, Int.toNat_natCast] using HL


/-- random.Below and the reference's Below: of a number outside -/
theorem below_p_no (s : Nat) (n : Int) (w : World) (h : n < 1 ∨ 2147483648 < n) :
    Calls Try.prog 50 #[.int .u64 s, .int .i64 n] w fun e w' => e = .returned (.tuple #[.int .i64 0, .int .u64 0, .int .i64 2]) ∧ w = w' := by
  rcases h with h | h
  · go_enter Try.func50, Try.ntmps50
    go_wp2
    go_ret3
    exact ⟨rfl, rfl⟩
  · have h' : ¬ n < 1 := by omega
    go_enter Try.func50, Try.ntmps50
    go_wp2
    go_ret3
    exact ⟨rfl, rfl⟩
theorem below_r_no (s : Nat) (n : Int) (w : World) (h : n < 1 ∨ 2147483648 < n) :
    Calls Try.prog 34 #[.int .u64 s, .int .i64 n] w fun e w' => e = .returned (.tuple #[.int .i64 0, .int .u64 0, .int .i64 2]) ∧ w = w' := by
  rcases h with h | h
  · go_enter Try.func34, Try.ntmps34
    go_wp2
    go_ret3
    exact ⟨rfl, rfl⟩
  · have h' : ¬ n < 1 := by omega
    go_enter Try.func34, Try.ntmps34
    go_wp2
    go_ret3
    exact ⟨rfl, rfl⟩
theorem below_p (s n : Nat) (w : World) (hs : s < 18446744073709551616) (hn : 1 ≤ n) (hn2 : n ≤ 2147483648) :
    Calls Try.prog 50 #[.int .u64 s, .int .i64 n] w fun e w' => e = .returned (.tuple #[.int .i64 (Rnd.bel s n).1, .int .u64 (Rnd.bel s n).2, .int .i64 0]) ∧ w = w' := by
  have h1 : ¬ (n : Int) < 1 := by omega
  have h2 : ¬ (2147483648 : Int) < (n : Int) := by omega
  go_enter Try.func50, Try.ntmps50
  go_wp2_with (go_at_call 58; refine (bel_p s n _ hs hn hn2).mono ?_; rintro e w' ⟨rfl, rfl⟩)
  go_ret3
  exact ⟨rfl, rfl⟩
theorem below_r (s n : Nat) (w : World) (hs : s < 18446744073709551616) (hn : 1 ≤ n) (hn2 : n ≤ 2147483648) :
    Calls Try.prog 34 #[.int .u64 s, .int .i64 n] w fun e w' => e = .returned (.tuple #[.int .i64 (Rnd.bel s n).1, .int .u64 (Rnd.bel s n).2, .int .i64 0]) ∧ w = w' := by
  have h1 : ¬ (n : Int) < 1 := by omega
  have h2 : ¬ (2147483648 : Int) < (n : Int) := by omega
  go_enter Try.func34, Try.ntmps34
  go_wp2_with (go_at_call 51; refine (bel_r s n _ hs hn hn2).mono ?_; rintro e w' ⟨rfl, rfl⟩)
  go_ret3
  exact ⟨rfl, rfl⟩
end Go.Proofs.Ytpoppadihbgbgaa
