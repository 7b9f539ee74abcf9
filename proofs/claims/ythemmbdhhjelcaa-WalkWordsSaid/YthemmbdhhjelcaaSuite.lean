/- The walks of walk.Suite and of the reference's Suite. -/
import Derived.Test.YthemmbdhhjelcaaParts
import Derived.Test.YthemmbdhhjelcaaMat
namespace Go.Proofs.Ythemmbdhhjelcaa
open Go.RowKit

namespace Rnd
/-- the words of a suite -/
noncomputable def su (s k len n : Nat) : List (List Int) := (List.range n).map fun j => wl (st s k (j * len)) k len
theorem su_len (s k len n : Nat) : (su s k len n).length = n := by simp [su]
theorem su_succ (s k len n : Nat) : su s k len (n + 1) = su s k len n ++ [wl (st s k (n * len)) k len] := by simp [su, List.range_succ]
theorem su_get (s k len n : Nat) {j : Nat} (hj : j < n) : (su s k len n).getD j [] = wl (st s k (j * len)) k len := by
  rw [su, List.getD_eq_getElem?_getD, List.getElem?_map, List.getElem?_range hj]; rfl
theorem st_mul (s k len n : Nat) : st (st s k (n * len)) k len = st s k ((n + 1) * len) := by
  rw [← st_add, Nat.succ_mul]
end Rnd
theorem info32 : (Try.prog.info? 32).map (fun i => (i.zero, i.size, i.bytes)) = some (some (.slice none 0 0), 1, 24) := by kernel_rfl

theorem wrong_yes (c l : Int) (w : World) (h : c < 0 ∨ 10000 < c ∨ l < 0 ∨ 1024 < l) : Calls Try.prog 41 #[.int .i64 c, .int .i64 l] w fun e w' => e = .returned (.bool true) ∧ w = w' := by
  by_cases h1 : c < 0
  · go_enter Try.func41, Try.ntmps41
    go_wp2
    go_ret
    exact ⟨rfl, rfl⟩
  by_cases h2 : 10000 < c
  · go_enter Try.func41, Try.ntmps41
    go_wp2
    go_ret
    exact ⟨rfl, rfl⟩
  by_cases h3 : l < 0
  · go_enter Try.func41, Try.ntmps41
    go_wp2
    go_ret
    exact ⟨rfl, rfl⟩
  have h4 : 1024 < l := by omega
  go_enter Try.func41, Try.ntmps41
  go_wp2
  go_ret
  exact ⟨rfl, rfl⟩
theorem wrong_no (c l : Int) (w : World) (h1 : 0 ≤ c) (h2 : c ≤ 10000) (h3 : 0 ≤ l) (h4 : l ≤ 1024) : Calls Try.prog 41 #[.int .i64 c, .int .i64 l] w fun e w' => e = .returned (.bool false) ∧ w = w' := by
  go_enter Try.func41, Try.ntmps41
  go_wp2
  go_ret
  exact ⟨ret_b (by simp; omega), rfl⟩
theorem sized_no (c l : Int) (w : World) (h : c < 0 ∨ 10000 < c ∨ l < 0 ∨ 1024 < l) : Calls Try.prog 42 #[.int .i64 c, .int .i64 l] w fun e w' => e = .returned (.bool false) ∧ w = w' := by
  by_cases h1 : c < 0
  · go_enter Try.func42, Try.ntmps42
    go_wp2
    go_ret
    exact ⟨rfl, rfl⟩
  by_cases h2 : 10000 < c
  · go_enter Try.func42, Try.ntmps42
    go_wp2
    go_ret
    exact ⟨rfl, rfl⟩
  by_cases h3 : l < 0
  · go_enter Try.func42, Try.ntmps42
    go_wp2
    go_ret
    exact ⟨rfl, rfl⟩
  have h4 : 1024 < l := by omega
  go_enter Try.func42, Try.ntmps42
  go_wp2
  go_ret
  exact ⟨ret_b (by simp; omega), rfl⟩
theorem sized_yes (c l : Int) (w : World) (h1 : 0 ≤ c) (h2 : c ≤ 10000) (h3 : 0 ≤ l) (h4 : l ≤ 1024) : Calls Try.prog 42 #[.int .i64 c, .int .i64 l] w fun e w' => e = .returned (.bool true) ∧ w = w' := by
  go_enter Try.func42, Try.ntmps42
  go_wp2
  go_ret
  exact ⟨rfl, rfl⟩

set_option maxHeartbeats 400000 in
theorem suite_p_no (s : Nat) (k c l : Int) (w : World) (h : k < 1 ∨ 64 < k ∨ c < 0 ∨ 10000 < c ∨ l < 0 ∨ 1024 < l) :
    Calls Try.prog 29 #[.int .u64 s, .int .i64 k, .int .i64 c, .int .i64 l] w fun e w' => e = .returned (.tuple #[.slice none 0 0, .int .i64 2]) ∧ w = w' := by
  by_cases h1 : k < 1
  · go_enter Try.func29, Try.ntmps29
    go_wp2
    go_ret2
    exact ⟨rfl, rfl⟩
  by_cases h2 : 64 < k
  · go_enter Try.func29, Try.ntmps29
    go_wp2
    go_ret2
    exact ⟨rfl, rfl⟩
  have h3 : c < 0 ∨ 10000 < c ∨ l < 0 ∨ 1024 < l := by omega
  clear h
  go_enter Try.func29, Try.ntmps29
  go_wp2_with (go_at_call 41; refine (wrong_yes c l _ h3).mono ?_; rintro e w' ⟨rfl, rfl⟩)
  go_ret2
  exact ⟨rfl, rfl⟩
set_option maxHeartbeats 400000 in
theorem suite_r_no (s : Nat) (k c l : Int) (w : World) (h : k < 1 ∨ 64 < k ∨ c < 0 ∨ 10000 < c ∨ l < 0 ∨ 1024 < l) :
    Calls Try.prog 30 #[.int .u64 s, .int .i64 k, .int .i64 c, .int .i64 l] w fun e w' => e = .returned (.tuple #[.slice none 0 0, .int .i64 2]) ∧ w = w' := by
  by_cases h1 : k < 1
  · go_enter Try.func30, Try.ntmps30
    go_wp2
    go_ret2
    exact ⟨rfl, rfl⟩
  by_cases h2 : 64 < k
  · go_enter Try.func30, Try.ntmps30
    go_wp2
    go_ret2
    exact ⟨rfl, rfl⟩
  have h3 : c < 0 ∨ 10000 < c ∨ l < 0 ∨ 1024 < l := by omega
  clear h
  go_enter Try.func30, Try.ntmps30
  go_wp2_with (go_at_call 42; refine (sized_no c l _ h3).mono ?_; rintro e w' ⟨rfl, rfl⟩)
  go_ret2
  exact ⟨rfl, rfl⟩

theorem word_rI (s : Nat) (x y : Int) (k n : Nat) (w : World) (hx : x = k) (hy : y = n) (hs : s < 18446744073709551616) (hk1 : 1 ≤ k) (hk2 : k ≤ 1024) (hn : n ≤ 1024) :
    Calls Try.prog 25 #[.int .u64 s, .int .i64 x, .int .i64 y] w fun e w' => ∃ A c, e = .returned (.tuple #[.slice A n c, .int .u64 (Rnd.st s k n), .int .i64 0]) ∧ w'.ownsRow w.heap.size 3 1 (.slice A n c) n ((Rnd.wl s k n).map (.int .i64)) ∧ Below w.heap.size w w' := by
  subst hx; subst hy
  refine (word_r s k n w hs hk1 hk2 hn).mono fun e w' ⟨v, he, ho, hb⟩ => ?_
  obtain ⟨A, c, rfl⟩ := own_slice ho
  exact ⟨A, c, he, ho, hb⟩

set_option maxHeartbeats 1000000 in
theorem suite_p (s k n len : Nat) (w : World) (hs : s < 18446744073709551616) (hk1 : 1 ≤ k) (hk2 : k ≤ 64) (hn : n ≤ 10000) (hl : len ≤ 1024) :
    Calls Try.prog 29 #[.int .u64 s, .int .i64 k, .int .i64 n, .int .i64 len] w fun e w' => ∃ A c, e = .returned (.tuple #[.slice A n c, .int .i64 0]) ∧ OwnM w' w.heap.size 32 3 (.slice A n c) (Rnd.su s k len n) ∧ Below w.heap.size w w' := by
  have a1 : ¬ (k : Int) < 1 := by omega
  have a2 : ¬ (64 : Int) < k := by omega
  obtain ⟨i0, hi, hz0, hz1, hz2⟩ := info_parts info32
  go_enter Try.func29, Try.ntmps29
  go_wp2_with (first | (go_at_call 41; refine (wrong_no n len _ (by omega) (by omega) (by omega) (by omega)).mono ?_; rintro e w' ⟨rfl, rfl⟩) | (refine wpList_make_own _ rfl _ _ 50 rfl w.heap.size 32 i0 _ 1 Try.underlying50 hi hz0 hz1 .i64 .i64 n n rfl rfl rfl (by rw [hz2]; omega) (by unfold maxLen; omega) (Nat.le_refl _) ?_; intro w1 hown0 hg0))
  have hb0 : Below w.heap.size w w1 := (Below.refl _ _).grown hg0 (Nat.le_refl _) (fun k hk => by cases hk)
  obtain ⟨C0, c0, hv0⟩ : ∃ (A : Option Addr) (c : Nat), (Value.slice (some ⟨w.heap.size, 0, none⟩) 0 n) = .slice A 0 c := ⟨_, _, rfl⟩
  go_loopw [0, 10, 28] (fun u v i wr => ∃ (j : Nat) (A : Option Addr) (c : Nat), j ≤ n ∧ i = .int .i64 j ∧ u = .int .u64 (Rnd.st s k (j * len)) ∧ v = .slice A j c ∧ OwnM wr w.heap.size 32 3 (.slice A j c) (Rnd.su s k len j) ∧ Below w.heap.size w wr) (fun _ _ i _ => n - (intOf i).toNat)
  case atStart => exact ⟨0, _, _, Nat.zero_le _, rfl, by simp [Rnd.st], rfl, ⟨[], hown0, fun i hi => by simp [Rnd.su] at hi⟩, hb0⟩
  case round =>
    obtain ⟨j, A, c, hj, rfl, rfl, rfl, hown, hbel⟩ := hrel
    have hsl := Rnd.st_lt s k hs (j * len)
    by_cases h : j < n
    · have HM := Lib.hid (Rnd.st_mul s k len j)
      clear hv0
      go_wp2_with fail
      refine (word_pI (Rnd.st s k (j * len)) _ _ k len _ rfl rfl hsl hk1 (by omega) hl).mono ?_
      rintro e w2 ⟨B, d, rfl, ho2, hb2⟩
      rw [HM.out]
      have hown2 := hown.keep hb2
      have hbel2 := below_seq hbel hb2
      go_wp2_with (at_builtin; refine appM rfl (.tmp 42) (.tmp 44) 50 32 3 rfl Try.underlying50 info32 (by decide) rfl rfl hown2 (Rnd.wl_len _ _ _) (own_mono ho2 hbel.size) (by rw [Rnd.su_len]; omega) hbel2.size ?_; intro v' w' hown' hb' hsz'; obtain ⟨A', c', rfl⟩ := hown'.slice)
      go_roundw
      case rel =>
        refine ⟨j + 1, A', c', by omega, by go_num, rfl, ?_, ?_, hb' _ _ (Nat.le_refl _) hbel2⟩
        · rw [Rnd.su_len]
        · rw [List.length_append, Rnd.su_len] at hown'
          rw [Rnd.su_succ]; exact hown'
      case measure => simp [intOf]; omega
    · obtain rfl : j = n := by omega
      go_wp2
      go_ret2
      exact ⟨_, _, rfl, hown, hbel⟩

set_option maxHeartbeats 1000000 in
theorem suite_r (s k n len : Nat) (w : World) (hs : s < 18446744073709551616) (hk1 : 1 ≤ k) (hk2 : k ≤ 64) (hn : n ≤ 10000) (hl : len ≤ 1024) :
    Calls Try.prog 30 #[.int .u64 s, .int .i64 k, .int .i64 n, .int .i64 len] w fun e w' => ∃ A c, e = .returned (.tuple #[.slice A n c, .int .i64 0]) ∧ OwnM w' w.heap.size 32 3 (.slice A n c) (Rnd.su s k len n) ∧ Below w.heap.size w w' := by
  have a1 : ¬ (k : Int) < 1 := by omega
  have a2 : ¬ (64 : Int) < k := by omega
  go_enter Try.func30, Try.ntmps30
  go_wp2_with (go_at_call 42; refine (sized_yes n len _ (by omega) (by omega) (by omega) (by omega)).mono ?_; rintro e w' ⟨rfl, rfl⟩)
  go_loopw [0, 10, 11] (fun u v i wr => ∃ (j : Nat) (A : Option Addr) (c : Nat), j ≤ n ∧ i = .int .i64 j ∧ u = .int .u64 (Rnd.st s k (j * len)) ∧ v = .slice A j c ∧ OwnM wr w.heap.size 32 3 (.slice A j c) (Rnd.su s k len j) ∧ Below w.heap.size w wr) (fun _ _ i _ => n - (intOf i).toNat)
  case atStart => exact ⟨0, none, 0, Nat.zero_le _, rfl, by simp [Rnd.st], rfl, OwnM.nil _ _ _ _, Below.refl _ _⟩
  case round =>
    obtain ⟨j, A, c, hj, rfl, rfl, rfl, hown, hbel⟩ := hrel
    have hsl := Rnd.st_lt s k hs (j * len)
    by_cases h : j < n
    · have HM := Lib.hid (Rnd.st_mul s k len j)
      go_wp2_with fail
      refine (word_rI (Rnd.st s k (j * len)) _ _ k len _ rfl rfl hsl hk1 (by omega) hl).mono ?_
      rintro e w2 ⟨B, d, rfl, ho2, hb2⟩
      rw [HM.out]
      have hown2 := hown.keep hb2
      have hbel2 := below_seq hbel hb2
      go_wp2_with (at_builtin; refine appM rfl (.tmp 40) (.tmp 42) 50 32 3 rfl Try.underlying50 info32 (by decide) rfl rfl hown2 (Rnd.wl_len _ _ _) (own_mono ho2 hbel.size) (by rw [Rnd.su_len]; omega) hbel2.size ?_; intro v' w' hown' hb' hsz'; obtain ⟨A', c', rfl⟩ := hown'.slice)
      go_roundw
      case rel =>
        refine ⟨j + 1, A', c', by omega, by go_num, rfl, ?_, ?_, hb' _ _ (Nat.le_refl _) hbel2⟩
        · rw [Rnd.su_len]
        · rw [List.length_append, Rnd.su_len] at hown'
          rw [Rnd.su_succ]; exact hown'
      case measure => simp [intOf]; omega
    · obtain rfl : j = n := by omega
      go_wp2
      go_ret2
      exact ⟨_, _, rfl, hown, hbel⟩

/-! ### R10.Same at equal lists -/
set_option maxHeartbeats 1000000 in
theorem same10 (A B : Option Addr) (c d : Nat) (xss : List (List Int)) (w : World) (ha : RdM .i64 w A xss) (hb : RdM .i64 w B xss) :
    Calls Try.prog 31 #[.slice A xss.length c, .slice B xss.length d] w fun e w' => e = .returned (.bool true) ∧ ∃ n, w' = w.drewN n := by
  have mx := ha.1
  go_enter Try.func31, Try.ntmps31
  go_wp2
  go_loopw [5] (fun i wr => ∃ j m : Nat, j ≤ xss.length ∧ i = .int .i64 j ∧ wr = w.drewN m) (fun i _ => xss.length - (intOf i).toNat)
  case atStart => exact ⟨0, 0, Nat.zero_le _, rfl, rfl⟩
  case round =>
    obtain ⟨j, m, hj, rfl, rfl⟩ := hrel
    by_cases h : j < xss.length
    · obtain ⟨ad, C, e, xs, rfl, hx, cx, rx⟩ := ha.at_ h
      obtain ⟨ad2, D, f, ys, rfl, hy, cy, ry⟩ := hb.at_ h
      obtain rfl : xs = ys := hx.symm.trans hy
      have ml := rx.1
      have b1 : ((xs.length : Int) != (xs.length : Int)) = false := by simp
      clear hx hy
      go_wp2_with fail
      go_quiet (fail)
      go_wp2_with fail
      go_loopw [6] (fun i wr => ∃ a m' : Nat, a ≤ xs.length ∧ i = .int .i64 a ∧ wr = w.drewN m') (fun i _ => xs.length - (intOf i).toNat)
      case atStart => exact ⟨0, _, Nat.zero_le _, rfl, by first | rfl | exact World.drewN_drewN ..⟩
      case round =>
        obtain ⟨a, m', ha', rfl, rfl⟩ := hrel
        by_cases hax : a < xs.length
        · obtain ⟨ad3, t, rfl, ht, ct⟩ := rx.at_ hax
          obtain ⟨ad4, u, rfl, hu, cu⟩ := ry.at_ hax
          obtain rfl : t = u := ht.symm.trans hu
          have b2 : (t != t) = false := by simp
          clear ht hu
          go_wp2_with fail
          go_quiet (fail)
          go_wp2
          go_roundw
          case rel => exact ⟨a + 1, _, by omega, by go_num, rfl⟩
          case measure => simp [intOf] <;> omega
        · obtain rfl : a = xs.length := by omega
          go_wp2
          go_roundw
          case rel => exact ⟨j + 1, _, by omega, by go_num, rfl⟩
          case measure => simp [intOf] <;> omega
    · obtain rfl : j = xss.length := by omega
      go_wp2
      go_ret
      exact ⟨rfl, _, rfl⟩
end Go.Proofs.Ythemmbdhhjelcaa
