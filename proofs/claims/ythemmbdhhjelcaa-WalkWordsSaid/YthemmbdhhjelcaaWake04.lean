/- The examples of chapter 04 hold (awake). -/
import Derived.Test.YthemmbdhhjelcaaChoo
namespace Go.Proofs.Ythemmbdhhjelcaa
open Go.RowKit
namespace Rnd
theorem ny_0 : ny 0 = 11400714819323198485 := by rw [ny_def]; simp [ny0]
theorem mix_1 : mix 11400714819323198485 = 16294208416658607535 := by rw [mix_def]; simp [mix0, mz, mu, mx]
theorem rest_16 : rest 16 = 0 := by rw [rest_def]
theorem rest_2 : rest 2 = 0 := by rw [rest_def]
theorem bel_16 : bel 0 16 = (15, 11400714819323198485) := by
  have := draw_yes (rest := 0) (s := 0) (by omega) (by omega) (by rw [ny_0, mix_1]; omega)
  unfold bel; rw [rest_16, this, ny_0, mix_1]; simp
theorem bel_2 : bel 0 2 = (1, 11400714819323198485) := by
  have := draw_yes (rest := 0) (s := 0) (by omega) (by omega) (by rw [ny_0, mix_1]; omega)
  unfold bel; rw [rest_2, this, ny_0, mix_1]; simp
theorem shl_2 : shl 2 0 = [0, 1] := by
  simp [shl, shv, bel_2, swp, List.range_succ]
theorem chv_a : chv 0 [3, 0, 13] = (2, 11400714819323198485, 0) := by
  rw [chv_in (by simp) (by simp) (by simp)]
  simp [bel_16, pick]
theorem chv_b : chv 0 [1, -1] = (0, 0, 1) := chv_neg (by simp)
end Rnd
theorem rd_new (W : World) (n : Nat) (cs : List Int) (h : cs.length ≤ 1000000) (hn : n = W.heap.size) : Rd (W.alloc (.cells (cs.map (.int .i64)).toArray 3)) (some ⟨n, 0, none⟩) cs := by
  refine ⟨by omega, fun hp => ⟨_, rfl, fun i hi => ?_⟩⟩
  have : (⟨n, 0, none⟩ : Addr).add i = ⟨n, i, none⟩ := by unfold Addr.add; split <;> simp_all
  rw [this, World.cell?_alloc_at (hn := hn)]
  simp [hi]
theorem a_next (w : World) : Calls Try.prog 14 #[.int .u64 0] w fun e w' => e = .returned (.tuple #[.int .u64 16294208416658607535, .int .u64 11400714819323198485]) ∧ w = w' := by
  have := next_p 0 w
  rw [Rnd.ny_0, Rnd.mix_1] at this
  exact this
theorem a_below (w : World) : Calls Try.prog 16 #[.int .u64 0, .int .i64 16] w fun e w' => e = .returned (.tuple #[.int .i64 15, .int .u64 11400714819323198485, .int .i64 0]) ∧ w = w' := by
  have := below_p 0 16 w (by omega) (by omega) (by omega)
  rw [Rnd.bel_16] at this
  exact this
theorem a_shuf (w : World) : Calls Try.prog 19 #[.int .u64 0, .int .i64 2] w fun e w' => ∃ A c u, e = .returned (.tuple #[.slice A 2 c, .int .u64 u, .int .i64 0]) ∧ Rd w' A [0, 1] ∧ Below w.heap.size w w' := by
  refine (shuffle_p 0 2 w (by omega) (by omega)).mono fun e w' ⟨v, he, hown, hb⟩ => ?_
  obtain ⟨A, c, rfl⟩ := own_slice hown
  rw [Rnd.shl_2] at hown
  exact ⟨A, c, _, he, (own_rd (xs := [0, 1]) hown (by omega)).2, hb⟩
theorem a_choa (w : World) (A : Option Addr) (c : Nat) (h : Rd w A [3, 0, 13]) : Calls Try.prog 22 #[.int .u64 0, .slice A 3 c] w fun e w' => e = .returned (.tuple #[.int .i64 2, .int .u64 11400714819323198485, .int .i64 0]) ∧ w = w' := by
  have := choose_p 0 A c _ w h (by omega)
  rw [Rnd.chv_a] at this
  exact this
theorem a_chob (w : World) (A : Option Addr) (c : Nat) (h : Rd w A [1, -1]) : Calls Try.prog 22 #[.int .u64 0, .slice A 2 c] w fun e w' => e = .returned (.tuple #[.int .i64 0, .int .u64 0, .int .i64 1]) ∧ w = w' := by
  have := choose_p 0 A c _ w h (by omega)
  rw [Rnd.chv_b] at this
  exact this
set_option maxHeartbeats 400000 in
theorem awake4 (w : World) : Calls Try.prog 18 #[] w fun e w' => e = .returned (.bool true) ∧ Below w.heap.size w w' := by
  go_enter Try.func18, Try.ntmps18
  go_wp2_with (first | (go_at_call 14; refine (a_next _).mono ?_; rintro e w' ⟨rfl, rfl⟩) | (go_at_call 16; refine (a_below _).mono ?_; rintro e w' ⟨rfl, rfl⟩) | (go_at_call 19; refine (a_shuf _).mono ?_; rintro e w1 ⟨A, c, u, rfl, hrd, hb⟩))
  refine (a_choa _ _ _ (rd_new _ _ [3, 0, 13] (by simp) (by simp))).mono ?_
  rintro e w' ⟨rfl, rfl⟩
  go_wp2_with fail
  refine (a_chob _ _ _ (rd_new _ _ [1, -1] (by simp) (by simp))).mono ?_
  rintro e w' ⟨rfl, rfl⟩
  go_wp2_with fail
  refine (same_any A _ c _ [0, 1] [0, 1] _ (hrd.keep ((((Below.refl _ _).alloc (Nat.le_refl _) _).alloc (by simp) _).alloc (by simp; omega) _)) (rd_new _ _ [0, 1] (by simp) (by simp))).mono ?_
  rintro e w' ⟨rfl, n, rfl⟩
  go_wp2_with fail
  go_ret
  refine ⟨rfl, ?_⟩
  exact below_drewN' (((hb.alloc hb.size _).alloc (by have := hb.size; simp; omega) _).alloc (by have := hb.size; simp; omega) _) _
end Go.Proofs.Ythemmbdhhjelcaa
