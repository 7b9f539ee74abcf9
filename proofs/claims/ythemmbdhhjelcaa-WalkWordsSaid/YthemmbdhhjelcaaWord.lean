/- The walks of the two Words. -/
import Derived.Test.YthemmbdhhjelcaaSame
import Derived.Test.YthemmbdhhjelcaaNum
import Derived.StillTailTactics
namespace Go.Proofs.Ythemmbdhhjelcaa
open Go.RowKit
theorem info3 : (Try.prog.info? 3).map (fun i => (i.zero, i.size, i.bytes)) = some (some (.int .i64 0), 1, 8) := by kernel_rfl

set_option maxHeartbeats 400000 in
theorem word_p (s k n : Nat) (w : World) (hs : s < 18446744073709551616) (hk1 : 1 ≤ k) (hk2 : k ≤ 1024) (hn : n ≤ 1024) :
    Calls Try.prog 24 #[.int .u64 s, .int .i64 k, .int .i64 n] w fun e w' => ∃ v, e = .returned (.tuple #[v, .int .u64 (Rnd.st s k n), .int .i64 0]) ∧ w'.ownsRow w.heap.size 3 1 v n ((Rnd.wl s k n).map (.int .i64)) ∧ Below w.heap.size w w' := by
  have a1 : ¬ (k : Int) < 1 := by omega
  have a2 : ¬ (1024 : Int) < k := by omega
  have a3 : ¬ (n : Int) < 0 := by omega
  have a4 : ¬ (1024 : Int) < n := by omega
  have hmk := run_make_row' (P := Try.prog) 32 3 (.int .i64 0) 8 Try.underlying32 info3 rfl .i64 .i64 n (by omega) (by omega)
  go_enter Try.func24, Try.ntmps24
  go_wp2
  go_loopw [0, 28] (fun u i wr => ∃ j : Nat, j ≤ n ∧ i = .int .i64 j ∧ u = .int .u64 (Rnd.st s k j) ∧ wr.rowIs w.heap.size 3 n (fun m => .int .i64 (if m < j then (Rnd.dr s k m : Int) else 0)) ∧ Below w.heap.size w wr) (fun _ i _ => n - (intOf i).toNat)
  case atStart => exact ⟨0, Nat.zero_le _, rfl, rfl, (World.rowIs_made w _ n 3).congr (fun i _ => by simp), (Below.refl _ _).alloc (Nat.le_refl _) _⟩
  case round =>
    obtain ⟨j, hj, rfl, rfl, hrow, hbel⟩ := hrel
    by_cases h : j < n
    · have hc := hrow.cell h
      have hf := hrow.frozen j
      go_wp2_with (go_at_call 38; refine (bel_p (Rnd.st s k j) k _ (Rnd.st_lt s k hs j) hk1 (by omega)).mono ?_; rintro e w' ⟨rfl, rfl⟩)
      go_roundw
      case rel =>
        refine ⟨j + 1, by omega, by go_num, rfl, (hrow.set j _).congr (fun i hi => ?_), hbel.setCell (Nat.le_refl _) _⟩
        by_cases e : i = j
        · subst e; simp [Rnd.dr]
        · have : i < j ↔ i < j + 1 := by omega
          simp [e, this]
      case measure => simp [intOf]; omega
    · have : j = n := by omega
      subst this
      go_wp2
      go_ret3
      refine ⟨_, rfl, row_own_of hrow (Nat.le_refl _) (by omega) (by simp [Rnd.wl]) fun i u hu => ?_, hbel⟩
      rw [Rnd.wl, List.map_map] at hu
      obtain ⟨h1, rfl⟩ := range_get hu
      rw [if_pos h1]; rfl
set_option maxHeartbeats 400000 in
theorem word_r (s k n : Nat) (w : World) (hs : s < 18446744073709551616) (hk1 : 1 ≤ k) (hk2 : k ≤ 1024) (hn : n ≤ 1024) :
    Calls Try.prog 25 #[.int .u64 s, .int .i64 k, .int .i64 n] w fun e w' => ∃ v, e = .returned (.tuple #[v, .int .u64 (Rnd.st s k n), .int .i64 0]) ∧ w'.ownsRow w.heap.size 3 1 v n ((Rnd.wl s k n).map (.int .i64)) ∧ Below w.heap.size w w' := by
  have a1 : ¬ (k : Int) < 1 := by omega
  have a2 : ¬ (1024 : Int) < k := by omega
  have a3 : ¬ (n : Int) < 0 := by omega
  have a4 : ¬ (1024 : Int) < n := by omega
  go_enter Try.func25, Try.ntmps25
  go_wp2
  go_loopw [0, 9] (fun u v wr => ∃ j A c, j ≤ n ∧ v = .slice A j c ∧ u = .int .u64 (Rnd.st s k j) ∧ wr.ownsRow w.heap.size 3 1 (.slice A j c) j ((Rnd.wl s k j).map (.int .i64)) ∧ Below w.heap.size w wr) (fun _ v _ => n - lenOf v)
  case atStart => exact ⟨0, none, 0, Nat.zero_le _, rfl, rfl, World.ownsRow_nil _ _ _ _, Below.refl _ _⟩
  case round =>
    obtain ⟨j, A, c, hj, rfl, rfl, hown, hbel⟩ := hrel
    by_cases h : j < n
    · go_wp2_with (first | (go_at_call 39; refine (bel_r (Rnd.st s k j) k _ (Rnd.st_lt s k hs j) hk1 (by omega)).mono ?_; rintro e w' ⟨rfl, rfl⟩) | (at_builtin; refine app1 rfl (.tmp 36) (.tmp 38) 32 3 _ _ rfl Try.underlying32 info3 rfl (by decide) rfl rfl hown rfl (by omega) hbel.size ?_; intro v' w' hown' hb' hsz'; obtain ⟨A', c', rfl⟩ := own_slice hown'))
      go_roundw
      case rel => exact ⟨j + 1, A', c', by omega, rfl, rfl, by rw [Rnd.wl_succ, List.map_append]; exact hown', hb' _ _ (Nat.le_refl _) hbel⟩
      case measure => simp [lenOf]; omega
    · have : j = n := by omega
      subst this
      go_wp2
      go_ret3
      exact ⟨_, rfl, hown, hbel⟩
end Go.Proofs.Ythemmbdhhjelcaa
