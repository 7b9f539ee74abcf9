/- The walks of the two Shuffles, and of Shuffle and Word at numbers outside. -/
import Derived.Test.YthemmbdhhjelcaaWord
import Derived.RegionTactic
import Derived.BigRegion
namespace Go.Proofs.Ythemmbdhhjelcaa
open Go.RowKit
namespace Rnd
def swp (f : Nat → Nat) (i k : Nat) : Nat → Nat := fun j => if j = k then f i else if j = i then f k else f j
/-- the permutation and the state after t steps of a shuffle of n -/
noncomputable def shv (n s : Nat) : Nat → (Nat → Nat) × Nat
  | 0 => (fun j => j, s)
  | t + 1 => (swp (shv n s t).1 (n - 1 - t) (bel (shv n s t).2 (n - t)).1, (bel (shv n s t).2 (n - t)).2)
noncomputable def shl (n s : Nat) : List Int := (List.range n).map fun i => ((shv n s (n - 1)).1 i : Int)
noncomputable def shs (n s : Nat) : Nat := (shv n s (n - 1)).2
theorem shv_lt (n s : Nat) (hs : s < 18446744073709551616) : ∀ t, (shv n s t).2 < 18446744073709551616
  | 0 => hs
  | _ + 1 => bel2_lt _ _
theorem shv_step {n s t i k x y : Nat} (hn : n - t = i + 1) (hk : k = (bel (shv n s t).2 (i + 1)).1) (hx : x = (shv n s t).1 i) (hy : y = (shv n s t).1 k) :
    (∀ m, (shv n s (t + 1)).1 m = if m = k then x else if m = i then y else (shv n s t).1 m) ∧ (bel (shv n s t).2 (i + 1)).2 = (shv n s (t + 1)).2 := by
  have e : n - 1 - t = i := by omega
  refine ⟨fun m => ?_, by rw [shv, hn]⟩
  rw [shv, hn, ← hk, e, hx, hy]; rfl
end Rnd
theorem bel_pI (s : Nat) (n : Int) (w : World) (m : Nat) (hm : n = m) (hs : s < 18446744073709551616) (hn : 1 ≤ m) (hn2 : m ≤ 2147483648) :
    Calls Try.prog 38 #[.int .u64 s, .int .i64 n] w fun e w' => e = .returned (.tuple #[.int .i64 (Rnd.bel s m).1, .int .u64 (Rnd.bel s m).2]) ∧ w = w' := by
  subst hm; exact bel_p s m w hs hn hn2
theorem bel_rI (s : Nat) (n : Int) (w : World) (m : Nat) (hm : n = m) (hs : s < 18446744073709551616) (hn : 1 ≤ m) (hn2 : m ≤ 2147483648) :
    Calls Try.prog 39 #[.int .u64 s, .int .i64 n] w fun e w' => e = .returned (.tuple #[.int .i64 (Rnd.bel s m).1, .int .u64 (Rnd.bel s m).2]) ∧ w = w' := by
  subst hm; exact bel_r s m w hs hn hn2

set_option maxHeartbeats 400000 in
theorem shuffle_p (s n : Nat) (w : World) (hs : s < 18446744073709551616) (hn : n ≤ 10000) :
    Calls Try.prog 19 #[.int .u64 s, .int .i64 n] w fun e w' => ∃ v, e = .returned (.tuple #[v, .int .u64 (Rnd.shs n s), .int .i64 0]) ∧ w'.ownsRow w.heap.size 3 1 v n ((Rnd.shl n s).map (.int .i64)) ∧ Below w.heap.size w w' := by
  have a3 : ¬ (n : Int) < 0 := by omega
  have a4 : ¬ (10000 : Int) < n := by omega
  have hmk := run_make_row' (P := Try.prog) 32 3 (.int .i64 0) 8 Try.underlying32 info3 rfl .i64 .i64 n (by omega) (by omega)
  go_enter Try.func19, Try.ntmps19
  go_wp2
  go_loopw [21] (fun i wr => ∃ j : Nat, j ≤ n ∧ i = .int .i64 j ∧ wr.rowIs w.heap.size 3 n (fun m => .int .i64 (if m < j then (m : Int) else 0)) ∧ Below w.heap.size w wr) (fun i _ => n - (intOf i).toNat)
  case atStart => exact ⟨0, Nat.zero_le _, rfl, (World.rowIs_made w _ n 3).congr (fun i _ => by simp), (Below.refl _ _).alloc (Nat.le_refl _) _⟩
  case round =>
    obtain ⟨j, hj, rfl, hrow, hbel⟩ := hrel
    by_cases h : j < n
    · have hc := hrow.cell h
      have hf := hrow.frozen j
      go_wp2
      go_roundw
      case rel =>
        refine ⟨j + 1, by omega, by go_num, (hrow.set j _).congr (fun i hi => ?_), hbel.setCell (Nat.le_refl _) _⟩
        by_cases e : i = j
        · subst e; simp
        · have : i < j ↔ i < j + 1 := by omega
          simp [e, this]
      case measure => simp [intOf] <;> omega
    · have hrow := hrow.congr (g := fun m => .int .i64 (m : Int)) (fun i hi => by rw [if_pos (by omega)])
      clear hmk
      go_wp2
      obtain ⟨wo, rfl⟩ : ∃ wo : World, wo = wr := ⟨_, rfl⟩
      go_loopw [0, 9] (fun u i wr => ∃ (t : Nat) (ii : Int), t + 1 ≤ max n 1 ∧ ii = (n : Int) - 1 - t ∧ i = .int .i64 ii ∧ u = .int .u64 (Rnd.shv n s t).2 ∧ wr.rowIs w.heap.size 3 n (fun m => .int .i64 ((Rnd.shv n s t).1 m : Int)) ∧ Below w.heap.size w wr) (fun _ i _ => (intOf i).toNat)
      case atStart => exact ⟨0, _, by omega, by simp, rfl, rfl, hrow, hbel⟩
      case round =>
        clear hrow hbel
        obtain ⟨t, ii, ht, hii, rfl, rfl, hrow, hbel⟩ := hrel
        have hsl := Rnd.shv_lt n s hs t
        by_cases h : 0 < ii
        · obtain ⟨i, rfl⟩ : ∃ i : Nat, ii = i := ⟨ii.toNat, by omega⟩
          have hi : i < n := by omega
          have hci := hrow.cell hi
          have hcf := hrow.frozen i
          have hnt : n - t = i + 1 := by omega
          obtain ⟨k, hk⟩ : ∃ k, k = (Rnd.bel (Rnd.shv n s t).2 (i + 1)).1 := ⟨_, rfl⟩
          have hkl : k < i + 1 := hk ▸ Rnd.bel_lt (Rnd.shv n s t).2 (i + 1) (by omega)
          obtain ⟨x, hx⟩ : ∃ x, x = (Rnd.shv n s t).1 i := ⟨_, rfl⟩
          obtain ⟨y, hy⟩ : ∃ y, y = (Rnd.shv n s t).1 k := ⟨_, rfl⟩
          rw [← hx] at hci
          have hck := hrow.cell (i := k) (by omega)
          have hckf := hrow.frozen k
          rw [← hy] at hck
          have hrow2 := (hrow.set i (.int .i64 y)).set k (.int .i64 x)
          have HK := Lib.hid hk
          have HX := Lib.hid hx
          have HY := Lib.hid hy
          have HN := Lib.hid hnt
          have HI := Lib.hid hii
          have hi1 : t + 1 + i ≤ n := by omega
          have hi2 : n ≤ t + 1 + i := by omega
          clear hii hk hx hy hnt
          go_wp2_with (go_at_call 38; refine (bel_pI _ _ _ (i + 1) (by omega) hsl (by omega) (by omega)).mono ?_; rintro e w' ⟨rfl, rfl⟩; rw [← HK.out])
          obtain ⟨hstep, hfin2⟩ := Rnd.shv_step HN.out HK.out HX.out HY.out
          have hfin : ∀ wz : World, (wz.rowIs w.heap.size 3 n fun j => if j = k then .int .i64 (x : Int) else if j = i then .int .i64 (y : Int) else .int .i64 ((Rnd.shv n s t).1 j : Int)) →
              wz.rowIs w.heap.size 3 n fun m => .int .i64 ((Rnd.shv n s (t + 1)).1 m : Int) := fun wz hz => hz.congr fun m _ => by
            rw [hstep m]; split
            · rfl
            · split <;> rfl
          clear hstep
          have HF := Lib.hid hfin
          have HG := Lib.hid hfin2
          clear hfin hfin2
          by_cases hik : k = i
          · have hxy : x = y := by rw [HX.out, HY.out, hik]
            subst hik
            subst hxy
            go_region
            all_goals go_wp2
            all_goals
              go_roundw
              case rel => exact ⟨t + 1, _, by omega, rfl, by have := HI.out; go_num, by rw [HG.out], HF.out _ hrow2.drew, ((hbel.setCell (Nat.le_refl _) _).setCell (Nat.le_refl _) _).drew⟩
              case measure => simp [intOf] <;> omega
          · have hc2 : (wr.setCell ⟨w.heap.size, i, none⟩ (.int .i64 y)).cell? ⟨w.heap.size, k, none⟩ = some (.int .i64 y) := by
              rw [World.cell?_setCell_other _ _ _ _ (by intro hh; injection hh with _ h2 _; first | exact hik h2 | exact hik h2.symm)]; exact hck
            go_region
            all_goals go_wp2
            all_goals
              go_roundw
              case rel => exact ⟨t + 1, _, by omega, rfl, by have := HI.out; go_num, by rw [HG.out], HF.out _ hrow2.drew, ((hbel.setCell (Nat.le_refl _) _).setCell (Nat.le_refl _) _).drew⟩
              case measure => simp [intOf] <;> omega
        · have ht' : n - 1 = t := by omega
          have hsh : (Rnd.shv n s t).2 = Rnd.shs n s := by rw [Rnd.shs, ht']
          have HS := Lib.hid hsh
          have HT := Lib.hid ht'
          clear ht' hii hsh
          go_wp2
          go_ret3
          refine ⟨_, ret3v (by rw [HS.out]) rfl, row_own_of hrow (Nat.le_refl _) (by omega) (by simp [Rnd.shl]) fun i u hu => ?_, hbel⟩
          rw [Rnd.shl, List.map_map] at hu
          obtain ⟨h1, rfl⟩ := range_get hu
          rw [HT.out]; rfl
set_option maxHeartbeats 400000 in
theorem shuffle_r (s n : Nat) (w : World) (hs : s < 18446744073709551616) (hn : n ≤ 10000) :
    Calls Try.prog 20 #[.int .u64 s, .int .i64 n] w fun e w' => ∃ v, e = .returned (.tuple #[v, .int .u64 (Rnd.shs n s), .int .i64 0]) ∧ w'.ownsRow w.heap.size 3 1 v n ((Rnd.shl n s).map (.int .i64)) ∧ Below w.heap.size w w' := by
  have a3 : ¬ (n : Int) < 0 := by omega
  have a4 : ¬ (10000 : Int) < n := by omega
  have hmk := run_make_row' (P := Try.prog) 32 3 (.int .i64 0) 8 Try.underlying32 info3 rfl .i64 .i64 n (by omega) (by omega)
  go_enter Try.func20, Try.ntmps20
  go_wp2
  go_loopw [8] (fun i wr => ∃ j : Nat, j ≤ n ∧ i = .int .i64 j ∧ wr.rowIs w.heap.size 3 n (fun m => .int .i64 (if m < j then (m : Int) else 0)) ∧ Below w.heap.size w wr) (fun i _ => n - (intOf i).toNat)
  case atStart => exact ⟨0, Nat.zero_le _, rfl, (World.rowIs_made w _ n 3).congr (fun i _ => by simp), (Below.refl _ _).alloc (Nat.le_refl _) _⟩
  case round =>
    obtain ⟨j, hj, rfl, hrow, hbel⟩ := hrel
    by_cases h : j < n
    · have hc := hrow.cell h
      have hf := hrow.frozen j
      go_wp2
      go_roundw
      case rel =>
        refine ⟨j + 1, by omega, by go_num, (hrow.set j _).congr (fun i hi => ?_), hbel.setCell (Nat.le_refl _) _⟩
        by_cases e : i = j
        · subst e; simp
        · have : i < j ↔ i < j + 1 := by omega
          simp [e, this]
      case measure => simp [intOf] <;> omega
    · have hrow := hrow.congr (g := fun m => .int .i64 (m : Int)) (fun i hi => by rw [if_pos (by omega)])
      clear hmk
      go_wp2
      obtain ⟨wo, rfl⟩ : ∃ wo : World, wo = wr := ⟨_, rfl⟩
      go_loopw [0, 9] (fun u i wr => ∃ (t : Nat) (ii : Int), t + 1 ≤ max n 1 ∧ ii = (n : Int) - 1 - t ∧ i = .int .i64 ii ∧ u = .int .u64 (Rnd.shv n s t).2 ∧ wr.rowIs w.heap.size 3 n (fun m => .int .i64 ((Rnd.shv n s t).1 m : Int)) ∧ Below w.heap.size w wr) (fun _ i _ => (intOf i).toNat)
      case atStart => exact ⟨0, _, by omega, by simp, rfl, rfl, hrow, hbel⟩
      case round =>
        clear hrow hbel
        obtain ⟨t, ii, ht, hii, rfl, rfl, hrow, hbel⟩ := hrel
        have hsl := Rnd.shv_lt n s hs t
        by_cases h : 0 < ii
        · obtain ⟨i, rfl⟩ : ∃ i : Nat, ii = i := ⟨ii.toNat, by omega⟩
          have hi : i < n := by omega
          have hci := hrow.cell hi
          have hcf := hrow.frozen i
          have hnt : n - t = i + 1 := by omega
          obtain ⟨k, hk⟩ : ∃ k, k = (Rnd.bel (Rnd.shv n s t).2 (i + 1)).1 := ⟨_, rfl⟩
          have hkl : k < i + 1 := hk ▸ Rnd.bel_lt (Rnd.shv n s t).2 (i + 1) (by omega)
          obtain ⟨x, hx⟩ : ∃ x, x = (Rnd.shv n s t).1 i := ⟨_, rfl⟩
          obtain ⟨y, hy⟩ : ∃ y, y = (Rnd.shv n s t).1 k := ⟨_, rfl⟩
          rw [← hx] at hci
          have hck := hrow.cell (i := k) (by omega)
          have hckf := hrow.frozen k
          rw [← hy] at hck
          have hrow2 := (hrow.set i (.int .i64 y)).set k (.int .i64 x)
          have HK := Lib.hid hk
          have HX := Lib.hid hx
          have HY := Lib.hid hy
          have HN := Lib.hid hnt
          have HI := Lib.hid hii
          have hi1 : t + 1 + i ≤ n := by omega
          have hi2 : n ≤ t + 1 + i := by omega
          clear hii hk hx hy hnt
          go_wp2_with (go_at_call 39; refine (bel_rI _ _ _ (i + 1) (by omega) hsl (by omega) (by omega)).mono ?_; rintro e w' ⟨rfl, rfl⟩; rw [← HK.out])
          obtain ⟨hstep, hfin2⟩ := Rnd.shv_step HN.out HK.out HX.out HY.out
          have hfin : ∀ wz : World, (wz.rowIs w.heap.size 3 n fun j => if j = k then .int .i64 (x : Int) else if j = i then .int .i64 (y : Int) else .int .i64 ((Rnd.shv n s t).1 j : Int)) →
              wz.rowIs w.heap.size 3 n fun m => .int .i64 ((Rnd.shv n s (t + 1)).1 m : Int) := fun wz hz => hz.congr fun m _ => by
            rw [hstep m]; split
            · rfl
            · split <;> rfl
          clear hstep
          have HF := Lib.hid hfin
          have HG := Lib.hid hfin2
          clear hfin hfin2
          by_cases hik : k = i
          · have hxy : x = y := by rw [HX.out, HY.out, hik]
            subst hik
            subst hxy
            go_region
            all_goals go_wp2
            all_goals
              go_roundw
              case rel => exact ⟨t + 1, _, by omega, rfl, by have := HI.out; go_num, by rw [HG.out], HF.out _ hrow2.drew, ((hbel.setCell (Nat.le_refl _) _).setCell (Nat.le_refl _) _).drew⟩
              case measure => simp [intOf] <;> omega
          · have hc2 : (wr.setCell ⟨w.heap.size, i, none⟩ (.int .i64 y)).cell? ⟨w.heap.size, k, none⟩ = some (.int .i64 y) := by
              rw [World.cell?_setCell_other _ _ _ _ (by intro hh; injection hh with _ h2 _; first | exact hik h2 | exact hik h2.symm)]; exact hck
            go_region
            all_goals go_wp2
            all_goals
              go_roundw
              case rel => exact ⟨t + 1, _, by omega, rfl, by have := HI.out; go_num, by rw [HG.out], HF.out _ hrow2.drew, ((hbel.setCell (Nat.le_refl _) _).setCell (Nat.le_refl _) _).drew⟩
              case measure => simp [intOf] <;> omega
        · have ht' : n - 1 = t := by omega
          have hsh : (Rnd.shv n s t).2 = Rnd.shs n s := by rw [Rnd.shs, ht']
          have HS := Lib.hid hsh
          have HT := Lib.hid ht'
          clear ht' hii hsh
          go_wp2
          go_ret3
          refine ⟨_, ret3v (by rw [HS.out]) rfl, row_own_of hrow (Nat.le_refl _) (by omega) (by simp [Rnd.shl]) fun i u hu => ?_, hbel⟩
          rw [Rnd.shl, List.map_map] at hu
          obtain ⟨h1, rfl⟩ := range_get hu
          rw [HT.out]; rfl

/-- a number outside -/
theorem shuffle_p_no (s : Nat) (n : Int) (w : World) (h : n < 0 ∨ 10000 < n) :
    Calls Try.prog 19 #[.int .u64 s, .int .i64 n] w fun e w' => e = .returned (.tuple #[.slice none 0 0, .int .u64 0, .int .i64 2]) ∧ w = w' := by
  rcases h with h | h
  · go_enter Try.func19, Try.ntmps19
    go_wp2
    go_ret3
    exact ⟨rfl, rfl⟩
  · have h' : ¬ n < 0 := by omega
    go_enter Try.func19, Try.ntmps19
    go_wp2
    go_ret3
    exact ⟨rfl, rfl⟩

/-- a number outside -/
theorem shuffle_r_no (s : Nat) (n : Int) (w : World) (h : n < 0 ∨ 10000 < n) :
    Calls Try.prog 20 #[.int .u64 s, .int .i64 n] w fun e w' => e = .returned (.tuple #[.slice none 0 0, .int .u64 0, .int .i64 2]) ∧ w = w' := by
  rcases h with h | h
  · go_enter Try.func20, Try.ntmps20
    go_wp2
    go_ret3
    exact ⟨rfl, rfl⟩
  · have h' : ¬ n < 0 := by omega
    go_enter Try.func20, Try.ntmps20
    go_wp2
    go_ret3
    exact ⟨rfl, rfl⟩

theorem word_p_no (s : Nat) (k n : Int) (w : World) (h : k < 1 ∨ 1024 < k ∨ n < 0 ∨ 1024 < n) :
    Calls Try.prog 24 #[.int .u64 s, .int .i64 k, .int .i64 n] w fun e w' => e = .returned (.tuple #[.slice none 0 0, .int .u64 0, .int .i64 2]) ∧ w = w' := by
  by_cases h1 : k < 1
  · go_enter Try.func24, Try.ntmps24
    go_wp2
    go_ret3
    exact ⟨rfl, rfl⟩
  by_cases h2 : 1024 < k
  · go_enter Try.func24, Try.ntmps24
    go_wp2
    go_ret3
    exact ⟨rfl, rfl⟩
  by_cases h3 : n < 0
  · go_enter Try.func24, Try.ntmps24
    go_wp2
    go_ret3
    exact ⟨rfl, rfl⟩
  have h4 : 1024 < n := by omega
  go_enter Try.func24, Try.ntmps24
  go_wp2
  go_ret3
  exact ⟨rfl, rfl⟩

theorem word_r_no (s : Nat) (k n : Int) (w : World) (h : k < 1 ∨ 1024 < k ∨ n < 0 ∨ 1024 < n) :
    Calls Try.prog 25 #[.int .u64 s, .int .i64 k, .int .i64 n] w fun e w' => e = .returned (.tuple #[.slice none 0 0, .int .u64 0, .int .i64 2]) ∧ w = w' := by
  by_cases h1 : k < 1
  · go_enter Try.func25, Try.ntmps25
    go_wp2
    go_ret3
    exact ⟨rfl, rfl⟩
  by_cases h2 : 1024 < k
  · go_enter Try.func25, Try.ntmps25
    go_wp2
    go_ret3
    exact ⟨rfl, rfl⟩
  by_cases h3 : n < 0
  · go_enter Try.func25, Try.ntmps25
    go_wp2
    go_ret3
    exact ⟨rfl, rfl⟩
  have h4 : 1024 < n := by omega
  go_enter Try.func25, Try.ntmps25
  go_wp2
  go_ret3
  exact ⟨rfl, rfl⟩
end Go.Proofs.Ythemmbdhhjelcaa
