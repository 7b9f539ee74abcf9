/- The reference's timer that times out next. -/
import Derived.Test.YtpcoddbkcelaoaaAftR
namespace Go.Proofs.Ytpcoddbkcelaoaa
open Go.RowKit

abbrev ints (f : Nat → Int) : Nat → Value := fun x => .int .i64 (f x)
set_option maxRecDepth 100000 in
set_option maxHeartbeats 4000000 in
theorem due_r (T : Nat) (cf : Tm.Cfg) (f : Nat → Int) (lim : Int) (g1 g2 c d : Nat) (w : World) (h4 : T ≤ 4) (h1 : w.rowIs g1 4 T (bits cf.2)) (h2 : w.rowIs g2 3 T (ints f)) :
    Calls Try.prog 34 #[.agg #[.int .i64 (cf.1 : Nat), .slice (some ⟨g1, 0, none⟩) T c, .slice (some ⟨g2, 0, none⟩) T d], .int .i64 lim] w fun r w' => r = .returned (.int .i64 (Tm.dueF cf f lim T)) ∧ Below w.heap.size w w' := by
  have H1 := Lib.hid h1
  have H2 := Lib.hid h2
  clear h1 h2
  go_enter Try.func34, Try.ntmps34
  go_upto_region 3 with fail
  generalize hwb : World.alloc _ _ = w0
  have BX : Hid (Blk w0 w.heap.size 90 #[.int .i64 (cf.1 : Nat), .slice (some ⟨g1, 0, none⟩) T c, .slice (some ⟨g2, 0, none⟩) T d]) := Lib.hid (by rw [← hwb]; exact Blk.new _ _ _)
  have HBL : Hid (Below w.heap.size w w0) := Lib.hid (by rw [← hwb]; exact (Below.refl _ _).alloc (Nat.le_refl _) _)
  replace H1 := Lib.hid (rowIs_keep H1.out HBL.out)
  replace H2 := Lib.hid (rowIs_keep H2.out HBL.out)
  clear hwb
  have k1 : w0.cell? ⟨w.heap.size, 1, none⟩ = some (.slice (some ⟨g1, 0, none⟩) T c) := BX.out.cell 1
  have k2 : w0.cell? ⟨w.heap.size, 2, none⟩ = some (.slice (some ⟨g2, 0, none⟩) T d) := BX.out.cell 2
  go_loopw [5, 6] (fun x y wr => ∃ j n : Nat, j ≤ T ∧ x = .int .i64 (Tm.dueF cf f lim j) ∧ y = .int .i64 j ∧ wr = w0.drewN n) (fun _ y _ => T - (intOf y).toNat)
  case atStart => exact ⟨0, 0, Nat.zero_le _, rfl, rfl, rfl⟩
  case round =>
    obtain ⟨j, n, hj, rfl, rfl, rfl⟩ := hrel
    by_cases hjT : j < T
    rotate_left
    · obtain rfl : j = T := by omega
      go_wp2_with fail
      go_ret
      exact ⟨rfl, below_drewN' HBL.out _⟩
    have hj4 : j < 4 := by omega
    have hjT' : (j : Int) < (T : Int) := by omega
    have cb := H1.out.cell hjT
    obtain ⟨b, hb⟩ : ∃ b, cf.2.getD j false = b := ⟨_, rfl⟩
    dsimp only [bits] at cb
    rw [hb] at cb
    have HB := Lib.hid hb
    clear hb
    cases b with
    | false =>
      have HF : Hid (Tm.dueF cf f lim (j + 1) = Tm.dueF cf f lim j) := Lib.hid (Tm.due_no (fun h => by rw [HB.out] at h; cases h.1))
      go_upto_region 5 with fail
      go_quiet (fail)
      go_wp2_with fail
      go_roundw
      case rel => exact ⟨j + 1, _, by omega, by rw [HF.out], by go_num, rfl⟩
      case measure => simp [intOf] <;> omega
    | true =>
      have cj := H2.out.cell hjT
      dsimp only [ints] at cj
      by_cases hlate : f j ≤ lim
      rotate_left
      · have HF : Hid (Tm.dueF cf f lim (j + 1) = Tm.dueF cf f lim j) := Lib.hid (Tm.due_no (fun h => hlate h.2.1))
        have d1 : decide (f j ≤ lim) = false := by simpa using hlate
        generalize f j = fj at *
        go_upto_region 5 with fail
        go_quiet (fail)
        go_wp2_with fail
        go_roundw
        case rel => exact ⟨j + 1, _, by omega, by rw [HF.out], by go_num, rfl⟩
        case measure => simp [intOf] <;> omega
      have d1 : decide (f j ≤ lim) = true := by simpa using hlate
      have HR : Hid (Tm.dueF cf f lim j = -1 ∨ (0 ≤ Tm.dueF cf f lim j ∧ Tm.dueF cf f lim j < j)) := Lib.hid (by
        rw [Tm.due_first]
        split
        · exact .inl rfl
        · rcases Tm.first_run cf f j with h | ⟨h, h', _⟩
          · exact .inl h
          · exact .inr ⟨h, h'⟩)
      by_cases hneg : Tm.dueF cf f lim j < 0
      · have HF : Hid (Tm.dueF cf f lim (j + 1) = (j : Int)) := Lib.hid (Tm.due_yes HB.out hlate (.inl hneg))
        generalize Tm.dueF cf f lim j = q at *
        generalize f j = fj at *
        have d2 : decide (q < 0) = true := by simpa using hneg
        go_upto_region 5 with fail
        go_quiet (fail)
        go_wp2_with fail
        go_roundw
        case rel => exact ⟨j + 1, _, by omega, by rw [HF.out], by go_num, rfl⟩
        case measure => simp [intOf] <;> omega
      · obtain ⟨p, hp⟩ : ∃ p : Nat, Tm.dueF cf f lim j = p := ⟨(Tm.dueF cf f lim j).toNat, by omega⟩
        have HP := Lib.hid hp
        rw [hp] at hneg
        have hpj : p < j := by rcases HR.out with h | ⟨_, h⟩ <;> omega
        have cp := H2.out.cell (show p < T by omega)
        dsimp only [ints] at cp
        have hpT : (p : Int) < (T : Int) := by omega
        rw [hp]
        clear hp HR
        by_cases hlt : f j < f p
        · have HF : Hid (Tm.dueF cf f lim (j + 1) = (j : Int)) := Lib.hid (Tm.due_yes HB.out hlate (.inr (by rw [HP.out, Int.toNat_natCast]; exact hlt)))
          have d2 : decide (f j < f p) = true := by simpa using hlt
          generalize f j = fj at *
          generalize f p = fp at *
          go_upto_region 5 with fail
          go_quiet (fail)
          go_wp2_with fail
          go_roundw
          case rel => exact ⟨j + 1, _, by omega, by rw [HF.out], by go_num, rfl⟩
          case measure => simp [intOf] <;> omega
        · have HF : Hid (Tm.dueF cf f lim (j + 1) = (p : Int)) := Lib.hid (by rw [Tm.due_no (fun h => h.2.2.elim (fun h => by rw [HP.out] at h; omega) (fun h => by rw [HP.out, Int.toNat_natCast] at h; exact hlt h)), HP.out])
          have d2 : decide (f j < f p) = false := by simpa using hlt
          generalize f j = fj at *
          generalize f p = fp at *
          go_upto_region 5 with fail
          go_quiet (fail)
          go_wp2_with fail
          go_roundw
          case rel => exact ⟨j + 1, _, by omega, by rw [HF.out], by go_num, rfl⟩
          case measure => simp [intOf] <;> omega
end Go.Proofs.Ytpcoddbkcelaoaa
