/- The code's machine that runs: its block; the timer that times out first. -/
import Derived.Test.YtpcoddbkcelaoaaAftP
namespace Go.Proofs.Ytpcoddbkcelaoaa
open Go.RowKit

/-- the cells of a machine that runs -/
def rcs (m : Tm.M) (A : Option Addr) (c : Nat) (B : Option Addr) (d : Nat) (C : Option Addr) (e : Nat) (cf : Tm.Cfg) (du : Nat → Int) (ev : Value) : Array Value :=
  #[.int .i64 m.I, .int .i64 m.T, .int .i64 m.S, .slice A m.nx.length c, .slice B m.out.length d, .slice C m.set.length e, .int .i64 (cf.1 : Nat), .bool (cf.2.getD 0 false), .bool (cf.2.getD 1 false), .bool (cf.2.getD 2 false), .bool (cf.2.getD 3 false), .int .i64 (du 0), .int .i64 (du 1), .int .i64 (du 2), .int .i64 (du 3), ev]
/-- a machine that runs, in the block g -/
abbrev Rn (w : World) (g : Nat) (m : Tm.M) (A : Option Addr) (c : Nat) (B : Option Addr) (d : Nat) (C : Option Addr) (e : Nat) (cf : Tm.Cfg) (du : Nat → Int) (ev : Value) : Prop := Blk w g 84 (rcs m A c B d C e cf du ev)
section
variable {w : World} {g : Nat} {m : Tm.M} {A B C : Option Addr} {c d e : Nat} {cf : Tm.Cfg} {du : Nat → Int} {ev : Value}
theorem Rn.bit (h : Rn w g m A c B d C e cf du ev) {x : Nat} (hx : x < 4) : w.cell? ⟨g, 7 + x, none⟩ = some (.bool (cf.2.getD x false)) := by
  rw [Blk.cell h]
  rcases x with _ | _ | _ | _ | x
  · rfl
  · rfl
  · rfl
  · rfl
  · omega
theorem Rn.due (h : Rn w g m A c B d C e cf du ev) {x : Nat} (hx : x < 4) : w.cell? ⟨g, 11 + x, none⟩ = some (.int .i64 (du x)) := by
  rw [Blk.cell h]
  rcases x with _ | _ | _ | _ | x
  · rfl
  · rfl
  · rfl
  · rfl
  · omega
theorem Rn.c0 (h : Rn w g m A c B d C e cf du ev) : w.cell? ⟨g, 0, none⟩ = some (.int .i64 m.I) := Blk.cell h 0
theorem Rn.c1 (h : Rn w g m A c B d C e cf du ev) : w.cell? ⟨g, 1, none⟩ = some (.int .i64 m.T) := Blk.cell h 1
theorem Rn.c4 (h : Rn w g m A c B d C e cf du ev) : w.cell? ⟨g, 4, none⟩ = some (.slice B m.out.length d) := Blk.cell h 4
theorem Rn.c5 (h : Rn w g m A c B d C e cf du ev) : w.cell? ⟨g, 5, none⟩ = some (.slice C m.set.length e) := Blk.cell h 5
theorem Rn.c6 (h : Rn w g m A c B d C e cf du ev) : w.cell? ⟨g, 6, none⟩ = some (.int .i64 (cf.1 : Nat)) := Blk.cell h 6
theorem Rn.c15 (h : Rn w g m A c B d C e cf du ev) : w.cell? ⟨g, 15, none⟩ = some ev := Blk.cell h 15
end
set_option maxRecDepth 100000 in
set_option maxHeartbeats 4000000 in
theorem first_p (m : Tm.M) (T : Nat) (A B C : Option Addr) (c d e : Nat) (cf : Tm.Cfg) (du : Nat → Int) (ev : Value) (g : Nat) (w : World) (hT : m.T = T) (h4 : T ≤ 4) (h : Rn w g m A c B d C e cf du ev) :
    Calls Try.prog 42 #[.pointer (some ⟨g, 0, none⟩)] w fun r w' => r = .returned (.int .i64 (Tm.firstF cf du T)) ∧ ∃ n, w' = w.drewN n := by
  have H := Lib.hid h
  have c1 := h.c1
  rw [hT] at c1
  clear h hT
  go_enter Try.func42, Try.ntmps42
  go_wp2_with fail
  clear c1
  go_loopw [3, 10] (fun x y wr => ∃ j n : Nat, j ≤ T ∧ x = .int .i64 (Tm.firstF cf du j) ∧ y = .int .i64 j ∧ wr = w.drewN n) (fun _ y _ => T - (intOf y).toNat)
  case atStart => exact ⟨0, 0, Nat.zero_le _, rfl, rfl, rfl⟩
  case round =>
    obtain ⟨j, n, hj, rfl, rfl, rfl⟩ := hrel
    by_cases hjT : j < T
    rotate_left
    · obtain rfl : j = T := by omega
      go_wp2_with fail
      go_ret
      exact ⟨rfl, _, rfl⟩
    have hj4 : j < 4 := by omega
    have cb := H.out.bit hj4
    obtain ⟨b, hb⟩ : ∃ b, cf.2.getD j false = b := ⟨_, rfl⟩
    rw [hb] at cb
    have HB := Lib.hid hb
    clear hb
    cases b with
    | false =>
      have HF : Hid (Tm.firstF cf du (j + 1) = Tm.firstF cf du j) := Lib.hid (Tm.first_no (fun h => by rw [HB.out] at h; cases h.1))
      go_upto_region 5 with fail
      go_quiet (fail)
      go_wp2_with fail
      go_roundw
      case rel => exact ⟨j + 1, _, by omega, by rw [HF.out], by go_num, rfl⟩
      case measure => simp [intOf] <;> omega
    | true =>
      have HR := Lib.hid (Tm.first_run cf du j)
      by_cases hneg : Tm.firstF cf du j < 0
      · have HF : Hid (Tm.firstF cf du (j + 1) = (j : Int)) := Lib.hid (Tm.first_yes HB.out (.inl hneg))
        generalize Tm.firstF cf du j = f at *
        have d1 : decide (f < 0) = true := by simpa using hneg
        go_upto_region 5 with fail
        go_quiet (fail)
        go_wp2_with fail
        go_roundw
        case rel => exact ⟨j + 1, _, by omega, by rw [HF.out], by go_num, rfl⟩
        case measure => simp [intOf] <;> omega
      · obtain ⟨p, hp⟩ : ∃ p : Nat, Tm.firstF cf du j = p := ⟨(Tm.firstF cf du j).toNat, by omega⟩
        have HP := Lib.hid hp
        rw [hp] at hneg
        have hpj : p < j := by rcases HR.out with h | ⟨_, h, _⟩ <;> omega
        have cp := H.out.due (show p < 4 by omega)
        have cj := H.out.due hj4
        rw [hp]
        clear hp HR
        by_cases hlt : du j < du p
        · have HF : Hid (Tm.firstF cf du (j + 1) = (j : Int)) := Lib.hid (Tm.first_yes HB.out (.inr (by rw [HP.out, Int.toNat_natCast]; exact hlt)))
          have d2 : decide (du j < du p) = true := by simpa using hlt
          generalize du j = dj at *
          generalize du p = dp at *
          go_upto_region 5 with fail
          go_quiet (fail)
          go_wp2_with fail
          go_roundw
          case rel => exact ⟨j + 1, _, by omega, by rw [HF.out], by go_num, rfl⟩
          case measure => simp [intOf] <;> omega
        · have HF : Hid (Tm.firstF cf du (j + 1) = (p : Int)) := Lib.hid (by rw [Tm.first_no (fun h => h.2.elim (fun h => by rw [HP.out] at h; omega) (fun h => by rw [HP.out, Int.toNat_natCast] at h; exact hlt h)), HP.out])
          have d2 : decide (du j < du p) = false := by simpa using hlt
          generalize du j = dj at *
          generalize du p = dp at *
          go_upto_region 5 with fail
          go_quiet (fail)
          go_wp2_with fail
          go_roundw
          case rel => exact ⟨j + 1, _, by omega, by rw [HF.out], by go_num, rfl⟩
          case measure => simp [intOf] <;> omega
end Go.Proofs.Ytpcoddbkcelaoaa
