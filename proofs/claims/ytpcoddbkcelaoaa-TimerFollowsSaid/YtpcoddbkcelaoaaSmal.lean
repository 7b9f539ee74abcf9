/- Is a machine small. -/
import Derived.Test.YtpcoddbkcelaoaaActR
namespace Go.Proofs.Ytpcoddbkcelaoaa
open Go.RowKit

def small (m : Tm.M) : Bool := decide (m.nx.length ≤ 8) && (decide (m.out.length ≤ 8) && (decide (m.set.length ≤ 8) && decide (m.I ≤ 4)))
set_option maxHeartbeats 1600000 in
theorem small_r (m : Tm.M) (A B C : Option Addr) (c d e : Nat) (w : World) (h1 : m.nx.length ≤ 9223372036854775807) (h2 : m.out.length ≤ 9223372036854775807) (h3 : m.set.length ≤ 9223372036854775807) :
    Calls Try.prog 9 #[.agg #[.int .i64 m.I, .int .i64 m.T, .int .i64 m.S, .slice A m.nx.length c, .slice B m.out.length d, .slice C m.set.length e]] w fun r w' => r = .returned (.bool (small m)) ∧ Below w.heap.size w w' := by
  obtain ⟨b, hb⟩ : ∃ b, small m = b := ⟨_, rfl⟩
  rw [hb]
  have HB := Lib.hid hb
  clear hb
  go_enter Try.func9, Try.ntmps9
  go_upto_region 1 with fail
  generalize hwb : World.alloc _ _ = w0
  have BX : Hid (Blk w0 w.heap.size 25 (tc m A c B d C e)) := Lib.hid (by rw [← hwb]; exact Blk.new _ _ _)
  have HBL : Hid (Below w.heap.size w w0) := Lib.hid (by rw [← hwb]; exact (Below.refl _ _).alloc (Nat.le_refl _) _)
  clear hwb
  have BT := boxT BX.out
  have c0 := BT.c0
  have c3 := BT.c3
  have c4 := BT.c4
  have c5 := BT.c5
  clear BT BX
  by_cases q1 : (m.nx.length : Int) ≤ 8
  rotate_left
  · obtain rfl : false = b := by rw [← HB.out]; unfold small; rw [decide_eq_false (by omega)]; rfl
    have d1 : decide ((m.nx.length : Int) ≤ 8) = false := decide_eq_false q1
    have d2 : decide (m.nx.length ≤ 8) = false := decide_eq_false (by omega)
    go_wp2
    go_ret
    exact ⟨rfl, HBL.out⟩
  have e1 : decide (m.nx.length ≤ 8) = true := decide_eq_true (by omega)
  have E1 := Lib.hid e1
  clear e1
  by_cases q2 : (m.out.length : Int) ≤ 8
  rotate_left
  · obtain rfl : false = b := by rw [← HB.out]; unfold small; rw [decide_eq_false (show ¬ m.out.length ≤ 8 by omega)]; simp
    have d1 : decide ((m.out.length : Int) ≤ 8) = false := decide_eq_false q2
    have d2 : decide (m.out.length ≤ 8) = false := decide_eq_false (by omega)
    go_wp2
    go_ret
    exact ⟨rfl, HBL.out⟩
  by_cases q3 : (m.set.length : Int) ≤ 8
  rotate_left
  · obtain rfl : false = b := by rw [← HB.out]; unfold small; rw [decide_eq_false (show ¬ m.set.length ≤ 8 by omega)]; simp
    have d1 : decide ((m.set.length : Int) ≤ 8) = false := decide_eq_false q3
    have d2 : decide (m.set.length ≤ 8) = false := decide_eq_false (by omega)
    go_wp2
    go_ret
    exact ⟨rfl, HBL.out⟩
  by_cases q4 : m.I ≤ 4
  rotate_left
  · obtain rfl : false = b := by rw [← HB.out]; unfold small; rw [decide_eq_false q4]; simp
    have d1 : decide (m.I ≤ 4) = false := decide_eq_false q4
    go_wp2
    go_ret
    exact ⟨rfl, HBL.out⟩
  obtain rfl : true = b := by rw [← HB.out]; unfold small; rw [decide_eq_true q4, decide_eq_true (show m.nx.length ≤ 8 by omega), decide_eq_true (show m.out.length ≤ 8 by omega), decide_eq_true (show m.set.length ≤ 8 by omega)]; rfl
  go_wp2
  go_ret
  exact ⟨rfl, HBL.out⟩
end Go.Proofs.Ytpcoddbkcelaoaa
