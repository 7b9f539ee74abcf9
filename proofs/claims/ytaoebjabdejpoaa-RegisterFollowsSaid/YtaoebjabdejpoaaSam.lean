/- The reference's comparison of two machines. -/
import Derived.Test.YtaoebjabdejpoaaIns
import Derived.Test.YtaoebjabdejpoaaQue
namespace Go.Proofs.Ytaoebjabdejpoaa
open Go.RowKit

set_option maxHeartbeats 1600000 in
theorem same6_r (aI aS bI bS : Int) (an ao bn bo : List (List Int)) (A B C D : Option Addr) (c d e f : Nat) (w : World) (h1 : RdM .i64 w A an) (h2 : RdM .i64 w B ao) (h3 : RdM .i64 w C bn) (h4 : RdM .i64 w D bo) :
    Calls Try.prog 26 #[.agg #[.int .i64 aI, .int .i64 aS, .slice A an.length c, .slice B ao.length d], .agg #[.int .i64 bI, .int .i64 bS, .slice C bn.length e, .slice D bo.length f]] w fun r w' => r = .returned (.bool (decide (aI = bI ∧ aS = bS ∧ an = bn ∧ ao = bo))) ∧ Below w.heap.size w w' := by
  obtain ⟨b, hb⟩ : ∃ b, decide (aI = bI ∧ aS = bS ∧ an = bn ∧ ao = bo) = b := ⟨_, rfl⟩
  rw [hb]
  have HB := Lib.hid hb
  clear hb
  go_enter Try.func26, Try.ntmps26
  go_upto_region 1 with fail
  generalize hwb : World.alloc _ _ = w0
  have PA : Hid (Blk w0 w.heap.size 52 #[.int .i64 aI, .int .i64 aS, .slice A an.length c, .slice B ao.length d]) := Lib.hid (by rw [← hwb]; exact (Blk.new _ _ _).alloc _)
  have PB : Hid (Blk w0 (w.heap.size + 1) 52 #[.int .i64 bI, .int .i64 bS, .slice C bn.length e, .slice D bo.length f]) := Lib.hid (by rw [← hwb]; have := Blk.new (w.alloc (.cells #[.int .i64 aI, .int .i64 aS, .slice A an.length c, .slice B ao.length d] 52)) 52 #[.int .i64 bI, .int .i64 bS, .slice C bn.length e, .slice D bo.length f]; rw [asize] at this; exact this)
  have HBL : Hid (Below w.heap.size w w0) := Lib.hid (by rw [← hwb]; exact ((Below.refl _ _).alloc (Nat.le_refl _) _).alloc (by rw [asize]; omega) _)
  clear hwb
  have H1 := Lib.hid (h1.keep HBL.out)
  have H2 := Lib.hid (h2.keep HBL.out)
  have H3 := Lib.hid (h3.keep HBL.out)
  have H4 := Lib.hid (h4.keep HBL.out)
  have a0 := PA.out.cell 0
  have a1 := PA.out.cell 1
  have a2 := PA.out.cell 2
  have a3 := PA.out.cell 3
  have b0 := PB.out.cell 0
  have b1 := PB.out.cell 1
  have b2 := PB.out.cell 2
  have b3 := PB.out.cell 3
  simp at a0 a1 a2 a3 b0 b1 b2 b3
  have H2n : Hid (∀ n, RdM .i64 (w0.drewN n) B ao) := Lib.hid (fun n => H2.out.keep (below_drewN' (Below.refl _ _) n))
  have H4n : Hid (∀ n, RdM .i64 (w0.drewN n) D bo) := Lib.hid (fun n => H4.out.keep (below_drewN' (Below.refl _ _) n))
  clear h1 h2 h3 h4 PA PB
  by_cases q : aI = bI
  rotate_left
  · obtain rfl : false = b := by rw [← HB.out, decide_eq_false (fun h => q h.1)]
    have e1 : decide (aI = bI) = false := decide_eq_false q
    have e2 : (aI == bI) = false := beq_eq_false_iff_ne.2 q
    go_wp2
    go_ret
    exact ⟨rfl, HBL.out⟩
  subst q
  by_cases q : aS = bS
  rotate_left
  · obtain rfl : false = b := by rw [← HB.out, decide_eq_false (fun h => q h.2.1)]
    have e1 : decide (aS = bS) = false := decide_eq_false q
    have e2 : (aS == bS) = false := beq_eq_false_iff_ne.2 q
    go_wp2
    go_ret
    exact ⟨rfl, HBL.out⟩
  subst q
  cases ha : decide (an = bn) with
  | false =>
    obtain rfl : false = b := by rw [← HB.out, decide_eq_false (fun h => of_decide_eq_false ha h.2.2.1)]
    have HL := Lib.hid (fun wz (h : RdM .i64 wz A an) (g : RdM .i64 wz C bn) => (by have := lists_r A C c e an bn wz h g; rw [ha] at this; exact this : Calls Try.prog 43 #[.slice A an.length c, .slice C bn.length e] wz fun e w' => e = .returned (.bool false) ∧ ∃ n, w' = wz.drewN n))
    clear ha
    go_wp2_with (go_at_call 43; refine (HL.out _ H1.out H3.out).mono ?_; rintro r w1 ⟨rfl, n1, rfl⟩)
    go_ret
    exact ⟨rfl, below_drewN' HBL.out _⟩
  | true =>
    have HL := Lib.hid (fun wz (h : RdM .i64 wz A an) (g : RdM .i64 wz C bn) => (by have := lists_r A C c e an bn wz h g; rw [ha] at this; exact this : Calls Try.prog 43 #[.slice A an.length c, .slice C bn.length e] wz fun e w' => e = .returned (.bool true) ∧ ∃ n, w' = wz.drewN n))
    have HA := Lib.hid (of_decide_eq_true ha)
    obtain rfl : decide (ao = bo) = b := by
      rw [← HB.out]
      by_cases h : ao = bo
      · rw [decide_eq_true h, decide_eq_true ⟨rfl, rfl, HA.out, h⟩]
      · rw [decide_eq_false h, decide_eq_false (fun g => h g.2.2.2)]
    clear ha
    go_wp2_with (go_at_call 43; first | (refine (lists_r B D d f ao bo _ (H2n.out n1) (H4n.out n1)).mono ?_; rintro r w1 ⟨rfl, n2, rfl⟩) | (refine (HL.out _ H1.out H3.out).mono ?_; rintro r w1 ⟨rfl, n1, rfl⟩))
    go_ret
    exact ⟨rfl, below_drewN' HBL.out _⟩
end Go.Proofs.Ytaoebjabdejpoaa
