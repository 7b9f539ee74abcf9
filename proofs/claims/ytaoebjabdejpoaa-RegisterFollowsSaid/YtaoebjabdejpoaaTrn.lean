/- The reference's transition of a register automaton: its error. -/
import Derived.Test.YtaoebjabdejpoaaMem
namespace Go.Proofs.Ytaoebjabdejpoaa
open Go.RowKit

set_option maxRecDepth 100000 in
set_option maxHeartbeats 4000000 in
theorem trans_r (m : Rg.M) (l : Nat) (x y : Int) (zs : List Int) (A B C : Option Addr) (c d e : Nat) (w : World) (hR : RdA w A B m) (hC : Rd w C zs) (hl : l < m.rg.length) :
    Calls Try.prog 46 #[.agg #[.int .i64 m.I, .int .i64 m.S, .slice A m.rg.length c, .slice B m.tr.length d], .int .i64 l, .agg #[.int .i64 x, .int .i64 y, .slice C zs.length e]] w fun r w' => r = .returned (.int .i64 (Rg.transE m l ⟨x, y, zs⟩)) ∧ Below w.heap.size w w' := by
  have HR := Lib.hid hR
  have mn := hR.rg.1
  have mz := hC.1
  clear hR
  go_enter Try.func46, Try.ntmps46
  go_upto_region 1 with fail
  generalize hwb : World.alloc _ _ = w1
  have BX : Hid (BoxT w1 w.heap.size m A c B d) := Lib.hid (boxT (by rw [← hwb]; exact (Blk.new _ _ _).alloc _))
  have KT : Hid (Blk w1 (w.heap.size + 1) 94 #[.int .i64 x, .int .i64 y, .slice C zs.length e]) := Lib.hid (by
    rw [← hwb]
    have h1 := Blk.new (w.alloc (.cells (tc m A c B d) 25)) 94 #[.int .i64 x, .int .i64 y, .slice C zs.length e]
    simpa using h1)
  have HBL : Hid (Below w.heap.size w w1) := Lib.hid (by rw [← hwb]; exact ((Below.refl _ _).alloc (Nat.le_refl _) _).alloc (by simp) _)
  have HZ := Lib.hid (hC.keep HBL.out)
  replace HR := Lib.hid (HR.out.keep HBL.out)
  clear hwb hC
  have c2 := BX.out.c2
  have k0 := KT.out.cell 0
  have k1 := KT.out.cell 1
  have k2 := KT.out.cell 2
  by_cases q1 : x < 0
  · have HFIN := Lib.hid (Rg.trans_out (m := m) (l := l) (t := ⟨x, y, zs⟩) (.inl q1))
    have d1 : decide (x < 0) = true := decide_eq_true q1
    clear q1
    go_wp2
    go_ret
    exact ⟨by rw [HFIN.out]; rfl, HBL.out⟩
  by_cases q2 : (m.rg.length : Int) ≤ x
  · have HFIN := Lib.hid (Rg.trans_out (m := m) (l := l) (t := ⟨x, y, zs⟩) (.inr (.inl q2)))
    have d1 : decide (x < 0) = false := decide_eq_false q1
    have d2 : decide ((m.rg.length : Int) ≤ x) = true := decide_eq_true q2
    clear q1 q2
    go_wp2
    go_ret
    exact ⟨by rw [HFIN.out]; rfl, HBL.out⟩
  by_cases q3 : y < 0
  · have HFIN := Lib.hid (Rg.trans_out (m := m) (l := l) (t := ⟨x, y, zs⟩) (.inr (.inr (.inl q3))))
    have d1 : decide (x < 0) = false := decide_eq_false q1
    have d2 : decide ((m.rg.length : Int) ≤ x) = false := decide_eq_false q2
    have d3 : decide (y < 0) = true := decide_eq_true q3
    clear q1 q2 q3
    go_wp2
    go_ret
    exact ⟨by rw [HFIN.out]; rfl, HBL.out⟩
  by_cases q4 : 1048576 < y
  · have HFIN := Lib.hid (Rg.trans_out (m := m) (l := l) (t := ⟨x, y, zs⟩) (.inr (.inr (.inr q4))))
    have d1 : decide (x < 0) = false := decide_eq_false q1
    have d2 : decide ((m.rg.length : Int) ≤ x) = false := decide_eq_false q2
    have d3 : decide (y < 0) = false := decide_eq_false q3
    have d4 : decide (1048576 < y) = true := decide_eq_true q4
    clear q1 q2 q3 q4
    go_wp2
    go_ret
    exact ⟨by rw [HFIN.out]; rfl, HBL.out⟩
  have HQ := Lib.hid (show ¬ (x < 0 ∨ (m.rg.length : Int) ≤ x ∨ y < 0 ∨ 1048576 < y) by omega)
  obtain ⟨xn, rfl⟩ : ∃ n : Nat, x = n := ⟨x.toNat, by omega⟩
  have hxn : xn < m.rg.length := by omega
  obtain ⟨ad, r, rfl, hr, cr⟩ := HR.out.rg.at_ hxn
  have HNR : Hid (Rg.nr m (((⟨(xn : Int), y, zs⟩ : Rg.T).to).toNat) = r) := Lib.hid (by show m.rg.getD ((xn : Int).toNat) 0 = r; rw [Int.toNat_natCast]; exact hr)
  clear hr
  have d1 : decide ((xn : Int) < 0) = false := decide_eq_false (by omega)
  have d2 : decide ((m.rg.length : Int) ≤ (xn : Int)) = false := decide_eq_false (by omega)
  have d2' : decide (m.rg.length ≤ xn) = false := decide_eq_false (by omega)
  have d3 : decide (y < 0) = false := decide_eq_false q3
  have d4 : decide (1048576 < y) = false := decide_eq_false q4
  have hxi : (xn : Int) < (m.rg.length : Int) := by omega
  clear q1 q2
  by_cases hlen : (zs.length : Int) = r
  rotate_left
  · have HFIN := Lib.hid (Rg.trans_len (m := m) (l := l) (t := ⟨(xn : Int), y, zs⟩) HQ.out (by rw [HNR.out]; exact hlen))
    have b7 : ((zs.length : Int) != r) = true := by rw [bne_iff_ne]; exact hlen
    clear hlen
    go_upto_region 3 with fail
    go_quiet (fail)
    go_wp2
    go_ret
    exact ⟨by rw [HFIN.out]; rfl, below_drewN' HBL.out _⟩
  have HFIN := Lib.hid (Rg.trans_in (m := m) (l := l) (t := ⟨(xn : Int), y, zs⟩) HQ.out (by rw [HNR.out]; exact fun h => h hlen))
  have b7 : ((zs.length : Int) != r) = false := by rw [bne_eq_false_iff_eq]; exact hlen
  clear hlen
  go_upto_region 3 with fail
  go_quiet (fail)
  go_upto_region 6 with fail
  clear b7 d1 d2 d2' d3 d4 cr k0 k1
  obtain ⟨r0, hr0, cr⟩ : ∃ r0, Rg.nr m l = r0 ∧ w1.cell? (ad.add l) = some (.int .i64 r0) := by
    obtain ⟨ad', r0, e, h1, h2⟩ := HR.out.rg.at_ hl
    injection e with e
    subst e
    exact ⟨r0, h1, h2⟩
  have HR0 := Lib.hid hr0
  have hli : (l : Int) < (m.rg.length : Int) := by omega
  clear hr0
  go_loopw [7] (fun v wr => ∃ (j n : Nat), j ≤ zs.length ∧ v = .int .i64 j ∧ wr = w1.drewN n ∧ Hid (∀ i, i < j → Rg.asgE r0 zs i = 0)) (fun v _ => zs.length - (intOf v).toNat)
  case atStart => exact ⟨0, _, Nat.zero_le _, rfl, rfl, Lib.hid (fun i hi => by omega)⟩
  case round =>
    obtain ⟨j, n, hj, rfl, rfl, HC⟩ := hrel
    by_cases hjl : j < zs.length
    rotate_left
    · obtain rfl : j = zs.length := by omega
      have HF := Lib.hid (show Rg.transE m l ⟨(xn : Int), y, zs⟩ = 0 by rw [HFIN.out, HR0.out]; exact Mea.firstE_zero HC.out)
      go_wp2
      go_ret
      exact ⟨by rw [HF.out]; rfl, below_drewN' HBL.out _⟩
    obtain ⟨az, v, rfl, hv, cv⟩ := HZ.out.at_ hjl
    have HV := Lib.hid hv
    clear hv
    have hji : (j : Int) < (zs.length : Int) := by omega
    by_cases q0 : v < 0
    · have hval : Rg.asgE r0 zs j = 2 := by unfold Rg.asgE; rw [HV.out, if_pos (.inl q0)]
      have HF := Lib.hid (show Rg.transE m l ⟨(xn : Int), y, zs⟩ = 2 by rw [HFIN.out, HR0.out]; exact (Mea.firstE_at HC.out (by rw [hval]; decide) hjl).trans hval)
      have e1 : decide (v < 0) = true := decide_eq_true q0
      clear hval q0
      go_wp2_with fail
      go_quiet (fail)
      go_wp2
      go_ret
      exact ⟨by rw [HF.out]; rfl, below_drewN' (below_drewN' HBL.out _) _⟩
    have e1 : decide (v < 0) = false := decide_eq_false q0
    by_cases q1 : r0 < v
    · have hval : Rg.asgE r0 zs j = 2 := by unfold Rg.asgE; rw [HV.out, if_pos (.inr q1)]
      have HF := Lib.hid (show Rg.transE m l ⟨(xn : Int), y, zs⟩ = 2 by rw [HFIN.out, HR0.out]; exact (Mea.firstE_at HC.out (by rw [hval]; decide) hjl).trans hval)
      have e2 : decide (r0 < v) = true := decide_eq_true q1
      clear hval q0 q1
      go_wp2_with fail
      go_quiet (fail)
      go_wp2
      go_ret
      exact ⟨by rw [HF.out]; rfl, below_drewN' (below_drewN' HBL.out _) _⟩
    have hval : Rg.asgE r0 zs j = 0 := by unfold Rg.asgE; rw [HV.out, if_neg (by omega)]
    have HC2 : Hid (∀ i, i < j + 1 → Rg.asgE r0 zs i = 0) := Lib.hid (fun i hi => by
      by_cases ei : i = j
      · subst ei; exact hval
      · exact HC.out i (by omega))
    have e2 : decide (r0 < v) = false := decide_eq_false q1
    clear hval q0 q1
    go_wp2_with fail
    go_quiet (fail)
    go_wp2
    go_roundw
    case rel => exact ⟨j + 1, _, by omega, by go_num, rfl, HC2⟩
    case measure => simp [intOf] <;> omega
end Go.Proofs.Ytaoebjabdejpoaa
