/- The reference's error of a transition. -/
import Derived.Test.YtpcoddbkcelaoaaMem
namespace Go.Proofs.Ytpcoddbkcelaoaa
open Go.RowKit

set_option maxRecDepth 100000 in
set_option maxHeartbeats 2000000 in
theorem sym_r (m : Tm.M) (s i : Nat) (A B C : Option Addr) (c d e : Nat) (w : World) (hR : RdT w A B C m) (hs : s < m.nx.length) (ho : m.out.length = m.nx.length) (hS : m.set.length = m.nx.length)
    (hN : i < (m.nx.getD s []).length) (hO : i < (m.out.getD s []).length) (hT : i < (m.set.getD s []).length) :
    Calls Try.prog 28 #[.agg #[.int .i64 m.I, .int .i64 m.T, .int .i64 m.S, .slice A m.nx.length c, .slice B m.out.length d, .slice C m.set.length e], .int .i64 s, .int .i64 i] w fun e w' => e = .returned (.int .i64 (Tm.cellE m s i)) ∧ Below w.heap.size w w' := by
  have HO := Lib.hid ho
  have HS := Lib.hid hS
  have hj2 : (s : Int) < (m.out.length : Int) := by rw [ho]; omega
  have hj3 : (s : Int) < (m.set.length : Int) := by rw [hS]; omega
  have mn := hR.nx.1
  have mo := hR.out.1
  have ms := hR.set.1
  clear ho hS
  go_enter Try.func28, Try.ntmps28
  go_upto_region 1 with fail
  generalize hwb : World.alloc _ _ = wb
  have BX : Hid (BoxT wb w.heap.size m A c B d C e) := Lib.hid (boxT (by rw [← hwb]; exact Blk.new _ _ _))
  have hbel : Below w.heap.size w wb := hwb ▸ (Below.refl _ _).alloc (Nat.le_refl _) _
  have HR := Lib.hid (hR.keep hbel)
  clear hwb hR
  obtain ⟨ad, A1, c1, xs, rfl, hx, cx, rx⟩ := HR.out.nx.at_ hs
  obtain ⟨bd, B1, d1, os, rfl, hox, co, ro⟩ := HR.out.out.at_ (i := s) (by rw [HO.out]; exact hs)
  obtain ⟨gd, C1, e1, ss, rfl, hsx, cs, rs⟩ := HR.out.set.at_ (i := s) (by rw [HS.out]; exact hs)
  rw [hx] at hN
  rw [hox] at hO
  rw [hsx] at hT
  obtain ⟨ad1, t, rfl, ht, ct⟩ := rx.at_ hN
  obtain ⟨bd1, o, rfl, hot, cot⟩ := ro.at_ hO
  obtain ⟨gd1, a, b, rfl, hab, ca, cb⟩ := rs.at_ hT
  have c5 := BX.out.c5
  go_upto_region 2 with (refine wpList_load_any rfl 104 _ rfl (gd1.add (i * 2)) rfl [.int .i64 a, .int .i64 b] _ (cells2' ca cb) Try.underlying104 rfl (by kernel_rfl) ?_)
  generalize hwc : World.alloc _ _ = wc
  have g0 : wc.cell? ⟨wb.heap.size, 0, none⟩ = some (.int .i64 a) := by rw [← hwc, World.cell?_alloc_at (hn := rfl)]; rfl
  have g1 : wc.cell? ⟨wb.heap.size, 1, none⟩ = some (.int .i64 b) := by rw [← hwc, World.cell?_alloc_at (hn := rfl)]; rfl
  have hbc : Below wb.heap.size wb wc := hwc ▸ (Below.refl _ _).alloc (Nat.le_refl _) _
  have HC := Lib.hid (below_seq hbel hbc)
  clear hwc
  have BX' := Lib.hid (BX.out.keep hbc)
  have c1' := BX'.out.c1
  have c3 := BX'.out.c3
  have c4 := BX'.out.c4
  have hE : Tm.cellE m s i = Tm.symE m.nx.length m.T t o a b := by unfold Tm.cellE; rw [hx, hox, hsx, ht, hot, hab]
  have HE := Lib.hid hE
  have cx' := keep_cell hbc cx
  have co' := keep_cell hbc co
  have ct' := keep_cell hbc ct
  have cot' := keep_cell hbc cot
  clear hE hab ht hot hx hox hsx rx ro rs ca cb cs cx co ct cot hbel hbc c5 HR BX BX'
  by_cases q0 : t < 0
  · have HFIN := Lib.hid (show Tm.cellE m s i = 2 by rw [HE.out]; unfold Tm.symE; rw [if_pos (by omega)])
    have d1 : decide (t < 0) = true := by simpa using q0
    clear q0
    go_quiet (fail)
    go_wp2
    go_ret
    first | exact ⟨by rw [HFIN.out]; rfl, below_drewN' HC.out _⟩ | exact ⟨by rw [HFIN.out]; rfl, below_drewN' (below_drewN' HC.out _) _⟩ | exact ⟨by rw [HFIN.out]; rfl, HC.out⟩
  by_cases q1 : (m.nx.length : Int) ≤ t
  · have HFIN := Lib.hid (show Tm.cellE m s i = 2 by rw [HE.out]; unfold Tm.symE; rw [if_pos (by omega)])
    have d1 : decide (t < 0) = false := by simpa using q0
    have d2 : decide ((m.nx.length : Int) ≤ t) = true := by simpa using q1
    clear q0 q1
    go_quiet (fail)
    go_wp2
    go_ret
    first | exact ⟨by rw [HFIN.out]; rfl, below_drewN' HC.out _⟩ | exact ⟨by rw [HFIN.out]; rfl, below_drewN' (below_drewN' HC.out _) _⟩ | exact ⟨by rw [HFIN.out]; rfl, HC.out⟩
  by_cases q2 : o < 0
  · have HFIN := Lib.hid (show Tm.cellE m s i = 2 by rw [HE.out]; unfold Tm.symE; rw [if_pos (by omega)])
    have d1 : decide (t < 0) = false := by simpa using q0
    have d2 : decide ((m.nx.length : Int) ≤ t) = false := by simpa using q1
    have d3 : decide (o < 0) = true := by simpa using q2
    clear q0 q1 q2
    go_quiet (fail)
    go_wp2
    go_ret
    first | exact ⟨by rw [HFIN.out]; rfl, below_drewN' HC.out _⟩ | exact ⟨by rw [HFIN.out]; rfl, below_drewN' (below_drewN' HC.out _) _⟩ | exact ⟨by rw [HFIN.out]; rfl, HC.out⟩
  by_cases q3 : 1048576 < o
  · have HFIN := Lib.hid (show Tm.cellE m s i = 2 by rw [HE.out]; unfold Tm.symE; rw [if_pos (by omega)])
    have d1 : decide (t < 0) = false := by simpa using q0
    have d2 : decide ((m.nx.length : Int) ≤ t) = false := by simpa using q1
    have d3 : decide (o < 0) = false := by simpa using q2
    have d4 : decide (1048576 < o) = true := by simpa using q3
    clear q0 q1 q2 q3
    go_quiet (fail)
    go_wp2
    go_ret
    first | exact ⟨by rw [HFIN.out]; rfl, below_drewN' HC.out _⟩ | exact ⟨by rw [HFIN.out]; rfl, below_drewN' (below_drewN' HC.out _) _⟩ | exact ⟨by rw [HFIN.out]; rfl, HC.out⟩
  by_cases q4 : a < -1
  · have HFIN := Lib.hid (show Tm.cellE m s i = 2 by rw [HE.out]; unfold Tm.symE; rw [if_neg (by omega), if_pos (by omega)])
    have d1 : decide (t < 0) = false := by simpa using q0
    have d2 : decide ((m.nx.length : Int) ≤ t) = false := by simpa using q1
    have d3 : decide (o < 0) = false := by simpa using q2
    have d4 : decide (1048576 < o) = false := by simpa using q3
    have d5 : decide (a < -1) = true := by simpa using q4
    clear q0 q1 q2 q3 q4
    go_quiet (fail)
    go_wp2
    go_ret
    first | exact ⟨by rw [HFIN.out]; rfl, below_drewN' HC.out _⟩ | exact ⟨by rw [HFIN.out]; rfl, below_drewN' (below_drewN' HC.out _) _⟩ | exact ⟨by rw [HFIN.out]; rfl, HC.out⟩
  by_cases q5 : m.T ≤ a
  · have HFIN := Lib.hid (show Tm.cellE m s i = 2 by rw [HE.out]; unfold Tm.symE; rw [if_neg (by omega), if_pos (by omega)])
    have d1 : decide (t < 0) = false := by simpa using q0
    have d2 : decide ((m.nx.length : Int) ≤ t) = false := by simpa using q1
    have d3 : decide (o < 0) = false := by simpa using q2
    have d4 : decide (1048576 < o) = false := by simpa using q3
    have d5 : decide (a < -1) = false := by simpa using q4
    have d6 : decide (m.T ≤ a) = true := by simpa using q5
    clear q0 q1 q2 q3 q4 q5
    go_quiet (fail)
    go_wp2
    go_ret
    first | exact ⟨by rw [HFIN.out]; rfl, below_drewN' HC.out _⟩ | exact ⟨by rw [HFIN.out]; rfl, below_drewN' (below_drewN' HC.out _) _⟩ | exact ⟨by rw [HFIN.out]; rfl, HC.out⟩
  by_cases q6 : b < 0
  · have HFIN := Lib.hid (show Tm.cellE m s i = 2 by rw [HE.out]; unfold Tm.symE; rw [if_neg (by omega), if_pos (by omega)])
    have d1 : decide (t < 0) = false := by simpa using q0
    have d2 : decide ((m.nx.length : Int) ≤ t) = false := by simpa using q1
    have d3 : decide (o < 0) = false := by simpa using q2
    have d4 : decide (1048576 < o) = false := by simpa using q3
    have d5 : decide (a < -1) = false := by simpa using q4
    have d6 : decide (m.T ≤ a) = false := by simpa using q5
    have d7 : decide (b < 0) = true := by simpa using q6
    clear q0 q1 q2 q3 q4 q5 q6
    go_quiet (fail)
    go_wp2
    go_ret
    first | exact ⟨by rw [HFIN.out]; rfl, below_drewN' HC.out _⟩ | exact ⟨by rw [HFIN.out]; rfl, below_drewN' (below_drewN' HC.out _) _⟩ | exact ⟨by rw [HFIN.out]; rfl, HC.out⟩
  by_cases q7 : 1000 < b
  · have HFIN := Lib.hid (show Tm.cellE m s i = 2 by rw [HE.out]; unfold Tm.symE; rw [if_neg (by omega), if_pos (by omega)])
    have d1 : decide (t < 0) = false := by simpa using q0
    have d2 : decide ((m.nx.length : Int) ≤ t) = false := by simpa using q1
    have d3 : decide (o < 0) = false := by simpa using q2
    have d4 : decide (1048576 < o) = false := by simpa using q3
    have d5 : decide (a < -1) = false := by simpa using q4
    have d6 : decide (m.T ≤ a) = false := by simpa using q5
    have d7 : decide (b < 0) = false := by simpa using q6
    have d8 : decide (1000 < b) = true := by simpa using q7
    clear q0 q1 q2 q3 q4 q5 q6 q7
    go_quiet (fail)
    go_wp2
    go_ret
    first | exact ⟨by rw [HFIN.out]; rfl, below_drewN' HC.out _⟩ | exact ⟨by rw [HFIN.out]; rfl, below_drewN' (below_drewN' HC.out _) _⟩ | exact ⟨by rw [HFIN.out]; rfl, HC.out⟩
  by_cases q8 : a = -1
  · by_cases q9 : b = 0
    · have HFIN := Lib.hid (show Tm.cellE m s i = 0 by rw [HE.out]; unfold Tm.symE; rw [if_neg (by omega), if_neg (by omega), if_neg (by omega)])
      have d1 : decide (t < 0) = false := by simpa using q0
      have d2 : decide ((m.nx.length : Int) ≤ t) = false := by simpa using q1
      have d3 : decide (o < 0) = false := by simpa using q2
      have d4 : decide (1048576 < o) = false := by simpa using q3
      have d5 : decide (a < -1) = false := by simpa using q4
      have d6 : decide (m.T ≤ a) = false := by simpa using q5
      have d7 : decide (b < 0) = false := by simpa using q6
      have d8 : decide (1000 < b) = false := by simpa using q7
      have d9 : (a == -1) = true := by simpa using q8
      have d10 : (b != 0) = false := by simpa using q9
      clear q0 q1 q2 q3 q4 q5 q6 q7 q8 q9
      go_quiet (fail)
      go_wp2
      go_ret
      first | exact ⟨by rw [HFIN.out]; rfl, below_drewN' HC.out _⟩ | exact ⟨by rw [HFIN.out]; rfl, below_drewN' (below_drewN' HC.out _) _⟩ | exact ⟨by rw [HFIN.out]; rfl, HC.out⟩
    · have HFIN := Lib.hid (show Tm.cellE m s i = 1 by rw [HE.out]; unfold Tm.symE; rw [if_neg (by omega), if_neg (by omega), if_pos (by omega)])
      have d1 : decide (t < 0) = false := by simpa using q0
      have d2 : decide ((m.nx.length : Int) ≤ t) = false := by simpa using q1
      have d3 : decide (o < 0) = false := by simpa using q2
      have d4 : decide (1048576 < o) = false := by simpa using q3
      have d5 : decide (a < -1) = false := by simpa using q4
      have d6 : decide (m.T ≤ a) = false := by simpa using q5
      have d7 : decide (b < 0) = false := by simpa using q6
      have d8 : decide (1000 < b) = false := by simpa using q7
      have d9 : (a == -1) = true := by simpa using q8
      have d10 : (b != 0) = true := by simpa using q9
      clear q0 q1 q2 q3 q4 q5 q6 q7 q8 q9
      go_quiet (fail)
      go_wp2
      go_ret
      first | exact ⟨by rw [HFIN.out]; rfl, below_drewN' HC.out _⟩ | exact ⟨by rw [HFIN.out]; rfl, below_drewN' (below_drewN' HC.out _) _⟩ | exact ⟨by rw [HFIN.out]; rfl, HC.out⟩
  · have HFIN := Lib.hid (show Tm.cellE m s i = 0 by rw [HE.out]; unfold Tm.symE; rw [if_neg (by omega), if_neg (by omega), if_neg (by omega)])
    have d1 : decide (t < 0) = false := by simpa using q0
    have d2 : decide ((m.nx.length : Int) ≤ t) = false := by simpa using q1
    have d3 : decide (o < 0) = false := by simpa using q2
    have d4 : decide (1048576 < o) = false := by simpa using q3
    have d5 : decide (a < -1) = false := by simpa using q4
    have d6 : decide (m.T ≤ a) = false := by simpa using q5
    have d7 : decide (b < 0) = false := by simpa using q6
    have d8 : decide (1000 < b) = false := by simpa using q7
    have d9 : (a == -1) = false := by simpa using q8
    clear q0 q1 q2 q3 q4 q5 q6 q7 q8
    go_quiet (fail)
    go_wp2
    go_ret
    first | exact ⟨by rw [HFIN.out]; rfl, below_drewN' HC.out _⟩ | exact ⟨by rw [HFIN.out]; rfl, below_drewN' (below_drewN' HC.out _) _⟩ | exact ⟨by rw [HFIN.out]; rfl, HC.out⟩
end Go.Proofs.Ytpcoddbkcelaoaa
