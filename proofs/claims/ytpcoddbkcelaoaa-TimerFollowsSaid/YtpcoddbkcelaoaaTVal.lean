/- The reference's Valid of a machine with timers; the ways of the code's Valid that end early. -/
import Derived.Test.YtpcoddbkcelaoaaSym
namespace Go.Proofs.Ytpcoddbkcelaoaa
open Go.RowKit

set_option maxRecDepth 100000 in
set_option maxHeartbeats 2000000 in
theorem tvalid_early_r (m : Tm.M) (A B C : Option Addr) (c d e : Nat) (w : World) (hR : RdT w A B C m)
    (h : m.I < 1 ∨ 64 < m.I ∨ m.T < 0 ∨ 4 < m.T ∨ 64 < m.I + m.T ∨ m.nx.length = 0 ∨ 128 < m.nx.length ∨ m.S < 0 ∨ (m.nx.length : Int) ≤ m.S ∨ m.out.length ≠ m.nx.length ∨ m.set.length ≠ m.nx.length) :
    Calls Try.prog 14 #[.agg #[.int .i64 m.I, .int .i64 m.T, .int .i64 m.S, .slice A m.nx.length c, .slice B m.out.length d, .slice C m.set.length e]] w fun e w' => e = .returned (.int .i64 (Tm.validE m)) ∧ Below w.heap.size w w' := by
  have m1 := hR.nx.1
  have m2 := hR.out.1
  have m3 := hR.set.1
  have hbel : Below w.heap.size w (w.alloc (.cells #[.int .i64 m.I, .int .i64 m.T, .int .i64 m.S, .slice A m.nx.length c, .slice B m.out.length d, .slice C m.set.length e] 25)) := (Below.refl _ _).alloc (Nat.le_refl _) _
  clear hR
  by_cases q0 : m.I < 1
  · have HE := Lib.hid (show Tm.validE m = 2 by unfold Tm.validE; rw [if_pos (by omega)])
    clear h
    go_enter Try.func14, Try.ntmps14
    go_wp2
    go_ret
    exact ⟨by rw [HE.out]; rfl, hbel⟩
  by_cases q1 : 64 < m.I
  · have HE := Lib.hid (show Tm.validE m = 2 by unfold Tm.validE; rw [if_pos (by omega)])
    clear h
    go_enter Try.func14, Try.ntmps14
    go_wp2
    go_ret
    exact ⟨by rw [HE.out]; rfl, hbel⟩
  by_cases q2 : m.T < 0
  · have HE := Lib.hid (show Tm.validE m = 2 by unfold Tm.validE; rw [if_pos (by omega)])
    clear h
    go_enter Try.func14, Try.ntmps14
    go_wp2
    go_ret
    exact ⟨by rw [HE.out]; rfl, hbel⟩
  by_cases q3 : 4 < m.T
  · have HE := Lib.hid (show Tm.validE m = 2 by unfold Tm.validE; rw [if_pos (by omega)])
    clear h
    go_enter Try.func14, Try.ntmps14
    go_wp2
    go_ret
    exact ⟨by rw [HE.out]; rfl, hbel⟩
  by_cases q4 : 64 < m.I + m.T
  · have HE := Lib.hid (show Tm.validE m = 11 by unfold Tm.validE; rw [if_neg (by omega), if_pos (by omega)])
    clear h
    go_enter Try.func14, Try.ntmps14
    go_wp2
    go_ret
    exact ⟨by rw [HE.out]; rfl, hbel⟩
  by_cases q5 : m.nx.length = 0
  · have HE := Lib.hid (show Tm.validE m = 19 by unfold Tm.validE; rw [if_neg (by omega), if_neg (by omega), if_pos (by omega)])
    have b5 : ((m.nx.length : Int) == 0) = true := by rw [beq_iff_eq]; omega
    clear h q5
    go_enter Try.func14, Try.ntmps14
    go_wp2
    go_ret
    exact ⟨by rw [HE.out]; rfl, hbel⟩
  by_cases q6 : 128 < m.nx.length
  · have HE := Lib.hid (show Tm.validE m = 11 by unfold Tm.validE; rw [if_neg (by omega), if_neg (by omega), if_neg (by omega), if_pos (by omega)])
    have b5 : ((m.nx.length : Int) == 0) = false := beq_eq_false_iff_ne.2 (by omega)
    have b6 : (128 : Int) < m.nx.length := by omega
    clear h q5 q6
    go_enter Try.func14, Try.ntmps14
    go_wp2
    go_ret
    exact ⟨by rw [HE.out]; rfl, hbel⟩
  by_cases q7 : m.S < 0
  · have HE := Lib.hid (show Tm.validE m = 2 by unfold Tm.validE; rw [if_neg (by omega), if_neg (by omega), if_neg (by omega), if_neg (by omega), if_pos (by omega)])
    have b5 : ((m.nx.length : Int) == 0) = false := beq_eq_false_iff_ne.2 (by omega)
    have b6 : ¬ (128 : Int) < m.nx.length := by omega
    clear h q5 q6
    go_enter Try.func14, Try.ntmps14
    go_wp2
    go_ret
    exact ⟨by rw [HE.out]; rfl, hbel⟩
  by_cases q8 : (m.nx.length : Int) ≤ m.S
  · have HE := Lib.hid (show Tm.validE m = 2 by unfold Tm.validE; rw [if_neg (by omega), if_neg (by omega), if_neg (by omega), if_neg (by omega), if_pos (by omega)])
    have b5 : ((m.nx.length : Int) == 0) = false := beq_eq_false_iff_ne.2 (by omega)
    have b6 : ¬ (128 : Int) < m.nx.length := by omega
    clear h q5 q6
    go_enter Try.func14, Try.ntmps14
    go_wp2
    go_ret
    exact ⟨by rw [HE.out]; rfl, hbel⟩
  by_cases q9 : m.out.length ≠ m.nx.length
  · have HE := Lib.hid (show Tm.validE m = 1 by unfold Tm.validE; rw [if_neg (by omega), if_neg (by omega), if_neg (by omega), if_neg (by omega), if_neg (by omega), if_pos (by omega)])
    have b5 : ((m.nx.length : Int) == 0) = false := beq_eq_false_iff_ne.2 (by omega)
    have b6 : ¬ (128 : Int) < m.nx.length := by omega
    have b9 : ((m.out.length : Int) != (m.nx.length : Int)) = true := by rw [bne_iff_ne]; omega
    clear h q5 q6 q9
    go_enter Try.func14, Try.ntmps14
    go_wp2
    go_ret
    exact ⟨by rw [HE.out]; rfl, hbel⟩
  have q10 : m.set.length ≠ m.nx.length := by omega
  have HE := Lib.hid (show Tm.validE m = 1 by unfold Tm.validE; rw [if_neg (by omega), if_neg (by omega), if_neg (by omega), if_neg (by omega), if_neg (by omega), if_pos (by omega)])
  have b5 : ((m.nx.length : Int) == 0) = false := beq_eq_false_iff_ne.2 (by omega)
  have b6 : ¬ (128 : Int) < m.nx.length := by omega
  have b9 : ((m.out.length : Int) != (m.nx.length : Int)) = false := by rw [bne_eq_false_iff_eq]; omega
  have b10 : ((m.set.length : Int) != (m.nx.length : Int)) = true := by rw [bne_iff_ne]; omega
  clear h q5 q6 q9 q10
  go_enter Try.func14, Try.ntmps14
  go_wp2
  go_ret
  exact ⟨by rw [HE.out]; rfl, hbel⟩
set_option maxRecDepth 100000 in
set_option maxHeartbeats 2000000 in
theorem tvalid_early_p (m : Tm.M) (A B C : Option Addr) (c d e : Nat) (w : World) (hR : RdT w A B C m)
    (h : m.I < 1 ∨ 64 < m.I ∨ m.T < 0 ∨ 4 < m.T ∨ 64 < m.I + m.T ∨ m.nx.length = 0 ∨ 128 < m.nx.length ∨ m.S < 0 ∨ (m.nx.length : Int) ≤ m.S ∨ m.out.length ≠ m.nx.length ∨ m.set.length ≠ m.nx.length) :
    Calls Try.prog 13 #[.agg #[.int .i64 m.I, .int .i64 m.T, .int .i64 m.S, .slice A m.nx.length c, .slice B m.out.length d, .slice C m.set.length e]] w fun e w' => e = .returned (.int .i64 (Tm.validE m)) ∧ Below w.heap.size w w' := by
  have m1 := hR.nx.1
  have m2 := hR.out.1
  have m3 := hR.set.1
  have hbel : Below w.heap.size w (w.alloc (.cells #[.int .i64 m.I, .int .i64 m.T, .int .i64 m.S, .slice A m.nx.length c, .slice B m.out.length d, .slice C m.set.length e] 25)) := (Below.refl _ _).alloc (Nat.le_refl _) _
  clear hR
  by_cases q0 : m.I < 1
  · have HE := Lib.hid (show Tm.validE m = 2 by unfold Tm.validE; rw [if_pos (by omega)])
    clear h
    go_enter Try.func13, Try.ntmps13
    go_wp2
    go_ret
    exact ⟨by rw [HE.out]; rfl, hbel⟩
  by_cases q1 : 64 < m.I
  · have HE := Lib.hid (show Tm.validE m = 2 by unfold Tm.validE; rw [if_pos (by omega)])
    clear h
    go_enter Try.func13, Try.ntmps13
    go_wp2
    go_ret
    exact ⟨by rw [HE.out]; rfl, hbel⟩
  by_cases q2 : m.T < 0
  · have HE := Lib.hid (show Tm.validE m = 2 by unfold Tm.validE; rw [if_pos (by omega)])
    clear h
    go_enter Try.func13, Try.ntmps13
    go_wp2
    go_ret
    exact ⟨by rw [HE.out]; rfl, hbel⟩
  by_cases q3 : 4 < m.T
  · have HE := Lib.hid (show Tm.validE m = 2 by unfold Tm.validE; rw [if_pos (by omega)])
    clear h
    go_enter Try.func13, Try.ntmps13
    go_wp2
    go_ret
    exact ⟨by rw [HE.out]; rfl, hbel⟩
  by_cases q4 : 64 < m.I + m.T
  · have HE := Lib.hid (show Tm.validE m = 11 by unfold Tm.validE; rw [if_neg (by omega), if_pos (by omega)])
    clear h
    go_enter Try.func13, Try.ntmps13
    go_wp2
    go_ret
    exact ⟨by rw [HE.out]; rfl, hbel⟩
  by_cases q5 : m.nx.length = 0
  · have HE := Lib.hid (show Tm.validE m = 19 by unfold Tm.validE; rw [if_neg (by omega), if_neg (by omega), if_pos (by omega)])
    have b5 : ((m.nx.length : Int) == 0) = true := by rw [beq_iff_eq]; omega
    clear h q5
    go_enter Try.func13, Try.ntmps13
    go_wp2
    go_ret
    exact ⟨by rw [HE.out]; rfl, hbel⟩
  by_cases q6 : 128 < m.nx.length
  · have HE := Lib.hid (show Tm.validE m = 11 by unfold Tm.validE; rw [if_neg (by omega), if_neg (by omega), if_neg (by omega), if_pos (by omega)])
    have b5 : ((m.nx.length : Int) == 0) = false := beq_eq_false_iff_ne.2 (by omega)
    have b6 : (128 : Int) < m.nx.length := by omega
    clear h q5 q6
    go_enter Try.func13, Try.ntmps13
    go_wp2
    go_ret
    exact ⟨by rw [HE.out]; rfl, hbel⟩
  by_cases q7 : m.S < 0
  · have HE := Lib.hid (show Tm.validE m = 2 by unfold Tm.validE; rw [if_neg (by omega), if_neg (by omega), if_neg (by omega), if_neg (by omega), if_pos (by omega)])
    have b5 : ((m.nx.length : Int) == 0) = false := beq_eq_false_iff_ne.2 (by omega)
    have b6 : ¬ (128 : Int) < m.nx.length := by omega
    clear h q5 q6
    go_enter Try.func13, Try.ntmps13
    go_wp2
    go_ret
    exact ⟨by rw [HE.out]; rfl, hbel⟩
  by_cases q8 : (m.nx.length : Int) ≤ m.S
  · have HE := Lib.hid (show Tm.validE m = 2 by unfold Tm.validE; rw [if_neg (by omega), if_neg (by omega), if_neg (by omega), if_neg (by omega), if_pos (by omega)])
    have b5 : ((m.nx.length : Int) == 0) = false := beq_eq_false_iff_ne.2 (by omega)
    have b6 : ¬ (128 : Int) < m.nx.length := by omega
    clear h q5 q6
    go_enter Try.func13, Try.ntmps13
    go_wp2
    go_ret
    exact ⟨by rw [HE.out]; rfl, hbel⟩
  by_cases q9 : m.out.length ≠ m.nx.length
  · have HE := Lib.hid (show Tm.validE m = 1 by unfold Tm.validE; rw [if_neg (by omega), if_neg (by omega), if_neg (by omega), if_neg (by omega), if_neg (by omega), if_pos (by omega)])
    have b5 : ((m.nx.length : Int) == 0) = false := beq_eq_false_iff_ne.2 (by omega)
    have b6 : ¬ (128 : Int) < m.nx.length := by omega
    have b9 : ((m.out.length : Int) != (m.nx.length : Int)) = true := by rw [bne_iff_ne]; omega
    clear h q5 q6 q9
    go_enter Try.func13, Try.ntmps13
    go_wp2
    go_ret
    exact ⟨by rw [HE.out]; rfl, hbel⟩
  have q10 : m.set.length ≠ m.nx.length := by omega
  have HE := Lib.hid (show Tm.validE m = 1 by unfold Tm.validE; rw [if_neg (by omega), if_neg (by omega), if_neg (by omega), if_neg (by omega), if_neg (by omega), if_pos (by omega)])
  have b5 : ((m.nx.length : Int) == 0) = false := beq_eq_false_iff_ne.2 (by omega)
  have b6 : ¬ (128 : Int) < m.nx.length := by omega
  have b9 : ((m.out.length : Int) != (m.nx.length : Int)) = false := by rw [bne_eq_false_iff_eq]; omega
  have b10 : ((m.set.length : Int) != (m.nx.length : Int)) = true := by rw [bne_iff_ne]; omega
  clear h q5 q6 q9 q10
  go_enter Try.func13, Try.ntmps13
  go_wp2
  go_ret
  exact ⟨by rw [HE.out]; rfl, hbel⟩
set_option maxRecDepth 100000 in
set_option maxHeartbeats 4000000 in
theorem tvalid_late_r (m : Tm.M) (k T S : Nat) (A B C : Option Addr) (c d e : Nat) (w : World) (hR : RdT w A B C m) (hI : m.I = k) (hT : m.T = T) (hS : m.S = S)
    (hk1 : 1 ≤ k) (ht4 : T ≤ 4) (hk64 : k + T ≤ 64) (hn1 : 0 < m.nx.length) (hn2 : m.nx.length ≤ 128) (hs : S < m.nx.length) (hout : m.out.length = m.nx.length) (hset : m.set.length = m.nx.length) :
    Calls Try.prog 14 #[.agg #[.int .i64 m.I, .int .i64 m.T, .int .i64 m.S, .slice A m.nx.length c, .slice B m.out.length d, .slice C m.set.length e]] w fun e w' => e = .returned (.int .i64 (Mea.firstE (Tm.rowE m) m.nx.length)) ∧ Below w.heap.size w w' := by
  have b1 : ((m.nx.length : Int) == 0) = false := beq_eq_false_iff_ne.2 (by omega)
  have b2 : ((m.out.length : Int) != (m.nx.length : Int)) = false := by rw [bne_eq_false_iff_eq]; omega
  have b2' : ((m.set.length : Int) != (m.nx.length : Int)) = false := by rw [bne_eq_false_iff_eq]; omega
  have b3 : ¬ (128 : Int) < m.nx.length := by omega
  have b4 : (S : Int) < m.nx.length := by omega
  have b0 : ¬ (k : Int) < 1 := by omega
  have b0' : ¬ (64 : Int) < k := by omega
  have b5 : ¬ (4 : Int) < T := by omega
  have b6 : ¬ (64 : Int) < (k : Int) + T := by omega
  have HO := Lib.hid hout
  have HSe := Lib.hid hset
  have HI := Lib.hid hI
  have HT := Lib.hid hT
  have HS := Lib.hid hS
  rw [hI, hT, hS]
  clear hout hset hI hT hS
  go_enter Try.func14, Try.ntmps14
  go_upto_region 1 with fail
  generalize hwb : World.alloc _ _ = wb
  have BX : Hid (BoxT wb w.heap.size m A c B d C e) := Lib.hid (boxT (by rw [← hwb, ← HI.out, ← HT.out, ← HS.out]; exact Blk.new _ _ _))
  have HBL : Hid (Below w.heap.size w wb) := Lib.hid (hwb ▸ (Below.refl _ _).alloc (Nat.le_refl _) _)
  have HR := Lib.hid (hR.keep HBL.out)
  clear hwb hR
  have c0 := BX.out.c0
  have c1 := BX.out.c1
  have c2 := BX.out.c2
  have c3 := BX.out.c3
  have c4 := BX.out.c4
  have c5 := BX.out.c5
  rw [HI.out] at c0
  rw [HT.out] at c1
  rw [HS.out] at c2
  go_wp2_with fail
  clear c0 c1 c2 c3 c4 c5
  go_loopw [4] (fun i wr => ∃ (j : Nat), j ≤ m.nx.length ∧ i = .int .i64 j ∧ Hid (Below wb.heap.size wb wr) ∧ Hid (∀ t, t < j → Tm.rowE m t = 0)) (fun i _ => m.nx.length - (intOf i).toNat)
  case atStart => exact ⟨0, Nat.zero_le _, rfl, Lib.hid (Below.refl _ _), Lib.hid (fun t ht => by omega)⟩
  case round =>
    obtain ⟨j, hj, rfl, HB, HZ⟩ := hrel
    have BXr := Lib.hid (BX.out.keep HB.out)
    have c3 := BXr.out.c3
    by_cases hjn : j < m.nx.length
    · obtain ⟨ad, C1, e1, xs, rfl, hx, cx, rx⟩ := (HR.out.nx.keep HB.out).at_ hjn
      obtain ⟨ad2, D1, f1, os, rfl, ho, co, ro⟩ := (HR.out.out.keep HB.out).at_ (i := j) (by rw [HO.out]; exact hjn)
      obtain ⟨ad3, E1, g1, ss, rfl, hsx, cs, rs⟩ := (HR.out.set.keep HB.out).at_ (i := j) (by rw [HSe.out]; exact hjn)
      have mx := rx.1
      have mo := ro.1
      have ms := rs.1
      have hj2 : (j : Int) < (m.out.length : Int) := by rw [HO.out]; omega
      have hj3 : (j : Int) < (m.set.length : Int) := by rw [HSe.out]; omega
      have c4 := BXr.out.c4
      have c5 := BXr.out.c5
      have HX := Lib.hid hx
      have HOx := Lib.hid ho
      have HSx := Lib.hid hsx
      clear hx ho hsx rx ro rs
      have hE : Tm.rowE m j = if xs.length = k + T ∧ os.length = k + T ∧ ss.length = k + T then Mea.firstE (Tm.cellE m j) (k + T) else 1 := by
        unfold Tm.rowE
        rw [HX.out, HOx.out, HSx.out, HI.out, HT.out, show ((k : Int) + (T : Int)).toNat = k + T by omega]
        by_cases hc : xs.length = k + T ∧ os.length = k + T ∧ ss.length = k + T
        · rw [if_pos hc, if_pos (by omega)]
        · rw [if_neg hc, if_neg (by omega)]
      have HE := Lib.hid hE
      clear hE
      by_cases h1 : xs.length = k + T
      rotate_left
      · have b7 : ((xs.length : Int) != (k : Int) + (T : Int)) = true := by rw [bne_iff_ne]; omega
        have hrow : Tm.rowE m j = 1 := by rw [HE.out, if_neg (by omega)]
        have HFIN := Lib.hid (show Mea.firstE (Tm.rowE m) m.nx.length = 1 by rw [Mea.firstE_at HZ.out (by rw [hrow]; decide) hjn, hrow])
        clear hrow h1
        go_wp2
        go_ret
        exact ⟨by rw [HFIN.out]; rfl, below_seq HBL.out HB.out⟩
      by_cases h2 : os.length = k + T
      rotate_left
      · have b7 : ((xs.length : Int) != (k : Int) + (T : Int)) = false := by rw [bne_eq_false_iff_eq]; omega
        have b8 : ((os.length : Int) != (k : Int) + (T : Int)) = true := by rw [bne_iff_ne]; omega
        have hrow : Tm.rowE m j = 1 := by rw [HE.out, if_neg (by omega)]
        have HFIN := Lib.hid (show Mea.firstE (Tm.rowE m) m.nx.length = 1 by rw [Mea.firstE_at HZ.out (by rw [hrow]; decide) hjn, hrow])
        clear hrow h1 h2
        go_wp2
        go_ret
        exact ⟨by rw [HFIN.out]; rfl, below_seq HBL.out HB.out⟩
      by_cases h3 : ss.length = k + T
      rotate_left
      · have b7 : ((xs.length : Int) != (k : Int) + (T : Int)) = false := by rw [bne_eq_false_iff_eq]; omega
        have b8 : ((os.length : Int) != (k : Int) + (T : Int)) = false := by rw [bne_eq_false_iff_eq]; omega
        have b9 : ((ss.length : Int) != (k : Int) + (T : Int)) = true := by rw [bne_iff_ne]; omega
        have hrow : Tm.rowE m j = 1 := by rw [HE.out, if_neg (by omega)]
        have HFIN := Lib.hid (show Mea.firstE (Tm.rowE m) m.nx.length = 1 by rw [Mea.firstE_at HZ.out (by rw [hrow]; decide) hjn, hrow])
        clear hrow h1 h2 h3
        go_wp2
        go_ret
        exact ⟨by rw [HFIN.out]; rfl, below_seq HBL.out HB.out⟩
      have b7 : ((xs.length : Int) != (k : Int) + (T : Int)) = false := by rw [bne_eq_false_iff_eq]; omega
      have b8 : ((os.length : Int) != (k : Int) + (T : Int)) = false := by rw [bne_eq_false_iff_eq]; omega
      have b9 : ((ss.length : Int) != (k : Int) + (T : Int)) = false := by rw [bne_eq_false_iff_eq]; omega
      have HR2 : Hid (Tm.rowE m j = Mea.firstE (Tm.cellE m j) (k + T)) := Lib.hid (by rw [HE.out, if_pos ⟨h1, h2, h3⟩])
      have HL := Lib.hid (And.intro h1 (And.intro h2 h3))
      clear h1 h2 h3
      go_wp2_with fail
      clear c3 c4 c5 cx co cs b7 b8 b9
      rename_i wj
      go_loopw [5] (fun i wr2 => ∃ (a : Nat), a ≤ k + T ∧ i = .int .i64 a ∧ Hid (Below wb.heap.size wb wr2) ∧ Hid (∀ t, t < a → Tm.cellE m j t = 0)) (fun i _ => k + T - (intOf i).toNat)
      case atStart => exact ⟨0, Nat.zero_le _, rfl, HB, Lib.hid (fun t ht => by omega)⟩
      case round =>
        obtain ⟨a, ha, rfl, HB2, HC⟩ := hrel
        by_cases hak : a < k + T
        · have hak' : (a : Int) < (k : Int) + (T : Int) := by omega
          have BX2 := Lib.hid (BX.out.keep HB2.out)
          go_upto_region 22 with fail
          go_wp2_with (first | (refine wpList_load_row rfl 25 _ rfl w.heap.size rfl 25 (tc m (some ad) c (some ad2) d (some ad3) e) (0, 0) _ BX2.out.blk Try.underlying25 rfl (by kernel_rfl) ?_))
          refine (sym_r m j a (some ad) (some ad2) (some ad3) c d e _ (HR.out.keep HB2.out) hjn HO.out HSe.out (by rw [HX.out, HL.out.1]; exact hak) (by rw [HOx.out, HL.out.2.1]; exact hak) (by rw [HSx.out, HL.out.2.2]; exact hak)).mono ?_
          rintro r w1 ⟨rfl, hb1⟩
          have HB3 := Lib.hid (below_seq HB2.out hb1)
          clear hb1
          generalize hq : Tm.cellE m j a = q
          have HQ := Lib.hid hq
          clear hq
          by_cases hq0 : q = 0
          · subst hq0
            go_wp2
            go_roundw
            case rel => exact ⟨a + 1, by omega, by go_num, HB3, Lib.hid (fun t ht => by
              by_cases e : t = a
              · rw [e]; exact HQ.out
              · exact HC.out t (by omega))⟩
            case measure => simp [intOf] <;> omega
          · have hbz : (q != 0) = true := by rw [bne_iff_ne]; exact hq0
            have hrow : Tm.rowE m j = q := by rw [HR2.out, Mea.firstE_at HC.out (by rw [HQ.out]; exact hq0) hak, HQ.out]
            have HFIN := Lib.hid (show Mea.firstE (Tm.rowE m) m.nx.length = q by rw [Mea.firstE_at HZ.out (by rw [hrow]; exact hq0) hjn, hrow])
            clear hrow hq0
            go_wp2
            go_ret
            exact ⟨by rw [HFIN.out]; rfl, below_seq HBL.out HB3.out⟩
        · obtain rfl : a = k + T := by omega
          have hak' : ¬ ((k + T : Nat) : Int) < (k : Int) + (T : Int) := by omega
          have HZ2 : Hid (Tm.rowE m j = 0) := Lib.hid (by rw [HR2.out]; exact Mea.firstE_zero HC.out)
          go_wp2
          go_roundw
          case rel => exact ⟨j + 1, by omega, by go_num, HB2, Lib.hid (fun t ht => by
            by_cases e : t = j
            · rw [e]; exact HZ2.out
            · exact HZ.out t (by omega))⟩
          case measure => simp [intOf] <;> omega
    · obtain rfl : j = m.nx.length := by omega
      have HFIN := Lib.hid (show Mea.firstE (Tm.rowE m) m.nx.length = 0 from Mea.firstE_zero HZ.out)
      go_wp2
      go_ret
      exact ⟨by rw [HFIN.out]; rfl, below_seq HBL.out HB.out⟩
theorem tvalid_r (m : Tm.M) (A B C : Option Addr) (c d e : Nat) (w : World) (hR : RdT w A B C m) :
    Calls Try.prog 14 #[.agg #[.int .i64 m.I, .int .i64 m.T, .int .i64 m.S, .slice A m.nx.length c, .slice B m.out.length d, .slice C m.set.length e]] w fun e w' => e = .returned (.int .i64 (Tm.validE m)) ∧ Below w.heap.size w w' := by
  by_cases h : m.I < 1 ∨ 64 < m.I ∨ m.T < 0 ∨ 4 < m.T ∨ 64 < m.I + m.T ∨ m.nx.length = 0 ∨ 128 < m.nx.length ∨ m.S < 0 ∨ (m.nx.length : Int) ≤ m.S ∨ m.out.length ≠ m.nx.length ∨ m.set.length ≠ m.nx.length
  · exact tvalid_early_r m A B C c d e w hR h
  · have := tvalid_late_r m m.I.toNat m.T.toNat m.S.toNat A B C c d e w hR (by omega) (by omega) (by omega) (by omega) (by omega) (by omega) (by omega) (by omega) (by omega) (by omega) (by omega)
    have hv : Tm.validE m = Mea.firstE (Tm.rowE m) m.nx.length := by unfold Tm.validE; rw [if_neg (by omega), if_neg (by omega), if_neg (by omega), if_neg (by omega), if_neg (by omega), if_neg (by omega)]
    rw [hv]; exact this
end Go.Proofs.Ytpcoddbkcelaoaa
