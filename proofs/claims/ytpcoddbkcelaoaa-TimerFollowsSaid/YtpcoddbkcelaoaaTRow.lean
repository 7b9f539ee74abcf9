/- The code's Valid of a machine with timers. -/
import Derived.Test.YtpcoddbkcelaoaaTVal
namespace Go.Proofs.Ytpcoddbkcelaoaa
open Go.RowKit

set_option maxRecDepth 100000 in
set_option maxHeartbeats 8000000 in
theorem trow_p (m : Tm.M) (k T s : Nat) (A B C : Option Addr) (c d e : Nat) (w : World) (hR : RdT w A B C m) (hI : m.I = k) (hT : m.T = T)
    (hk1 : 1 ≤ k) (ht4 : T ≤ 4) (hk64 : k + T ≤ 64) (hs : s < m.nx.length) (hout : m.out.length = m.nx.length) (hset : m.set.length = m.nx.length) :
    Calls Try.prog 27 #[.agg #[.int .i64 m.I, .int .i64 m.T, .int .i64 m.S, .slice A m.nx.length c, .slice B m.out.length d, .slice C m.set.length e], .int .i64 s] w fun e w' => e = .returned (.int .i64 (Tm.rowE m s)) ∧ Below w.heap.size w w' := by
  have HO := Lib.hid hout
  have HSe := Lib.hid hset
  have HI := Lib.hid hI
  have HT := Lib.hid hT
  have hj2 : (s : Int) < (m.out.length : Int) := by omega
  have hj3 : (s : Int) < (m.set.length : Int) := by omega
  have mn := hR.nx.1
  rw [hI, hT]
  clear hout hset hI hT
  go_enter Try.func27, Try.ntmps27
  go_upto_region 1 with fail
  generalize hwb : World.alloc _ _ = wb
  have BX : Hid (BoxT wb w.heap.size m A c B d C e) := Lib.hid (boxT (by rw [← hwb, ← HI.out, ← HT.out]; exact Blk.new _ _ _))
  have HBL : Hid (Below w.heap.size w wb) := Lib.hid (hwb ▸ (Below.refl _ _).alloc (Nat.le_refl _) _)
  have HR := Lib.hid (hR.keep HBL.out)
  clear hwb hR
  have c0 := BX.out.c0
  have c1 := BX.out.c1
  have c3 := BX.out.c3
  have c4 := BX.out.c4
  have c5 := BX.out.c5
  rw [HI.out] at c0
  rw [HT.out] at c1
  obtain ⟨ad, C1, e1, xs, rfl, hx, cx, rx⟩ := HR.out.nx.at_ hs
  obtain ⟨ad2, D1, f1, os, rfl, ho, co, ro⟩ := HR.out.out.at_ (i := s) (by rw [HO.out]; exact hs)
  obtain ⟨ad3, E1, g1, ss, rfl, hsx, cs, rs⟩ := HR.out.set.at_ (i := s) (by rw [HSe.out]; exact hs)
  have mx := rx.1
  have mo := ro.1
  have ms := rs.1
  have HX := Lib.hid hx
  have HOx := Lib.hid ho
  have HSx := Lib.hid hsx
  have RX := Lib.hid rx
  have RO := Lib.hid ro
  have RS := Lib.hid rs
  clear hx ho hsx rx ro rs
  have hE : Tm.rowE m s = if xs.length = k + T ∧ os.length = k + T ∧ ss.length = k + T then Mea.firstE (Tm.cellE m s) (k + T) else 1 := by
    unfold Tm.rowE
    rw [HX.out, HOx.out, HSx.out, HI.out, HT.out, show ((k : Int) + (T : Int)).toNat = k + T by omega]
    by_cases hc : xs.length = k + T ∧ os.length = k + T ∧ ss.length = k + T
    · rw [if_pos hc, if_pos (by omega)]
    · rw [if_neg hc, if_neg (by omega)]
  have HRE := Lib.hid hE
  clear hE
  by_cases h1 : xs.length = k + T
  rotate_left
  · have b7 : ((xs.length : Int) != (k : Int) + (T : Int)) = true := by rw [bne_iff_ne]; omega
    have HFIN := Lib.hid (show Tm.rowE m s = 1 by rw [HRE.out, if_neg (by omega)])
    clear h1
    go_wp2
    go_ret
    exact ⟨by rw [HFIN.out]; rfl, HBL.out⟩
  by_cases h2 : os.length = k + T
  rotate_left
  · have b7 : ((xs.length : Int) != (k : Int) + (T : Int)) = false := by rw [bne_eq_false_iff_eq]; omega
    have b8 : ((os.length : Int) != (k : Int) + (T : Int)) = true := by rw [bne_iff_ne]; omega
    have HFIN := Lib.hid (show Tm.rowE m s = 1 by rw [HRE.out, if_neg (by omega)])
    clear h1 h2
    go_wp2
    go_ret
    exact ⟨by rw [HFIN.out]; rfl, HBL.out⟩
  by_cases h3 : ss.length = k + T
  rotate_left
  · have b7 : ((xs.length : Int) != (k : Int) + (T : Int)) = false := by rw [bne_eq_false_iff_eq]; omega
    have b8 : ((os.length : Int) != (k : Int) + (T : Int)) = false := by rw [bne_eq_false_iff_eq]; omega
    have b9 : ((ss.length : Int) != (k : Int) + (T : Int)) = true := by rw [bne_iff_ne]; omega
    have HFIN := Lib.hid (show Tm.rowE m s = 1 by rw [HRE.out, if_neg (by omega)])
    clear h1 h2 h3
    go_wp2
    go_ret
    exact ⟨by rw [HFIN.out]; rfl, HBL.out⟩
  have b7 : ((xs.length : Int) != (k : Int) + (T : Int)) = false := by rw [bne_eq_false_iff_eq]; omega
  have b8 : ((os.length : Int) != (k : Int) + (T : Int)) = false := by rw [bne_eq_false_iff_eq]; omega
  have b9 : ((ss.length : Int) != (k : Int) + (T : Int)) = false := by rw [bne_eq_false_iff_eq]; omega
  have HR2 : Hid (Tm.rowE m s = Mea.firstE (Tm.cellE m s) (k + T)) := Lib.hid (by rw [HRE.out, if_pos ⟨h1, h2, h3⟩])
  have HL := Lib.hid (And.intro h1 (And.intro h2 h3))
  have HCX := Lib.hid (And.intro cx (And.intro co cs))
  clear h1 h2 h3
  go_wp2_with fail
  clear c0 c1 c3 c4 c5 b7 b8 b9 cx co cs HRE
  go_loopw [42] (fun v wr => ∃ (i : Nat), i ≤ k + T ∧ v = .int .i64 i ∧ Hid (Below wb.heap.size wb wr) ∧ Hid (∀ t, t < i → Tm.cellE m s t = 0)) (fun v _ => k + T - (intOf v).toNat)
  case atStart => exact ⟨0, Nat.zero_le _, rfl, Lib.hid (Below.refl _ _), Lib.hid (fun t ht => by omega)⟩
  case round =>
    obtain ⟨i, hi, rfl, HB, HC⟩ := hrel
    by_cases hik : i < k + T
    rotate_left
    · obtain rfl : i = k + T := by omega
      have hak' : ¬ ((k + T : Nat) : Int) < (k : Int) + (T : Int) := by omega
      have HFIN := Lib.hid (show Tm.rowE m s = 0 by rw [HR2.out]; exact Mea.firstE_zero HC.out)
      go_wp2
      go_ret
      exact ⟨by rw [HFIN.out]; rfl, below_seq HBL.out HB.out⟩
    have hak' : (i : Int) < (k : Int) + (T : Int) := by omega
    rename_i wr
    have hix : i < xs.length := by rw [HL.out.1]; exact hik
    have hio : i < os.length := by rw [HL.out.2.1]; exact hik
    have his : i < ss.length := by rw [HL.out.2.2]; exact hik
    obtain ⟨ad1, t, rfl, ht, ct⟩ := (RX.out.keep HB.out).at_ hix
    obtain ⟨bd1, o, rfl, hot, cot⟩ := (RO.out.keep HB.out).at_ hio
    obtain ⟨gd1, a, b, rfl, hab, ca, cb⟩ := (RS.out.keep HB.out).at_ his
    have cs := keep_cell HB.out HCX.out.2.2
    have c5 := (BX.out.keep HB.out).c5
    go_upto_region 8 with (refine wpList_load_any rfl 104 _ rfl (gd1.add (i * 2)) rfl [.int .i64 a, .int .i64 b] _ (cells2' ca cb) Try.underlying104 rfl (by kernel_rfl) ?_)
    generalize hwc : World.alloc _ _ = wc
    have g0 : wc.cell? ⟨wr.heap.size, 0, none⟩ = some (.int .i64 a) := by rw [← hwc, World.cell?_alloc_at (hn := rfl)]; rfl
    have g1 : wc.cell? ⟨wr.heap.size, 1, none⟩ = some (.int .i64 b) := by rw [← hwc, World.cell?_alloc_at (hn := rfl)]; rfl
    have hbc : Below wr.heap.size wr wc := hwc ▸ (Below.refl _ _).alloc (Nat.le_refl _) _
    have HCD := Lib.hid (below_seq HB.out hbc)
    have HCB := Lib.hid (below_seq HBL.out HCD.out)
    clear hwc
    have hE : Tm.cellE m s i = Tm.symE m.nx.length T t o a b := by unfold Tm.cellE; rw [HX.out, HOx.out, HSx.out, ht, hot, hab, HT.out]
    have HE := Lib.hid hE
    have BX' := Lib.hid (BX.out.keep HCD.out)
    have c1 := BX'.out.c1
    rw [HT.out] at c1
    have c3 := BX'.out.c3
    have c4 := BX'.out.c4
    have cx := keep_cell HCD.out HCX.out.1
    have co := keep_cell HCD.out HCX.out.2.1
    have ct' := keep_cell hbc ct
    have cot' := keep_cell hbc cot
    clear hE ht hot hab ct cot ca cb cs hbc c5 BX'
    by_cases q0 : t < 0
    · have hval : Tm.cellE m s i = 2 := by rw [HE.out]; unfold Tm.symE; rw [if_pos (by omega)]
      have HFIN := Lib.hid (show Tm.rowE m s = 2 by rw [HR2.out, Mea.firstE_at HC.out (by rw [hval]; decide) hik, hval])
      have d1 : decide (t < 0) = true := by simpa using q0
      clear q0
      clear hval
      go_quiet (fail)
      go_wp2
      go_ret
      first | exact ⟨by rw [HFIN.out]; rfl, below_drewN' HCB.out _⟩ | exact ⟨by rw [HFIN.out]; rfl, below_drewN' (below_drewN' HCB.out _) _⟩ | exact ⟨by rw [HFIN.out]; rfl, HCB.out⟩
    by_cases q1 : (m.nx.length : Int) ≤ t
    · have hval : Tm.cellE m s i = 2 := by rw [HE.out]; unfold Tm.symE; rw [if_pos (by omega)]
      have HFIN := Lib.hid (show Tm.rowE m s = 2 by rw [HR2.out, Mea.firstE_at HC.out (by rw [hval]; decide) hik, hval])
      have d1 : decide (t < 0) = false := by simpa using q0
      have d2 : decide ((m.nx.length : Int) ≤ t) = true := by simpa using q1
      clear q0 q1
      clear hval
      go_quiet (fail)
      go_wp2
      go_ret
      first | exact ⟨by rw [HFIN.out]; rfl, below_drewN' HCB.out _⟩ | exact ⟨by rw [HFIN.out]; rfl, below_drewN' (below_drewN' HCB.out _) _⟩ | exact ⟨by rw [HFIN.out]; rfl, HCB.out⟩
    by_cases q2 : o < 0
    · have hval : Tm.cellE m s i = 2 := by rw [HE.out]; unfold Tm.symE; rw [if_pos (by omega)]
      have HFIN := Lib.hid (show Tm.rowE m s = 2 by rw [HR2.out, Mea.firstE_at HC.out (by rw [hval]; decide) hik, hval])
      have d1 : decide (t < 0) = false := by simpa using q0
      have d2 : decide ((m.nx.length : Int) ≤ t) = false := by simpa using q1
      have d3 : decide (o < 0) = true := by simpa using q2
      clear q0 q1 q2
      clear hval
      go_quiet (fail)
      go_wp2
      go_ret
      first | exact ⟨by rw [HFIN.out]; rfl, below_drewN' HCB.out _⟩ | exact ⟨by rw [HFIN.out]; rfl, below_drewN' (below_drewN' HCB.out _) _⟩ | exact ⟨by rw [HFIN.out]; rfl, HCB.out⟩
    by_cases q3 : 1048576 < o
    · have hval : Tm.cellE m s i = 2 := by rw [HE.out]; unfold Tm.symE; rw [if_pos (by omega)]
      have HFIN := Lib.hid (show Tm.rowE m s = 2 by rw [HR2.out, Mea.firstE_at HC.out (by rw [hval]; decide) hik, hval])
      have d1 : decide (t < 0) = false := by simpa using q0
      have d2 : decide ((m.nx.length : Int) ≤ t) = false := by simpa using q1
      have d3 : decide (o < 0) = false := by simpa using q2
      have d4 : decide (1048576 < o) = true := by simpa using q3
      clear q0 q1 q2 q3
      clear hval
      go_quiet (fail)
      go_wp2
      go_ret
      first | exact ⟨by rw [HFIN.out]; rfl, below_drewN' HCB.out _⟩ | exact ⟨by rw [HFIN.out]; rfl, below_drewN' (below_drewN' HCB.out _) _⟩ | exact ⟨by rw [HFIN.out]; rfl, HCB.out⟩
    by_cases q4 : a < -1
    · have hval : Tm.cellE m s i = 2 := by rw [HE.out]; unfold Tm.symE; rw [if_neg (by omega), if_pos (by omega)]
      have HFIN := Lib.hid (show Tm.rowE m s = 2 by rw [HR2.out, Mea.firstE_at HC.out (by rw [hval]; decide) hik, hval])
      have d1 : decide (t < 0) = false := by simpa using q0
      have d2 : decide ((m.nx.length : Int) ≤ t) = false := by simpa using q1
      have d3 : decide (o < 0) = false := by simpa using q2
      have d4 : decide (1048576 < o) = false := by simpa using q3
      have d5 : decide (a < -1) = true := by simpa using q4
      clear q0 q1 q2 q3 q4
      clear hval
      go_quiet (fail)
      go_wp2
      go_ret
      first | exact ⟨by rw [HFIN.out]; rfl, below_drewN' HCB.out _⟩ | exact ⟨by rw [HFIN.out]; rfl, below_drewN' (below_drewN' HCB.out _) _⟩ | exact ⟨by rw [HFIN.out]; rfl, HCB.out⟩
    by_cases q5 : (T : Int) ≤ a
    · have hval : Tm.cellE m s i = 2 := by rw [HE.out]; unfold Tm.symE; rw [if_neg (by omega), if_pos (by omega)]
      have HFIN := Lib.hid (show Tm.rowE m s = 2 by rw [HR2.out, Mea.firstE_at HC.out (by rw [hval]; decide) hik, hval])
      have d1 : decide (t < 0) = false := by simpa using q0
      have d2 : decide ((m.nx.length : Int) ≤ t) = false := by simpa using q1
      have d3 : decide (o < 0) = false := by simpa using q2
      have d4 : decide (1048576 < o) = false := by simpa using q3
      have d5 : decide (a < -1) = false := by simpa using q4
      have d6 : decide ((T : Int) ≤ a) = true := by simpa using q5
      clear q0 q1 q2 q3 q4 q5
      clear hval
      go_quiet (fail)
      go_wp2
      go_ret
      first | exact ⟨by rw [HFIN.out]; rfl, below_drewN' HCB.out _⟩ | exact ⟨by rw [HFIN.out]; rfl, below_drewN' (below_drewN' HCB.out _) _⟩ | exact ⟨by rw [HFIN.out]; rfl, HCB.out⟩
    by_cases q6 : b < 0
    · have hval : Tm.cellE m s i = 2 := by rw [HE.out]; unfold Tm.symE; rw [if_neg (by omega), if_pos (by omega)]
      have HFIN := Lib.hid (show Tm.rowE m s = 2 by rw [HR2.out, Mea.firstE_at HC.out (by rw [hval]; decide) hik, hval])
      have d1 : decide (t < 0) = false := by simpa using q0
      have d2 : decide ((m.nx.length : Int) ≤ t) = false := by simpa using q1
      have d3 : decide (o < 0) = false := by simpa using q2
      have d4 : decide (1048576 < o) = false := by simpa using q3
      have d5 : decide (a < -1) = false := by simpa using q4
      have d6 : decide ((T : Int) ≤ a) = false := by simpa using q5
      have d7 : decide (b < 0) = true := by simpa using q6
      clear q0 q1 q2 q3 q4 q5 q6
      clear hval
      go_quiet (fail)
      go_wp2
      go_ret
      first | exact ⟨by rw [HFIN.out]; rfl, below_drewN' HCB.out _⟩ | exact ⟨by rw [HFIN.out]; rfl, below_drewN' (below_drewN' HCB.out _) _⟩ | exact ⟨by rw [HFIN.out]; rfl, HCB.out⟩
    by_cases q7 : 1000 < b
    · have hval : Tm.cellE m s i = 2 := by rw [HE.out]; unfold Tm.symE; rw [if_neg (by omega), if_pos (by omega)]
      have HFIN := Lib.hid (show Tm.rowE m s = 2 by rw [HR2.out, Mea.firstE_at HC.out (by rw [hval]; decide) hik, hval])
      have d1 : decide (t < 0) = false := by simpa using q0
      have d2 : decide ((m.nx.length : Int) ≤ t) = false := by simpa using q1
      have d3 : decide (o < 0) = false := by simpa using q2
      have d4 : decide (1048576 < o) = false := by simpa using q3
      have d5 : decide (a < -1) = false := by simpa using q4
      have d6 : decide ((T : Int) ≤ a) = false := by simpa using q5
      have d7 : decide (b < 0) = false := by simpa using q6
      have d8 : decide (1000 < b) = true := by simpa using q7
      clear q0 q1 q2 q3 q4 q5 q6 q7
      clear hval
      go_quiet (fail)
      go_wp2
      go_ret
      first | exact ⟨by rw [HFIN.out]; rfl, below_drewN' HCB.out _⟩ | exact ⟨by rw [HFIN.out]; rfl, below_drewN' (below_drewN' HCB.out _) _⟩ | exact ⟨by rw [HFIN.out]; rfl, HCB.out⟩
    by_cases q8 : a = -1
    · by_cases q9 : b = 0
      · have HV : Hid (Tm.cellE m s i = 0) := Lib.hid (by rw [HE.out]; unfold Tm.symE; rw [if_neg (by omega), if_neg (by omega), if_neg (by omega)])
        have d1 : decide (t < 0) = false := by simpa using q0
        have d2 : decide ((m.nx.length : Int) ≤ t) = false := by simpa using q1
        have d3 : decide (o < 0) = false := by simpa using q2
        have d4 : decide (1048576 < o) = false := by simpa using q3
        have d5 : decide (a < -1) = false := by simpa using q4
        have d6 : decide ((T : Int) ≤ a) = false := by simpa using q5
        have d7 : decide (b < 0) = false := by simpa using q6
        have d8 : decide (1000 < b) = false := by simpa using q7
        have d9 : (a == -1) = true := by simpa using q8
        have d10 : (b != 0) = false := by simpa using q9
        clear q0 q1 q2 q3 q4 q5 q6 q7 q8 q9
        go_quiet (fail)
        go_wp2
        go_roundw
        case rel => exact ⟨i + 1, by omega, by go_num, Lib.hid (by first | exact below_drewN' HCD.out _ | exact below_drewN' (below_drewN' HCD.out _) _ | exact HCD.out), Lib.hid (fun t ht => by
          by_cases e : t = i
          · rw [e]; exact HV.out
          · exact HC.out t (by omega))⟩
        case measure => simp [intOf] <;> omega
      · have hval : Tm.cellE m s i = 1 := by rw [HE.out]; unfold Tm.symE; rw [if_neg (by omega), if_neg (by omega), if_pos (by omega)]
        have HFIN := Lib.hid (show Tm.rowE m s = 1 by rw [HR2.out, Mea.firstE_at HC.out (by rw [hval]; decide) hik, hval])
        have d1 : decide (t < 0) = false := by simpa using q0
        have d2 : decide ((m.nx.length : Int) ≤ t) = false := by simpa using q1
        have d3 : decide (o < 0) = false := by simpa using q2
        have d4 : decide (1048576 < o) = false := by simpa using q3
        have d5 : decide (a < -1) = false := by simpa using q4
        have d6 : decide ((T : Int) ≤ a) = false := by simpa using q5
        have d7 : decide (b < 0) = false := by simpa using q6
        have d8 : decide (1000 < b) = false := by simpa using q7
        have d9 : (a == -1) = true := by simpa using q8
        have d10 : (b != 0) = true := by simpa using q9
        clear q0 q1 q2 q3 q4 q5 q6 q7 q8 q9
        clear hval
        go_quiet (fail)
        go_wp2
        go_ret
        first | exact ⟨by rw [HFIN.out]; rfl, below_drewN' HCB.out _⟩ | exact ⟨by rw [HFIN.out]; rfl, below_drewN' (below_drewN' HCB.out _) _⟩ | exact ⟨by rw [HFIN.out]; rfl, HCB.out⟩
    · have HV : Hid (Tm.cellE m s i = 0) := Lib.hid (by rw [HE.out]; unfold Tm.symE; rw [if_neg (by omega), if_neg (by omega), if_neg (by omega)])
      have d1 : decide (t < 0) = false := by simpa using q0
      have d2 : decide ((m.nx.length : Int) ≤ t) = false := by simpa using q1
      have d3 : decide (o < 0) = false := by simpa using q2
      have d4 : decide (1048576 < o) = false := by simpa using q3
      have d5 : decide (a < -1) = false := by simpa using q4
      have d6 : decide ((T : Int) ≤ a) = false := by simpa using q5
      have d7 : decide (b < 0) = false := by simpa using q6
      have d8 : decide (1000 < b) = false := by simpa using q7
      have d9 : (a == -1) = false := by simpa using q8
      clear q0 q1 q2 q3 q4 q5 q6 q7 q8
      go_quiet (fail)
      go_wp2
      go_roundw
      case rel => exact ⟨i + 1, by omega, by go_num, Lib.hid (by first | exact below_drewN' HCD.out _ | exact below_drewN' (below_drewN' HCD.out _) _ | exact HCD.out), Lib.hid (fun t ht => by
        by_cases e : t = i
        · rw [e]; exact HV.out
        · exact HC.out t (by omega))⟩
      case measure => simp [intOf] <;> omega

set_option maxRecDepth 100000 in
set_option maxHeartbeats 4000000 in
theorem tvalid_late_p (m : Tm.M) (k T S : Nat) (A B C : Option Addr) (c d e : Nat) (w : World) (hR : RdT w A B C m) (hI : m.I = k) (hT : m.T = T) (hS : m.S = S)
    (hk1 : 1 ≤ k) (ht4 : T ≤ 4) (hk64 : k + T ≤ 64) (hn1 : 0 < m.nx.length) (hn2 : m.nx.length ≤ 128) (hs : S < m.nx.length) (hout : m.out.length = m.nx.length) (hset : m.set.length = m.nx.length) :
    Calls Try.prog 13 #[.agg #[.int .i64 m.I, .int .i64 m.T, .int .i64 m.S, .slice A m.nx.length c, .slice B m.out.length d, .slice C m.set.length e]] w fun e w' => e = .returned (.int .i64 (Mea.firstE (Tm.rowE m) m.nx.length)) ∧ Below w.heap.size w w' := by
  have b1 : ((m.nx.length : Int) == 0) = false := beq_eq_false_iff_ne.2 (by omega)
  have b2 : ((m.out.length : Int) != (m.nx.length : Int)) = false := by rw [bne_eq_false_iff_eq]; omega
  have b2' : ((m.set.length : Int) != (m.nx.length : Int)) = false := by rw [bne_eq_false_iff_eq]; omega
  have b3 : ¬ (128 : Int) < m.nx.length := by omega
  have b4 : (S : Int) < m.nx.length := by omega
  have b0 : ¬ (k : Int) < 1 := by omega
  have b0' : ¬ (64 : Int) < k := by omega
  have b5 : ¬ (4 : Int) < T := by omega
  have b6 : ¬ (64 : Int) < (k : Int) + T := by omega
  have HO := Lib.hid hout
  have HSe := Lib.hid hset
  have HI := Lib.hid hI
  have HT := Lib.hid hT
  have HS := Lib.hid hS
  rw [hI, hT, hS]
  clear hout hset hI hT hS
  go_enter Try.func13, Try.ntmps13
  go_upto_region 1 with fail
  generalize hwb : World.alloc _ _ = wb
  have BX : Hid (BoxT wb w.heap.size m A c B d C e) := Lib.hid (boxT (by rw [← hwb, ← HI.out, ← HT.out, ← HS.out]; exact Blk.new _ _ _))
  have HBL : Hid (Below w.heap.size w wb) := Lib.hid (hwb ▸ (Below.refl _ _).alloc (Nat.le_refl _) _)
  have HR := Lib.hid (hR.keep HBL.out)
  clear hwb hR
  have c0 := BX.out.c0
  have c1 := BX.out.c1
  have c2 := BX.out.c2
  have c3 := BX.out.c3
  have c4 := BX.out.c4
  have c5 := BX.out.c5
  rw [HI.out] at c0
  rw [HT.out] at c1
  rw [HS.out] at c2
  go_wp2_with fail
  clear c0 c1 c2 c3 c4 c5
  go_loopw [73] (fun i wr => ∃ (j : Nat), j ≤ m.nx.length ∧ i = .int .i64 j ∧ Hid (Below wb.heap.size wb wr) ∧ Hid (∀ t, t < j → Tm.rowE m t = 0)) (fun i _ => m.nx.length - (intOf i).toNat)
  case atStart => exact ⟨0, Nat.zero_le _, rfl, Lib.hid (Below.refl _ _), Lib.hid (fun t ht => by omega)⟩
  case round =>
    obtain ⟨j, hj, rfl, HB, HZ⟩ := hrel
    have BXr := Lib.hid (BX.out.keep HB.out)
    by_cases hjn : j < m.nx.length
    · go_upto_region 16 with fail
      go_wp2_with (first | (refine wpList_load_row rfl 25 _ rfl w.heap.size rfl 25 (tc m A c B d C e) (0, 0) _ BXr.out.blk Try.underlying25 rfl (by kernel_rfl) ?_))
      refine (trow_p m k T j A B C c d e _ (HR.out.keep HB.out) HI.out HT.out hk1 ht4 hk64 hjn HO.out HSe.out).mono ?_
      rintro r w1 ⟨rfl, hb1⟩
      have HB3 := Lib.hid (below_seq HB.out hb1)
      clear hb1
      generalize hq : Tm.rowE m j = q
      have HQ := Lib.hid hq
      clear hq
      by_cases hq0 : q = 0
      · subst hq0
        go_wp2
        go_roundw
        case rel => exact ⟨j + 1, by omega, by go_num, HB3, Lib.hid (fun t ht => by
          by_cases e : t = j
          · rw [e]; exact HQ.out
          · exact HZ.out t (by omega))⟩
        case measure => simp [intOf] <;> omega
      · have hbz : (q != 0) = true := by rw [bne_iff_ne]; exact hq0
        have HFIN := Lib.hid (show Mea.firstE (Tm.rowE m) m.nx.length = q by rw [Mea.firstE_at HZ.out (by rw [HQ.out]; exact hq0) hjn, HQ.out])
        clear hq0
        go_wp2
        go_ret
        exact ⟨by rw [HFIN.out]; rfl, below_seq HBL.out HB3.out⟩
    · obtain rfl : j = m.nx.length := by omega
      have HFIN := Lib.hid (show Mea.firstE (Tm.rowE m) m.nx.length = 0 from Mea.firstE_zero HZ.out)
      go_wp2
      go_ret
      exact ⟨by rw [HFIN.out]; rfl, below_seq HBL.out HB.out⟩
theorem tvalid_p (m : Tm.M) (A B C : Option Addr) (c d e : Nat) (w : World) (hR : RdT w A B C m) :
    Calls Try.prog 13 #[.agg #[.int .i64 m.I, .int .i64 m.T, .int .i64 m.S, .slice A m.nx.length c, .slice B m.out.length d, .slice C m.set.length e]] w fun e w' => e = .returned (.int .i64 (Tm.validE m)) ∧ Below w.heap.size w w' := by
  by_cases h : m.I < 1 ∨ 64 < m.I ∨ m.T < 0 ∨ 4 < m.T ∨ 64 < m.I + m.T ∨ m.nx.length = 0 ∨ 128 < m.nx.length ∨ m.S < 0 ∨ (m.nx.length : Int) ≤ m.S ∨ m.out.length ≠ m.nx.length ∨ m.set.length ≠ m.nx.length
  · exact tvalid_early_p m A B C c d e w hR h
  · have := tvalid_late_p m m.I.toNat m.T.toNat m.S.toNat A B C c d e w hR (by omega) (by omega) (by omega) (by omega) (by omega) (by omega) (by omega) (by omega) (by omega) (by omega) (by omega)
    have hv : Tm.validE m = Mea.firstE (Tm.rowE m) m.nx.length := by unfold Tm.validE; rw [if_neg (by omega), if_neg (by omega), if_neg (by omega), if_neg (by omega), if_neg (by omega), if_neg (by omega)]
    rw [hv]; exact this
end Go.Proofs.Ytpcoddbkcelaoaa
