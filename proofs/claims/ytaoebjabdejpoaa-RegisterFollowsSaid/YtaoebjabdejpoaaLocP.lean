/- The code's location of a register automaton: its error. -/
import Derived.Test.YtaoebjabdejpoaaReg
namespace Go.Proofs.Ytaoebjabdejpoaa
open Go.RowKit

set_option linter.unusedSimpArgs false
set_option maxRecDepth 100000 in
set_option maxHeartbeats 8000000 in
theorem loc_p (m : Rg.M) (k l : Nat) (A B : Option Addr) (c d : Nat) (w : World) (hR : RdA w A B m) (hI : m.I = k) (hl : l < m.rg.length) (hlt : m.tr.length = m.rg.length) (hr : 0 ≤ Rg.nr m l ∧ Rg.nr m l ≤ 4) :
    Calls Try.prog 32 #[.agg #[.int .i64 m.I, .int .i64 m.S, .slice A m.rg.length c, .slice B m.tr.length d], .int .i64 l] w fun r w' => r = .returned (.int .i64 (Rg.locE m l)) ∧ Below w.heap.size w w' := by
  have HI := Lib.hid hI
  have HT := Lib.hid hlt
  have mn := hR.rg.1
  have hlm : (l : Int) < (m.tr.length : Int) := by omega
  have hli : (l : Int) < (m.rg.length : Int) := by omega
  clear hI hlt
  go_enter Try.func32, Try.ntmps32
  go_upto_region 1 with fail
  generalize hwb : World.alloc _ _ = w1
  have BX : Hid (BoxT w1 w.heap.size m A c B d) := Lib.hid (boxT (by rw [← hwb]; exact Blk.new _ _ _))
  have HBL : Hid (Below w.heap.size w w1) := Lib.hid (by rw [← hwb]; exact (Below.refl _ _).alloc (Nat.le_refl _) _)
  have HR := Lib.hid (hR.keep HBL.out)
  clear hwb hR
  have hlt2 : l < m.tr.length := by have := HT.out; omega
  obtain ⟨ad, C1, e1, xs, rfl, hx, cx, rx⟩ := HR.out.tr.at_ hlt2
  have c0 := BX.out.c0
  rw [HI.out] at c0
  have c2 := BX.out.c2
  have c3 := BX.out.c3
  have mx := rx.1
  have HX := Lib.hid hx
  have RX := Lib.hid rx
  clear hx rx hlt2
  by_cases h1 : xs.length = k
  rotate_left
  · have HFIN := Lib.hid (show Rg.locE m l = 1 from Rg.loc_len (by rw [HX.out, HI.out]; omega))
    have b7 : ((xs.length : Int) != (k : Int)) = true := by rw [bne_iff_ne]; omega
    clear h1
    go_quiet (fail)
    go_wp2
    go_ret
    exact ⟨by rw [HFIN.out]; rfl, below_drewN' HBL.out _⟩
  have HLO : Hid (Rg.locE m l = Mea.firstE (Rg.actE m l) k) := Lib.hid (by have := Rg.loc_in (m := m) (l := l) (by rw [HX.out, HI.out]; omega); rw [HI.out, Int.toNat_natCast] at this; exact this)
  have b7 : ((xs.length : Int) != (k : Int)) = false := by rw [bne_eq_false_iff_eq]; omega
  have HL := Lib.hid h1
  clear h1
  go_quiet (fail)
  clear b7
  go_upto_region 4 with fail
  obtain ⟨a2, r, e2, hr0, cr⟩ := HR.out.rg.at_ hl
  have HNR : Hid (Rg.nr m l = r) := Lib.hid hr0
  rw [HNR.out] at hr
  subst e2
  have hr1 : 0 ≤ r + 1 := by omega
  have hwr : IntKind.i64.wrap (r + 1) = r + 1 := IntWalk.i64_in (r + 1) (by omega)
  clear hr0
  generalize hwd : w1.drewN _ = w2
  have h12 : Below w1.heap.size w1 w2 := by rw [← hwd]; exact below_drewN' (Below.refl _ _) _
  replace BX := Lib.hid (BX.out.keep h12)
  replace RX := Lib.hid (RX.out.keep (fun h b => h.keep b) h12)
  replace HR := Lib.hid (HR.out.keep h12)
  replace HBL := Lib.hid (below_seq HBL.out h12)
  replace c0 := keep_cell h12 c0
  replace c2 := keep_cell h12 c2
  replace c3 := keep_cell h12 c3
  replace cx := keep_cell h12 cx
  replace cr := keep_cell h12 cr
  clear h12 hwd w1
  have HC2 := Lib.hid c2
  have HC3 := Lib.hid c3
  have HCX := Lib.hid cx
  have HCR := Lib.hid cr
  clear c0 c2 c3 cx cr BX
  go_loopw [21] (fun v wr => ∃ (a : Nat), a ≤ k ∧ v = .int .i64 a ∧ Hid (Below w2.heap.size w2 wr) ∧ Hid (∀ t, t < a → Rg.actE m l t = 0)) (fun v _ => k - (intOf v).toNat)
  case atStart => exact ⟨0, Nat.zero_le _, rfl, Lib.hid (Below.refl _ _), Lib.hid (fun t ht => by omega)⟩
  case round =>
    obtain ⟨a, ha, rfl, HB, HC⟩ := hrel
    rename World => wr
    by_cases hak : a < k
    rotate_left
    · obtain rfl : a = k := by omega
      have HFIN := Lib.hid (show Rg.locE m l = 0 by rw [HLO.out]; exact Mea.firstE_zero HC.out)
      go_wp2
      go_ret
      exact ⟨by rw [HFIN.out]; rfl, below_seq HBL.out HB.out⟩
    have hax : a < xs.length := by rw [HL.out]; exact hak
    have haxi : (a : Int) < (xs.length : Int) := by omega
    obtain ⟨a1, C2, e3, ys, rfl, hy, cy, ry⟩ := RX.out.at_ hax
    have HY : Hid (Rg.cellT m l a = ys) := Lib.hid (by unfold Rg.cellT; rw [HX.out]; exact hy)
    have my := ry.1
    have RY := Lib.hid ry
    have HCY := Lib.hid cy
    replace cy := keep_cell HB.out cy
    have c2 := keep_cell HB.out HC2.out
    have c3 := keep_cell HB.out HC3.out
    have cx := keep_cell HB.out HCX.out
    have cr := keep_cell HB.out HCR.out
    clear hy ry
    by_cases h2 : (ys.length : Int) = r + 1
    rotate_left
    · have hval : Rg.actE m l a = 1 := Rg.act_len (by rw [HY.out, HNR.out]; exact h2)
      have HFIN := Lib.hid (show Rg.locE m l = 1 by rw [HLO.out]; exact (Mea.firstE_at HC.out (by rw [hval]; decide) hak).trans hval)
      have b7 : ((ys.length : Int) != r + 1) = true := by rw [bne_iff_ne]; exact h2
      clear hval h2
      go_upto_region 6 with fail
      go_quiet (fail)
      go_wp2
      go_ret
      exact ⟨by rw [HFIN.out]; rfl, below_drewN' (below_seq HBL.out HB.out) _⟩
    have HAC : Hid (Rg.actE m l a = Mea.firstE (fun i => Rg.transE m l (Rg.trans m l a i)) ys.length) := Lib.hid (by have := Rg.act_in (m := m) (l := l) (a := a) (by rw [HY.out, HNR.out]; exact fun h => h h2); rw [HY.out] at this; exact this)
    have b7 : ((ys.length : Int) != r + 1) = false := by rw [bne_eq_false_iff_eq]; exact h2
    clear h2
    go_upto_region 6 with fail
    go_quiet (fail)
    go_upto_region 9 with fail
    clear b7
    generalize hwd : wr.drewN _ = wx
    have h12 : Below wr.heap.size wr wx := by rw [← hwd]; exact below_drewN' (Below.refl _ _) _
    replace HB := Lib.hid (below_seq HB.out h12)
    clear h12 hwd cx cy cr c2 c3 wr
    go_loopw [49] (fun v wy => ∃ (i : Nat), i ≤ ys.length ∧ v = .int .i64 i ∧ Hid (Below w2.heap.size w2 wy) ∧ Hid (∀ t, t < i → Rg.transE m l (Rg.trans m l a t) = 0)) (fun v _ => ys.length - (intOf v).toNat)
    case atStart => exact ⟨0, Nat.zero_le _, rfl, HB, Lib.hid (fun t ht => by omega)⟩
    case round =>
      clear HB
      obtain ⟨i, hi, rfl, HB, HCI⟩ := hrel
      clear wx
      rename World => wy
      by_cases hiy : i < ys.length
      rotate_left
      · obtain rfl : i = ys.length := by omega
        have hval : Rg.actE m l a = 0 := by rw [HAC.out]; exact Mea.firstE_zero HCI.out
        have HC2' : Hid (∀ t, t < a + 1 → Rg.actE m l t = 0) := Lib.hid (fun t ht => by
          by_cases et : t = a
          · subst et; exact hval
          · exact HC.out t (by omega))
        clear hval
        go_wp2
        go_roundw
        case rel => exact ⟨a + 1, by omega, by go_num, HB, HC2'⟩
        case measure => simp [intOf] <;> omega
      have hiyi : (i : Int) < (ys.length : Int) := by omega
      obtain ⟨a3, C2, e2, x, y, zs, rfl, ht, t0, t1, t2, rz⟩ := RY.out.at_ hiy
      have HTR : Hid (Rg.trans m l a i = ⟨x, y, zs⟩) := Lib.hid (by unfold Rg.trans; rw [HY.out]; exact ht)
      have HZ := Lib.hid rz
      have mz := rz.1
      have HCT := Lib.hid (cells3 (keep_cell HB.out t0) (keep_cell HB.out t1) (keep_cell HB.out t2))
      clear ht t0 t1 t2 rz
      have HE : Hid (∀ q, q ≠ 0 → Rg.transE m l ⟨x, y, zs⟩ = q → Rg.locE m l = q) := Lib.hid (fun q hq he => by
        have hv1 : Rg.transE m l (Rg.trans m l a i) = q := by rw [HTR.out, he]
        have hv2 : Rg.actE m l a = q := by rw [HAC.out]; exact (Mea.firstE_at HCI.out (by rw [hv1]; exact hq) hiy).trans hv1
        rw [HLO.out]; exact (Mea.firstE_at HC.out (by rw [hv2]; exact hq) hak).trans hv2)
      go_upto_region 11 with (refine wpList_load_any rfl 94 _ rfl (a3.add (i * 3)) rfl [.int .i64 x, .int .i64 y, .slice C2 zs.length e2] _ HCT.out Try.underlying94 rfl (by kernel_rfl) ?_)
      generalize hwb : World.alloc _ _ = wz
      have KT : Hid (Blk wz wy.heap.size 94 #[.int .i64 x, .int .i64 y, .slice C2 zs.length e2]) := Lib.hid (by rw [← hwb]; exact Blk.new _ _ _)
      have hbz : Below wy.heap.size wy wz := by rw [← hwb]; exact (Below.refl _ _).alloc (Nat.le_refl _) _
      replace HB := Lib.hid (below_seq HB.out hbz)
      replace HZ := Lib.hid (HZ.out.keep HB.out)
      have k0 := KT.out.cell 0
      have k1 := KT.out.cell 1
      have k2 := KT.out.cell 2
      have c2 := keep_cell HB.out HC2.out
      generalize wy.heap.size = gk at *
      clear hwb hbz wy HCT
      by_cases q1 : x < 0
      · have HFIN := Lib.hid (HE.out 2 (by decide) (Rg.trans_out (.inl q1)))
        have d1 : decide (x < 0) = true := decide_eq_true q1
        clear q1
        go_wp2
        go_ret
        exact ⟨by rw [HFIN.out]; rfl, below_seq HBL.out HB.out⟩
      by_cases q2 : (m.rg.length : Int) ≤ x
      · have HFIN := Lib.hid (HE.out 2 (by decide) (Rg.trans_out (.inr (.inl q2))))
        have d1 : decide (x < 0) = false := decide_eq_false q1
        have d2 : decide ((m.rg.length : Int) ≤ x) = true := decide_eq_true q2
        clear q1 q2
        go_wp2
        go_ret
        exact ⟨by rw [HFIN.out]; rfl, below_seq HBL.out HB.out⟩
      by_cases q3 : y < 0
      · have HFIN := Lib.hid (HE.out 2 (by decide) (Rg.trans_out (.inr (.inr (.inl q3)))))
        have d1 : decide (x < 0) = false := decide_eq_false q1
        have d2 : decide ((m.rg.length : Int) ≤ x) = false := decide_eq_false q2
        have d3 : decide (y < 0) = true := decide_eq_true q3
        clear q1 q2 q3
        go_wp2
        go_ret
        exact ⟨by rw [HFIN.out]; rfl, below_seq HBL.out HB.out⟩
      by_cases q4 : 1048576 < y
      · have HFIN := Lib.hid (HE.out 2 (by decide) (Rg.trans_out (.inr (.inr (.inr q4)))))
        have d1 : decide (x < 0) = false := decide_eq_false q1
        have d2 : decide ((m.rg.length : Int) ≤ x) = false := decide_eq_false q2
        have d3 : decide (y < 0) = false := decide_eq_false q3
        have d4 : decide (1048576 < y) = true := decide_eq_true q4
        clear q1 q2 q3 q4
        go_wp2
        go_ret
        exact ⟨by rw [HFIN.out]; rfl, below_seq HBL.out HB.out⟩
      have HQ := Lib.hid (show ¬ (x < 0 ∨ (m.rg.length : Int) ≤ x ∨ y < 0 ∨ 1048576 < y) by omega)
      obtain ⟨xn, rfl⟩ : ∃ n : Nat, x = n := ⟨x.toNat, by omega⟩
      have hxn : xn < m.rg.length := by omega
      obtain ⟨ar, r3, er, hr3, cr3⟩ := HR.out.rg.at_ hxn
      injection er with er
      subst er
      have HNT : Hid (Rg.nr m (((⟨(xn : Int), y, zs⟩ : Rg.T).to).toNat) = r3) := Lib.hid (by show m.rg.getD ((xn : Int).toNat) 0 = r3; rw [Int.toNat_natCast]; exact hr3)
      replace cr3 := keep_cell HB.out cr3
      clear hr3
      have d1 : decide ((xn : Int) < 0) = false := decide_eq_false (by omega)
      have d2 : decide ((m.rg.length : Int) ≤ (xn : Int)) = false := decide_eq_false (by omega)
      have d2' : decide (m.rg.length ≤ xn) = false := decide_eq_false (by omega)
      have d3 : decide (y < 0) = false := decide_eq_false q3
      have d4 : decide (1048576 < y) = false := decide_eq_false q4
      have hxi : (xn : Int) < (m.rg.length : Int) := by omega
      clear q1 q2
      by_cases hlen : (zs.length : Int) = r3
      rotate_left
      · have HFIN := Lib.hid (HE.out 1 (by decide) (Rg.trans_len HQ.out (by rw [HNT.out]; exact hlen)))
        have b7 : ((zs.length : Int) != r3) = true := by rw [bne_iff_ne]; exact hlen
        clear hlen
        go_upto_region 13 with fail
        go_quiet (fail)
        go_wp2
        go_ret
        exact ⟨by rw [HFIN.out]; rfl, below_drewN' (below_seq HBL.out HB.out) _⟩
      have HFT := Lib.hid (Rg.trans_in (m := m) (l := l) (t := ⟨(xn : Int), y, zs⟩) HQ.out (by rw [HNT.out]; exact fun h => h hlen))
      have b7 : ((zs.length : Int) != r3) = false := by rw [bne_eq_false_iff_eq]; exact hlen
      clear hlen
      go_upto_region 13 with fail
      go_quiet (fail)
      go_upto_region 16 with fail
      clear b7 d1 d2 d2' d3 d4 cr3 k0 k1 k2
      have cr := keep_cell HB.out HCR.out
      go_loopw [87] (fun v wr => ∃ (j n : Nat), j ≤ zs.length ∧ v = .int .i64 j ∧ wr = wz.drewN n ∧ Hid (∀ i, i < j → Rg.asgE r zs i = 0)) (fun v _ => zs.length - (intOf v).toNat)
      case atStart => exact ⟨0, _, Nat.zero_le _, rfl, rfl, Lib.hid (fun i hi => by omega)⟩
      case round =>
        obtain ⟨j, n, hj, rfl, rfl, HCJ⟩ := hrel
        by_cases hjl : j < zs.length
        rotate_left
        · obtain rfl : j = zs.length := by omega
          have hv0 : Rg.transE m l (Rg.trans m l a i) = 0 := by rw [HTR.out, HFT.out, HNR.out]; exact Mea.firstE_zero HCJ.out
          have HCI2 : Hid (∀ t, t < i + 1 → Rg.transE m l (Rg.trans m l a t) = 0) := Lib.hid (fun t ht => by
            by_cases et : t = i
            · subst et; exact hv0
            · exact HCI.out t (by omega))
          have HB2 := Lib.hid (below_drewN' HB.out n)
          clear hv0
          go_wp2
          go_roundw
          case rel => exact ⟨i + 1, by omega, by go_num, HB2, HCI2⟩
          case measure => simp [intOf] <;> omega
        obtain ⟨az, v, rfl, hv, cv⟩ := HZ.out.at_ hjl
        have HV := Lib.hid hv
        clear hv
        have hji : (j : Int) < (zs.length : Int) := by omega
        by_cases q0 : v < 0
        · have hval : Rg.asgE r zs j = 2 := by unfold Rg.asgE; rw [HV.out, if_pos (.inl q0)]
          have HF := Lib.hid (HE.out 2 (by decide) (by rw [HFT.out, HNR.out]; exact (Mea.firstE_at HCJ.out (by rw [hval]; decide) hjl).trans hval))
          have e1 : decide (v < 0) = true := decide_eq_true q0
          clear hval q0
          go_wp2
          go_ret
          exact ⟨by rw [HF.out]; rfl, below_drewN' (below_seq HBL.out HB.out) _⟩
        have e1 : decide (v < 0) = false := decide_eq_false q0
        by_cases q1 : r < v
        · have hval : Rg.asgE r zs j = 2 := by unfold Rg.asgE; rw [HV.out, if_pos (.inr q1)]
          have HF := Lib.hid (HE.out 2 (by decide) (by rw [HFT.out, HNR.out]; exact (Mea.firstE_at HCJ.out (by rw [hval]; decide) hjl).trans hval))
          have e2 : decide (r < v) = true := decide_eq_true q1
          clear hval q0 q1
          go_wp2
          go_ret
          exact ⟨by rw [HF.out]; rfl, below_drewN' (below_seq HBL.out HB.out) _⟩
        have hval : Rg.asgE r zs j = 0 := by unfold Rg.asgE; rw [HV.out, if_neg (by omega)]
        have HC2 : Hid (∀ i, i < j + 1 → Rg.asgE r zs i = 0) := Lib.hid (fun i hi => by
          by_cases ei : i = j
          · subst ei; exact hval
          · exact HCJ.out i (by omega))
        have e2 : decide (r < v) = false := decide_eq_false q1
        clear hval q0 q1
        go_wp2
        go_roundw
        case rel => exact ⟨j + 1, n, by omega, by go_num, rfl, HC2⟩
        case measure => simp [intOf] <;> omega
end Go.Proofs.Ytaoebjabdejpoaa
