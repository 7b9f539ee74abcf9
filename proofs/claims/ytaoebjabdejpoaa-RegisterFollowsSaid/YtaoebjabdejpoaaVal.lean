/- Both Valids of a register automaton. -/
import Derived.Test.YtaoebjabdejpoaaLocP
import Derived.Test.YtaoebjabdejpoaaLocR
namespace Go.Proofs.Ytaoebjabdejpoaa
open Go.RowKit

set_option linter.unusedSimpArgs false
set_option maxRecDepth 100000 in
set_option maxHeartbeats 8000000 in
theorem valid_p (m : Rg.M) (A B : Option Addr) (c d : Nat) (w : World) (hR : RdA w A B m) :
    Calls Try.prog 13 #[.agg #[.int .i64 m.I, .int .i64 m.S, .slice A m.rg.length c, .slice B m.tr.length d]] w fun r w' => r = .returned (.int .i64 (Rg.validE m)) ∧ Below w.heap.size w w' := by
  have mn := hR.rg.1
  have mt := hR.tr.1
  have hbel : Below w.heap.size w (w.alloc (.cells #[.int .i64 m.I, .int .i64 m.S, .slice A m.rg.length c, .slice B m.tr.length d] 25)) := (Below.refl _ _).alloc (Nat.le_refl _) _
  by_cases q0 : m.I < 1
  · have HE := Lib.hid (show Rg.validE m = 2 from Rg.valid_I (.inl q0))
    have e0 : decide (m.I < 1) = true := decide_eq_true q0
    clear q0
    go_enter Try.func13, Try.ntmps13
    go_wp2
    go_ret
    exact ⟨by rw [HE.out]; rfl, hbel⟩
  by_cases q1 : 64 < m.I
  · have HE := Lib.hid (show Rg.validE m = 2 from Rg.valid_I (.inr q1))
    have e0 : decide (m.I < 1) = false := decide_eq_false q0
    have e1 : decide (64 < m.I) = true := decide_eq_true q1
    clear q0 q1
    go_enter Try.func13, Try.ntmps13
    go_wp2
    go_ret
    exact ⟨by rw [HE.out]; rfl, hbel⟩
  by_cases q2 : m.rg.length = 0
  · have HE := Lib.hid (show Rg.validE m = 19 from Rg.valid_0 (by omega) q2)
    have e0 : decide (m.I < 1) = false := decide_eq_false q0
    have e1 : decide (64 < m.I) = false := decide_eq_false q1
    have e2 : ((m.rg.length : Int) == 0) = true := by rw [beq_iff_eq]; omega
    clear q0 q1 q2
    go_enter Try.func13, Try.ntmps13
    go_wp2
    go_ret
    exact ⟨by rw [HE.out]; rfl, hbel⟩
  by_cases q3 : 128 < m.rg.length
  · have HE := Lib.hid (show Rg.validE m = 11 from Rg.valid_128 (by omega) q3)
    have e0 : decide (m.I < 1) = false := decide_eq_false q0
    have e1 : decide (64 < m.I) = false := decide_eq_false q1
    have e2 : ((m.rg.length : Int) == 0) = false := beq_eq_false_iff_ne.2 (by omega)
    have e3 : (128 : Int) < m.rg.length := by omega
    clear q0 q1 q2 q3
    go_enter Try.func13, Try.ntmps13
    go_wp2
    go_ret
    exact ⟨by rw [HE.out]; rfl, hbel⟩
  by_cases q4 : m.S < 0
  · have HE := Lib.hid (show Rg.validE m = 2 from Rg.valid_S (by omega) (by omega) (by omega) (.inl q4))
    have e0 : decide (m.I < 1) = false := decide_eq_false q0
    have e1 : decide (64 < m.I) = false := decide_eq_false q1
    have e2 : ((m.rg.length : Int) == 0) = false := beq_eq_false_iff_ne.2 (by omega)
    have e3 : ¬ (128 : Int) < m.rg.length := by omega
    have e4 : decide (m.S < 0) = true := decide_eq_true q4
    clear q0 q1 q2 q3 q4
    go_enter Try.func13, Try.ntmps13
    go_wp2
    go_ret
    exact ⟨by rw [HE.out]; rfl, hbel⟩
  by_cases q5 : (m.rg.length : Int) ≤ m.S
  · have HE := Lib.hid (show Rg.validE m = 2 from Rg.valid_S (by omega) (by omega) (by omega) (.inr q5))
    have e0 : decide (m.I < 1) = false := decide_eq_false q0
    have e1 : decide (64 < m.I) = false := decide_eq_false q1
    have e2 : ((m.rg.length : Int) == 0) = false := beq_eq_false_iff_ne.2 (by omega)
    have e3 : ¬ (128 : Int) < m.rg.length := by omega
    have e4 : decide (m.S < 0) = false := decide_eq_false q4
    have e5 : decide ((m.rg.length : Int) ≤ m.S) = true := decide_eq_true q5
    clear q0 q1 q2 q3 q4 q5
    go_enter Try.func13, Try.ntmps13
    go_wp2
    go_ret
    exact ⟨by rw [HE.out]; rfl, hbel⟩
  have HP := Lib.hid (Rg.pre_of (m := m) (by omega) (by omega) (by omega) (by omega))
  obtain ⟨s, hs⟩ : ∃ s : Nat, m.S = s := ⟨m.S.toNat, by omega⟩
  have HS := Lib.hid hs
  have hsl : s < m.rg.length := by omega
  rw [hs] at q4 q5 ⊢
  have HST : Hid (m.S.toNat = s) := Lib.hid (by omega)
  have e0 : decide (m.I < 1) = false := decide_eq_false q0
  have e1 : decide (64 < m.I) = false := decide_eq_false q1
  have e2 : ((m.rg.length : Int) == 0) = false := beq_eq_false_iff_ne.2 (by omega)
  have e3 : ¬ (128 : Int) < m.rg.length := by omega
  have e4 : decide ((s : Int) < 0) = false := decide_eq_false q4
  have e5 : decide ((m.rg.length : Int) ≤ (s : Int)) = false := decide_eq_false q5
  have hsi : (s : Int) < (m.rg.length : Int) := by omega
  clear hs q0 q1 q2 q3 q4 q5 hbel
  go_enter Try.func13, Try.ntmps13
  go_upto_region 1 with fail
  generalize hwb : World.alloc _ _ = w1
  have BX : Hid (BoxT w1 w.heap.size m A c B d) := Lib.hid (boxT (by rw [← hwb, ← HS.out]; exact Blk.new _ _ _))
  have HBL : Hid (Below w.heap.size w w1) := Lib.hid (by rw [← hwb]; exact (Below.refl _ _).alloc (Nat.le_refl _) _)
  have HR := Lib.hid (hR.keep HBL.out)
  clear hwb hR
  have c0 := BX.out.c0
  have c1 := BX.out.c1
  rw [HS.out] at c1
  have c2 := BX.out.c2
  have c3 := BX.out.c3
  go_upto_region 11 with fail
  clear e0 e1 e2 e3 e4 e5
  go_loopw [39] (fun v wr => ∃ (j n : Nat), j ≤ m.rg.length ∧ v = .int .i64 j ∧ wr = w1.drewN n ∧ Hid (∀ i, i < j → Rg.regE m i = 0)) (fun v _ => m.rg.length - (intOf v).toNat)
  case atStart => exact ⟨0, 0, Nat.zero_le _, rfl, rfl, Lib.hid (fun i hi => by omega)⟩
  case round =>
    obtain ⟨j, n, hj, rfl, rfl, HC⟩ := hrel
    by_cases hjl : j < m.rg.length
    · have hji : (j : Int) < (m.rg.length : Int) := by omega
      obtain ⟨ad, v, rfl, hv, cv⟩ := HR.out.rg.at_ hjl
      have HV : Hid (Rg.nr m j = v) := Lib.hid hv
      clear hv
      by_cases g0 : v < 0
      · have hval : Rg.regE m j = 2 := by unfold Rg.regE; rw [HV.out, if_pos (.inl g0)]
        have hf := (Mea.firstE_at HC.out (by rw [hval]; decide) hjl).trans hval
        have HF := Lib.hid (show Rg.validE m = 2 by rw [HP.out.reg (by rw [hf]; decide), hf])
        have e1 : decide (v < 0) = true := decide_eq_true g0
        clear hval g0 hf
        go_wp2
        go_ret
        exact ⟨by rw [HF.out]; rfl, below_drewN' HBL.out _⟩
      have e1 : decide (v < 0) = false := decide_eq_false g0
      by_cases g1 : 4 < v
      · have hval : Rg.regE m j = 2 := by unfold Rg.regE; rw [HV.out, if_pos (.inr g1)]
        have hf := (Mea.firstE_at HC.out (by rw [hval]; decide) hjl).trans hval
        have HF := Lib.hid (show Rg.validE m = 2 by rw [HP.out.reg (by rw [hf]; decide), hf])
        have e2 : decide (4 < v) = true := decide_eq_true g1
        clear hval g0 g1 hf
        go_wp2
        go_ret
        exact ⟨by rw [HF.out]; rfl, below_drewN' HBL.out _⟩
      have hval : Rg.regE m j = 0 := by unfold Rg.regE; rw [HV.out, if_neg (by omega)]
      have HC2 : Hid (∀ i, i < j + 1 → Rg.regE m i = 0) := Lib.hid (fun i hi => by
        by_cases ei : i = j
        · subst ei; exact hval
        · exact HC.out i (by omega))
      have e2 : decide (4 < v) = false := decide_eq_false g1
      clear hval g0 g1
      go_wp2
      go_roundw
      case rel => exact ⟨j + 1, n, by omega, by go_num, rfl, HC2⟩
      case measure => simp [intOf] <;> omega
    obtain rfl : j = m.rg.length := by omega
    have HZ := Lib.hid (show Mea.firstE (Rg.regE m) m.rg.length = 0 from Mea.firstE_zero HC.out)
    clear hjl
    obtain ⟨ad, v, rfl, hv, cv⟩ := HR.out.rg.at_ hsl
    have HV : Hid (Rg.nr m s = v) := Lib.hid hv
    clear hv
    by_cases g0 : v = 0
    rotate_left
    · have HF := Lib.hid (show Rg.validE m = 1 from HP.out.bad HZ.out (.inl (by rw [HST.out, HV.out]; exact g0)))
      have b0 : (v != 0) = true := by rw [bne_iff_ne]; exact g0
      clear g0
      go_wp2
      go_ret
      exact ⟨by rw [HF.out]; rfl, below_drewN' HBL.out _⟩
    have b0 : (v != 0) = false := by rw [bne_eq_false_iff_eq]; exact g0
    by_cases g1 : m.tr.length = m.rg.length
    rotate_left
    · have HF := Lib.hid (show Rg.validE m = 1 from HP.out.bad HZ.out (.inr g1))
      have b1 : ((m.tr.length : Int) != (m.rg.length : Int)) = true := by rw [bne_iff_ne]; omega
      clear g0 g1
      go_wp2
      go_ret
      exact ⟨by rw [HF.out]; rfl, below_drewN' HBL.out _⟩
    have b1 : ((m.tr.length : Int) != (m.rg.length : Int)) = false := by rw [bne_eq_false_iff_eq]; omega
    have HLO := Lib.hid (HP.out.locs HZ.out (by rw [HST.out, HV.out]; omega))
    have HT := Lib.hid g1
    clear g0 g1
    go_upto_region 19 with fail
    clear b0 b1 cv
    have HBX : Hid (∀ wz, Below w1.heap.size w1 wz → BoxT wz w.heap.size m (some ad) c B d) := Lib.hid (fun wz hz => BX.out.keep hz)
    go_loopw [65] (fun v wr => ∃ (l : Nat), l ≤ m.rg.length ∧ v = .int .i64 l ∧ Hid (Below w1.heap.size w1 wr) ∧ Hid (∀ i, i < l → Rg.locE m i = 0)) (fun v _ => m.rg.length - (intOf v).toNat)
    case atStart => exact ⟨0, Nat.zero_le _, rfl, Lib.hid (below_drewN' (Below.refl _ _) _), Lib.hid (fun i hi => by omega)⟩
    case round =>
      obtain ⟨l, hl, rfl, HB, HCL⟩ := hrel
      rename World => wr
      have c2 := keep_cell HB.out c2
      by_cases hll : l < m.rg.length
      rotate_left
      · obtain rfl : l = m.rg.length := by omega
        have HF := Lib.hid (show Rg.validE m = 0 by rw [HLO.out]; exact Mea.firstE_zero HCL.out)
        go_wp2
        go_ret
        exact ⟨by rw [HF.out]; rfl, below_seq HBL.out HB.out⟩
      have hli : (l : Int) < (m.rg.length : Int) := by omega
      have BXl := HBX.out wr HB.out
      go_wp2_with (first | (refine wpList_load_row rfl 25 _ rfl w.heap.size rfl 25 (tc m (some ad) c B d) (0, 0) _ BXl.blk Try.underlying25 rfl (by kernel_rfl) ?_))
      refine (loc_p m m.I.toNat l (some ad) B c d wr (HR.out.keep HB.out) HP.out.I hll HT.out (Rg.reg_no (Mea.firstE_of_zero HZ.out l hll))).mono ?_
      rintro r wv ⟨rfl, hb⟩
      obtain ⟨q, hq⟩ : ∃ q, q = Rg.locE m l := ⟨_, rfl⟩
      have HQ := Lib.hid hq
      rw [← hq]
      replace HB := Lib.hid (below_seq HB.out hb)
      clear hq hb BXl c2
      by_cases hz : q = 0
      · have HC2 : Hid (∀ i, i < l + 1 → Rg.locE m i = 0) := Lib.hid (fun i hi => by
          by_cases ei : i = l
          · subst ei; rw [← HQ.out]; exact hz
          · exact HCL.out i (by omega))
        have bz : (q != 0) = false := by rw [bne_eq_false_iff_eq]; exact hz
        clear hz
        go_wp2
        go_roundw
        case rel => exact ⟨l + 1, by omega, by go_num, HB, HC2⟩
        case measure => simp [intOf] <;> omega
      · have HF := Lib.hid (show Rg.validE m = q by rw [HLO.out]; exact (Mea.firstE_at HCL.out (by rw [← HQ.out]; exact hz) hll).trans HQ.out.symm)
        have bz : (q != 0) = true := by rw [bne_iff_ne]; exact hz
        clear hz
        go_wp2
        go_ret
        exact ⟨by rw [HF.out]; rfl, below_seq HBL.out HB.out⟩
set_option maxRecDepth 100000 in
set_option maxHeartbeats 8000000 in
theorem valid_r (m : Rg.M) (A B : Option Addr) (c d : Nat) (w : World) (hR : RdA w A B m) :
    Calls Try.prog 14 #[.agg #[.int .i64 m.I, .int .i64 m.S, .slice A m.rg.length c, .slice B m.tr.length d]] w fun r w' => r = .returned (.int .i64 (Rg.validE m)) ∧ Below w.heap.size w w' := by
  have mn := hR.rg.1
  have mt := hR.tr.1
  have hbel : Below w.heap.size w (w.alloc (.cells #[.int .i64 m.I, .int .i64 m.S, .slice A m.rg.length c, .slice B m.tr.length d] 25)) := (Below.refl _ _).alloc (Nat.le_refl _) _
  by_cases q0 : m.I < 1
  · have HE := Lib.hid (show Rg.validE m = 2 from Rg.valid_I (.inl q0))
    have e0 : decide (m.I < 1) = true := decide_eq_true q0
    clear q0
    go_enter Try.func14, Try.ntmps14
    go_wp2
    go_ret
    exact ⟨by rw [HE.out]; rfl, hbel⟩
  by_cases q1 : 64 < m.I
  · have HE := Lib.hid (show Rg.validE m = 2 from Rg.valid_I (.inr q1))
    have e0 : decide (m.I < 1) = false := decide_eq_false q0
    have e1 : decide (64 < m.I) = true := decide_eq_true q1
    clear q0 q1
    go_enter Try.func14, Try.ntmps14
    go_wp2
    go_ret
    exact ⟨by rw [HE.out]; rfl, hbel⟩
  by_cases q2 : m.rg.length = 0
  · have HE := Lib.hid (show Rg.validE m = 19 from Rg.valid_0 (by omega) q2)
    have e0 : decide (m.I < 1) = false := decide_eq_false q0
    have e1 : decide (64 < m.I) = false := decide_eq_false q1
    have e2 : ((m.rg.length : Int) == 0) = true := by rw [beq_iff_eq]; omega
    clear q0 q1 q2
    go_enter Try.func14, Try.ntmps14
    go_wp2
    go_ret
    exact ⟨by rw [HE.out]; rfl, hbel⟩
  by_cases q3 : 128 < m.rg.length
  · have HE := Lib.hid (show Rg.validE m = 11 from Rg.valid_128 (by omega) q3)
    have e0 : decide (m.I < 1) = false := decide_eq_false q0
    have e1 : decide (64 < m.I) = false := decide_eq_false q1
    have e2 : ((m.rg.length : Int) == 0) = false := beq_eq_false_iff_ne.2 (by omega)
    have e3 : (128 : Int) < m.rg.length := by omega
    clear q0 q1 q2 q3
    go_enter Try.func14, Try.ntmps14
    go_wp2
    go_ret
    exact ⟨by rw [HE.out]; rfl, hbel⟩
  by_cases q4 : m.S < 0
  · have HE := Lib.hid (show Rg.validE m = 2 from Rg.valid_S (by omega) (by omega) (by omega) (.inl q4))
    have e0 : decide (m.I < 1) = false := decide_eq_false q0
    have e1 : decide (64 < m.I) = false := decide_eq_false q1
    have e2 : ((m.rg.length : Int) == 0) = false := beq_eq_false_iff_ne.2 (by omega)
    have e3 : ¬ (128 : Int) < m.rg.length := by omega
    have e4 : decide (m.S < 0) = true := decide_eq_true q4
    clear q0 q1 q2 q3 q4
    go_enter Try.func14, Try.ntmps14
    go_wp2
    go_ret
    exact ⟨by rw [HE.out]; rfl, hbel⟩
  by_cases q5 : (m.rg.length : Int) ≤ m.S
  · have HE := Lib.hid (show Rg.validE m = 2 from Rg.valid_S (by omega) (by omega) (by omega) (.inr q5))
    have e0 : decide (m.I < 1) = false := decide_eq_false q0
    have e1 : decide (64 < m.I) = false := decide_eq_false q1
    have e2 : ((m.rg.length : Int) == 0) = false := beq_eq_false_iff_ne.2 (by omega)
    have e3 : ¬ (128 : Int) < m.rg.length := by omega
    have e4 : decide (m.S < 0) = false := decide_eq_false q4
    have e5 : decide ((m.rg.length : Int) ≤ m.S) = true := decide_eq_true q5
    clear q0 q1 q2 q3 q4 q5
    go_enter Try.func14, Try.ntmps14
    go_wp2
    go_ret
    exact ⟨by rw [HE.out]; rfl, hbel⟩
  have HP := Lib.hid (Rg.pre_of (m := m) (by omega) (by omega) (by omega) (by omega))
  obtain ⟨s, hs⟩ : ∃ s : Nat, m.S = s := ⟨m.S.toNat, by omega⟩
  have HS := Lib.hid hs
  have hsl : s < m.rg.length := by omega
  rw [hs] at q4 q5 ⊢
  have HST : Hid (m.S.toNat = s) := Lib.hid (by omega)
  have e0 : decide (m.I < 1) = false := decide_eq_false q0
  have e1 : decide (64 < m.I) = false := decide_eq_false q1
  have e2 : ((m.rg.length : Int) == 0) = false := beq_eq_false_iff_ne.2 (by omega)
  have e3 : ¬ (128 : Int) < m.rg.length := by omega
  have e4 : decide ((s : Int) < 0) = false := decide_eq_false q4
  have e5 : decide ((m.rg.length : Int) ≤ (s : Int)) = false := decide_eq_false q5
  have hsi : (s : Int) < (m.rg.length : Int) := by omega
  clear hs q0 q1 q2 q3 q4 q5 hbel
  go_enter Try.func14, Try.ntmps14
  go_upto_region 1 with fail
  generalize hwb : World.alloc _ _ = w1
  have BX : Hid (BoxT w1 w.heap.size m A c B d) := Lib.hid (boxT (by rw [← hwb, ← HS.out]; exact Blk.new _ _ _))
  have HBL : Hid (Below w.heap.size w w1) := Lib.hid (by rw [← hwb]; exact (Below.refl _ _).alloc (Nat.le_refl _) _)
  have HR := Lib.hid (hR.keep HBL.out)
  clear hwb hR
  have c0 := BX.out.c0
  have c1 := BX.out.c1
  rw [HS.out] at c1
  have c2 := BX.out.c2
  have c3 := BX.out.c3
  go_upto_region 10 with fail
  clear e0 e1 e2 e3 e4 e5
  go_loopw [3] (fun v wr => ∃ (j n : Nat), j ≤ m.rg.length ∧ v = .int .i64 j ∧ wr = w1.drewN n ∧ Hid (∀ i, i < j → Rg.regE m i = 0)) (fun v _ => m.rg.length - (intOf v).toNat)
  case atStart => exact ⟨0, 0, Nat.zero_le _, rfl, rfl, Lib.hid (fun i hi => by omega)⟩
  case round =>
    obtain ⟨j, n, hj, rfl, rfl, HC⟩ := hrel
    by_cases hjl : j < m.rg.length
    · have hji : (j : Int) < (m.rg.length : Int) := by omega
      obtain ⟨ad, v, rfl, hv, cv⟩ := HR.out.rg.at_ hjl
      have HV : Hid (Rg.nr m j = v) := Lib.hid hv
      clear hv
      by_cases g0 : v < 0
      · have hval : Rg.regE m j = 2 := by unfold Rg.regE; rw [HV.out, if_pos (.inl g0)]
        have hf := (Mea.firstE_at HC.out (by rw [hval]; decide) hjl).trans hval
        have HF := Lib.hid (show Rg.validE m = 2 by rw [HP.out.reg (by rw [hf]; decide), hf])
        have e1 : decide (v < 0) = true := decide_eq_true g0
        clear hval g0 hf
        go_wp2
        go_ret
        exact ⟨by rw [HF.out]; rfl, below_drewN' HBL.out _⟩
      have e1 : decide (v < 0) = false := decide_eq_false g0
      by_cases g1 : 4 < v
      · have hval : Rg.regE m j = 2 := by unfold Rg.regE; rw [HV.out, if_pos (.inr g1)]
        have hf := (Mea.firstE_at HC.out (by rw [hval]; decide) hjl).trans hval
        have HF := Lib.hid (show Rg.validE m = 2 by rw [HP.out.reg (by rw [hf]; decide), hf])
        have e2 : decide (4 < v) = true := decide_eq_true g1
        clear hval g0 g1 hf
        go_wp2
        go_ret
        exact ⟨by rw [HF.out]; rfl, below_drewN' HBL.out _⟩
      have hval : Rg.regE m j = 0 := by unfold Rg.regE; rw [HV.out, if_neg (by omega)]
      have HC2 : Hid (∀ i, i < j + 1 → Rg.regE m i = 0) := Lib.hid (fun i hi => by
        by_cases ei : i = j
        · subst ei; exact hval
        · exact HC.out i (by omega))
      have e2 : decide (4 < v) = false := decide_eq_false g1
      clear hval g0 g1
      go_wp2
      go_roundw
      case rel => exact ⟨j + 1, n, by omega, by go_num, rfl, HC2⟩
      case measure => simp [intOf] <;> omega
    obtain rfl : j = m.rg.length := by omega
    have HZ := Lib.hid (show Mea.firstE (Rg.regE m) m.rg.length = 0 from Mea.firstE_zero HC.out)
    clear hjl
    obtain ⟨ad, v, rfl, hv, cv⟩ := HR.out.rg.at_ hsl
    have HV : Hid (Rg.nr m s = v) := Lib.hid hv
    clear hv
    by_cases g0 : v = 0
    rotate_left
    · have HF := Lib.hid (show Rg.validE m = 1 from HP.out.bad HZ.out (.inl (by rw [HST.out, HV.out]; exact g0)))
      have b0 : (v != 0) = true := by rw [bne_iff_ne]; exact g0
      clear g0
      go_wp2
      go_ret
      exact ⟨by rw [HF.out]; rfl, below_drewN' HBL.out _⟩
    have b0 : (v != 0) = false := by rw [bne_eq_false_iff_eq]; exact g0
    by_cases g1 : m.tr.length = m.rg.length
    rotate_left
    · have HF := Lib.hid (show Rg.validE m = 1 from HP.out.bad HZ.out (.inr g1))
      have b1 : ((m.tr.length : Int) != (m.rg.length : Int)) = true := by rw [bne_iff_ne]; omega
      clear g0 g1
      go_wp2
      go_ret
      exact ⟨by rw [HF.out]; rfl, below_drewN' HBL.out _⟩
    have b1 : ((m.tr.length : Int) != (m.rg.length : Int)) = false := by rw [bne_eq_false_iff_eq]; omega
    have HLO := Lib.hid (HP.out.locs HZ.out (by rw [HST.out, HV.out]; omega))
    have HT := Lib.hid g1
    clear g0 g1
    go_upto_region 17 with fail
    clear b0 b1 cv
    have HBX : Hid (∀ wz, Below w1.heap.size w1 wz → BoxT wz w.heap.size m (some ad) c B d) := Lib.hid (fun wz hz => BX.out.keep hz)
    go_loopw [4] (fun v wr => ∃ (l : Nat), l ≤ m.rg.length ∧ v = .int .i64 l ∧ Hid (Below w1.heap.size w1 wr) ∧ Hid (∀ i, i < l → Rg.locE m i = 0)) (fun v _ => m.rg.length - (intOf v).toNat)
    case atStart => exact ⟨0, Nat.zero_le _, rfl, Lib.hid (below_drewN' (Below.refl _ _) _), Lib.hid (fun i hi => by omega)⟩
    case round =>
      obtain ⟨l, hl, rfl, HB, HCL⟩ := hrel
      rename World => wr
      have c2 := keep_cell HB.out c2
      by_cases hll : l < m.rg.length
      rotate_left
      · obtain rfl : l = m.rg.length := by omega
        have HF := Lib.hid (show Rg.validE m = 0 by rw [HLO.out]; exact Mea.firstE_zero HCL.out)
        go_wp2
        go_ret
        exact ⟨by rw [HF.out]; rfl, below_seq HBL.out HB.out⟩
      have hli : (l : Int) < (m.rg.length : Int) := by omega
      have BXl := HBX.out wr HB.out
      go_wp2_with (first | (refine wpList_load_row rfl 25 _ rfl w.heap.size rfl 25 (tc m (some ad) c B d) (0, 0) _ BXl.blk Try.underlying25 rfl (by kernel_rfl) ?_))
      refine (loc_r m m.I.toNat l (some ad) B c d wr (HR.out.keep HB.out) HP.out.I hll HT.out (Rg.reg_no (Mea.firstE_of_zero HZ.out l hll))).mono ?_
      rintro r wv ⟨rfl, hb⟩
      obtain ⟨q, hq⟩ : ∃ q, q = Rg.locE m l := ⟨_, rfl⟩
      have HQ := Lib.hid hq
      rw [← hq]
      replace HB := Lib.hid (below_seq HB.out hb)
      clear hq hb BXl c2
      by_cases hz : q = 0
      · have HC2 : Hid (∀ i, i < l + 1 → Rg.locE m i = 0) := Lib.hid (fun i hi => by
          by_cases ei : i = l
          · subst ei; rw [← HQ.out]; exact hz
          · exact HCL.out i (by omega))
        have bz : (q != 0) = false := by rw [bne_eq_false_iff_eq]; exact hz
        clear hz
        go_wp2
        go_roundw
        case rel => exact ⟨l + 1, by omega, by go_num, HB, HC2⟩
        case measure => simp [intOf] <;> omega
      · have HF := Lib.hid (show Rg.validE m = q by rw [HLO.out]; exact (Mea.firstE_at HCL.out (by rw [← HQ.out]; exact hz) hll).trans HQ.out.symm)
        have bz : (q != 0) = true := by rw [bne_iff_ne]; exact hz
        clear hz
        go_wp2
        go_ret
        exact ⟨by rw [HF.out]; rfl, below_seq HBL.out HB.out⟩
end Go.Proofs.Ytaoebjabdejpoaa
