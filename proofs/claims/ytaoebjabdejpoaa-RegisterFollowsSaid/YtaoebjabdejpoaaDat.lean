/- The data word of symbols: the code's and the reference's. -/
import Derived.Test.YtaoebjabdejpoaaChk
namespace Go.Proofs.Ytaoebjabdejpoaa
open Go.RowKit

namespace Rg
theorem datX_perm {w : List Int} {a d : Int} (h : permB a d = false) : datX w a d = (2, []) := by unfold datX; rw [if_pos h]
theorem datX_word {w : List Int} {a d : Int} (h : permB a d = true) (h1 : wordE (a * (d + 1)) w ≠ 0) : datX w a d = (wordE (a * (d + 1)) w, []) := by unfold datX; rw [if_neg (by simp [h]), if_pos h1]
theorem datX_err {w : List Int} {a d : Int} (h : permB a d = true) (h1 : wordE (a * (d + 1)) w = 0) {i : Nat} (hi : i < w.length) (h2 : ∀ t, t < i → datE0 w d t = 0) (he : datE0 w d i = 1) : datX w a d = (1, []) := by
  have hf := (Mea.firstE_at h2 (by rw [he]; decide) hi).trans he
  unfold datX; rw [if_neg (by simp [h]), if_neg (by omega), hf, if_pos (by decide)]
theorem datX_ok {w : List Int} {a d : Int} (h : permB a d = true) (h1 : wordE (a * (d + 1)) w = 0) (h2 : ∀ t, t < w.length → datE0 w d t = 0) : datX w a d = (0, dats w d w.length) := by
  unfold datX; rw [if_neg (by simp [h]), if_neg (by omega), Mea.firstE_zero h2, if_neg (by simp)]
theorem word_of {k : Int} {w : List Int} (h : wordE k w = 0) : w.length ≤ 1024 ∧ ∀ j, j < w.length → 0 ≤ w.getD j 0 ∧ w.getD j 0 < k := by
  unfold wordE at h
  split at h
  · omega
  · split at h
    · omega
    · split at h
      · omega
      · rename_i h3
        refine ⟨by omega, fun j hj => ?_⟩
        have := Mea.firstE_of_zero (show Mea.firstE (fun j => if w.getD j 0 < 0 ∨ k ≤ w.getD j 0 then 1 else 0) w.length = 0 by omega) j hj
        split at this
        · omega
        · omega
theorem dat_yes {w : List Int} {d : Int} {j : Nat} (h : d < zer w d (j + 1) ∨ (zer w d (j + 1) : Int) < valJ w d j) : datE0 w d j = 1 := by unfold datE0; rw [if_pos h]
theorem dat_0 {w : List Int} {d : Int} {j : Nat} (h : ¬ (d < zer w d (j + 1) ∨ (zer w d (j + 1) : Int) < valJ w d j)) : datE0 w d j = 0 := by unfold datE0; rw [if_neg h]
theorem zer_d {w : List Int} {d : Int} {j : Nat} (h : ∀ t, t < j → datE0 w d t = 0) (hd : 0 ≤ d) : (zer w d j : Int) ≤ d := by
  cases j with
  | zero => exact hd
  | succ j =>
    have := h j (by omega)
    unfold datE0 at this
    split at this
    · omega
    · omega
end Rg
set_option linter.unusedSimpArgs false
set_option maxRecDepth 100000 in
set_option maxHeartbeats 4000000 in
theorem data_p (xs : List Int) (a d : Int) (A : Option Addr) (c : Nat) (w : World) (hR : Rd w A xs) :
    Calls Try.prog 21 #[.slice A xs.length c, .int .i64 a, .int .i64 d] w (LstP elD 2 63 (Rg.datX xs a d) w) := by
  have HR := Lib.hid hR
  have mw := hR.1
  clear hR
  cases hp : Rg.permB a d with
  | false =>
    have HF := Lib.hid (Rg.datX_perm (w := xs) hp)
    have HC := Lib.hid (hp ▸ perm_p a d)
    clear hp
    go_enter Try.func21, Try.ntmps21
    go_wp2_with (first | (go_at_call 34; refine (HC.out _).mono ?_; rintro r w' ⟨rfl, rfl⟩))
    go_ret2
    exact LstP_err HF.out rfl (Below.refl _ _)
  | true =>
    have HP := Lib.hid hp
    have HC := Lib.hid (hp ▸ perm_p a d)
    obtain ⟨ha1, ha2, hd1, hd2, had⟩ := Rg.perm_bd hp
    have hm0 : 0 ≤ a * (d + 1) := Int.mul_nonneg (by omega) (by omega)
    clear hp
    obtain ⟨q, hq⟩ : ∃ q, q = Rg.wordE (a * (d + 1)) xs := ⟨_, rfl⟩
    by_cases hz : q = 0
    rotate_left
    · have HF := Lib.hid (show Rg.datX xs a d = (q, []) by rw [hq]; exact Rg.datX_word HP.out (by rw [← hq]; exact hz))
      have HQ := Lib.hid hq
      have bz : (q != 0) = true := by rw [bne_iff_ne]; exact hz
      clear hz hq
      go_enter Try.func21, Try.ntmps21
      go_upto_region 3 with (first | (go_at_call 34; refine (HC.out _).mono ?_; rintro r w' ⟨rfl, rfl⟩))
      go_wp2_with fail
      refine (word_p (a * (d + 1)) A c xs w HR.out).mono ?_
      rintro r w1 ⟨rfl, hb⟩
      rw [← HQ.out]
      have HBL := Lib.hid hb
      clear hb
      go_wp2
      go_ret2
      exact LstP_err HF.out rfl HBL.out
    have HQ := Lib.hid (show Rg.wordE (a * (d + 1)) xs = 0 by rw [← hq, hz])
    have HWD := Lib.hid (Rg.word_of HQ.out)
    clear hq hz
    go_enter Try.func21, Try.ntmps21
    go_upto_region 3 with (first | (go_at_call 34; refine (HC.out _).mono ?_; rintro r w' ⟨rfl, rfl⟩))
    go_wp2_with fail
    refine (word_p (a * (d + 1)) A c xs w HR.out).mono ?_
    rintro r w1 ⟨rfl, hb⟩
    rw [HQ.out]
    have HBL := Lib.hid hb
    clear hb
    go_upto_region 9 with fail
    go_loopw [9, 10, 29] (fun sv ov jv wr => ∃ j : Nat, j ≤ xs.length ∧ jv = .int .i64 j ∧ sv = .int .i64 (Rg.zer xs d j : Nat) ∧ Hid (OwnL elD 2 wr w.heap.size 63 ov (Rg.dats xs d j)) ∧ Hid (∀ t, t < j → Rg.datE0 xs d t = 0) ∧ Hid (Below w.heap.size w wr)) (fun sv ov jv _ => xs.length - (intOf jv).toNat)
    case atStart => exact ⟨0, Nat.zero_le _, rfl, rfl, Lib.hid (World.ownsRow_nil _ _ _ _), Lib.hid (fun t ht => by omega), HBL⟩
    case round =>
      obtain ⟨j, hj, rfl, rfl, HO, HE, HB⟩ := hrel
      rename World => wr
      obtain ⟨U, uc, hU⟩ := own_slice HO.out
      rw [Rg.dats_len] at hU
      subst hU
      have hwl : xs.length ≤ 1024 := HWD.out.1
      by_cases hjl : j < xs.length
      rotate_left
      · obtain rfl : j = xs.length := by omega
        have HF := Lib.hid (Rg.datX_ok HP.out HQ.out HE.out)
        go_wp2
        go_ret2
        exact LstP_ok HF.out rfl HO.out HB.out
      have hji : (j : Int) < (xs.length : Int) := by omega
      obtain ⟨ad, x, rfl, hx, cx⟩ := HR.out.at_ hjl
      replace cx := keep_cell HB.out cx
      obtain ⟨hx0, hx1⟩ := HWD.out.2 j hjl
      rw [hx] at hx0 hx1
      obtain ⟨rm, hrm⟩ : ∃ rm, rm = x % (d + 1) := ⟨_, rfl⟩
      obtain ⟨qd, hqd⟩ : ∃ qd, qd = x / (d + 1) := ⟨_, rfl⟩
      have hr0 : 0 ≤ rm := by rw [hrm]; exact Int.emod_nonneg _ (by omega)
      have hr1 : rm < d + 1 := by rw [hrm]; exact Int.emod_lt_of_pos _ (by omega)
      have hq0 : 0 ≤ qd := by rw [hqd]; exact Int.ediv_nonneg hx0 (by omega)
      have hq1 : qd ≤ 64 := by rw [hqd]; exact Int.le_trans (Int.ediv_le_self _ hx0) (by omega)
      have HRM : Hid (Rg.remA xs d j = rm) := Lib.hid (by unfold Rg.remA; rw [hx, hrm])
      have HDA : Hid (Rg.datA xs d j = (qd, Rg.valJ xs d j)) := Lib.hid (by unfold Rg.datA; rw [hx, hqd])
      have htm : x.tmod (d + 1) = rm := by rw [hrm, Int.tmod_eq_emod_of_nonneg hx0]
      have htd : x.tdiv (d + 1) = qd := by rw [hqd, Int.tdiv_eq_ediv_of_nonneg hx0]
      replace hrm := hrm.symm
      replace hqd := hqd.symm
      have hzd := Rg.zer_d HE.out (by omega)
      obtain ⟨zn, hzn⟩ : ∃ zn, zn = Rg.zer xs d j := ⟨_, rfl⟩
      rw [← hzn] at hzd ⊢
      have hon : (Rg.dats xs d j).length ≤ 1099511627776 := by rw [Rg.dats_len]; omega
      have hsz : w.heap.size ≤ wr.heap.size := HB.out.size
      clear hx hx1
      by_cases hr : rm = 0
      · obtain ⟨hz1, hv1⟩ := Rg.zer_yes (show Rg.remA xs d j = 0 by rw [HRM.out, hr])
        rw [← hzn] at hz1 hv1
        have HZ1 := Lib.hid hz1
        have HV1 := Lib.hid hv1
        have er : (rm == 0) = true := by rw [beq_iff_eq]; exact hr
        clear hz1 hv1 hr hzn hr0 hr1
        by_cases hd : d < (zn : Int) + 1
        · have HF := Lib.hid (Rg.datX_err HP.out HQ.out hjl HE.out (Rg.dat_yes (.inl (by rw [HZ1.out]; exact hd))))
          have e1 : decide (d < (zn : Int) + 1) = true := decide_eq_true hd
          clear hd
          go_wp2
          go_ret2
          exact LstP_err HF.out rfl HB.out
        have HSY : Hid (Rg.dats xs d (j + 1) = Rg.dats xs d j ++ [(qd, (zn : Int) + 1)]) := Lib.hid (by rw [Rg.dats_succ, HDA.out, HV1.out]; rfl)
        have HE2 : Hid (∀ t, t < j + 1 → Rg.datE0 xs d t = 0) := Lib.hid (fun t ht => by
          by_cases et : t = j
          · subst et; exact Rg.dat_0 (by rw [HZ1.out, HV1.out]; omega)
          · exact HE.out t (by omega))
        have e1 : decide (d < (zn : Int) + 1) = false := decide_eq_false hd
        have e2 : decide ((zn : Int) + 1 < (zn : Int) + 1) = false := decide_eq_false (by omega)
        clear hd
        go_upto_region 17 with fail
        clear e1 e2 er
        go_upto_region 18 with (first | (at_builtin; refine appL elD_len (by decide) rfl (.tmp 50) (.tmp 57) 26 63 _ _ rfl Try.underlying26 infoD rfl (by decide) (y := (qd, (zn : Int) + 1)) rfl rfl rfl rfl HO.out elD_one hon hsz ?_; intro v7 w7 ho7 hg7 hl7 hbb7 hbs7))
        replace HB := Lib.hid (hbb7 w.heap.size w (Nat.le_refl _) HB.out)
        replace HO : Hid (OwnL elD 2 w7 w.heap.size 63 v7 (Rg.dats xs d (j + 1))) := Lib.hid (by rw [HSY.out]; exact ho7)
        clear ho7 hg7 hl7 hbb7 hbs7
        go_wp2_with fail
        go_roundw
        case rel => exact ⟨j + 1, by omega, by go_num, by rw [HZ1.out]; go_num, HO, HE2, HB⟩
        case measure => simp [intOf] <;> omega
      obtain ⟨hz1, hv1⟩ := Rg.zer_no (show Rg.remA xs d j ≠ 0 by rw [HRM.out]; exact hr)
      rw [← hzn] at hz1
      rw [HRM.out] at hv1
      have HZ1 := Lib.hid hz1
      have HV1 := Lib.hid hv1
      have er : (rm == 0) = false := beq_eq_false_iff_ne.2 hr
      have e1 : decide (d < (zn : Int)) = false := decide_eq_false (by omega)
      clear hz1 hv1 hr hzn
      by_cases hd : (zn : Int) < rm
      · have HF := Lib.hid (Rg.datX_err HP.out HQ.out hjl HE.out (Rg.dat_yes (.inr (by rw [HZ1.out, HV1.out]; exact hd))))
        have e2 : decide ((zn : Int) < rm) = true := decide_eq_true hd
        clear hd
        go_wp2
        go_ret2
        exact LstP_err HF.out rfl HB.out
      have HSY : Hid (Rg.dats xs d (j + 1) = Rg.dats xs d j ++ [(qd, rm)]) := Lib.hid (by rw [Rg.dats_succ, HDA.out, HV1.out])
      have HE2 : Hid (∀ t, t < j + 1 → Rg.datE0 xs d t = 0) := Lib.hid (fun t ht => by
        by_cases et : t = j
        · subst et; exact Rg.dat_0 (by rw [HZ1.out, HV1.out]; omega)
        · exact HE.out t (by omega))
      have e2 : decide ((zn : Int) < rm) = false := decide_eq_false hd
      clear hd
      go_upto_region 17 with fail
      clear e1 e2 er
      go_upto_region 18 with (first | (at_builtin; refine appL elD_len (by decide) rfl (.tmp 50) (.tmp 57) 26 63 _ _ rfl Try.underlying26 infoD rfl (by decide) (y := (qd, rm)) rfl rfl rfl rfl HO.out elD_one hon hsz ?_; intro v7 w7 ho7 hg7 hl7 hbb7 hbs7))
      replace HB := Lib.hid (hbb7 w.heap.size w (Nat.le_refl _) HB.out)
      replace HO : Hid (OwnL elD 2 w7 w.heap.size 63 v7 (Rg.dats xs d (j + 1))) := Lib.hid (by rw [HSY.out]; exact ho7)
      clear ho7 hg7 hl7 hbb7 hbs7
      go_wp2_with fail
      go_roundw
      case rel => exact ⟨j + 1, by omega, by go_num, by rw [HZ1.out], HO, HE2, HB⟩
      case measure => simp [intOf] <;> omega
set_option maxRecDepth 100000 in
set_option maxHeartbeats 4000000 in
theorem data_r (xs : List Int) (a d : Int) (A : Option Addr) (c : Nat) (w : World) (hR : Rd w A xs) :
    Calls Try.prog 22 #[.slice A xs.length c, .int .i64 a, .int .i64 d] w (LstP elD 2 63 (Rg.datX xs a d) w) := by
  have HR := Lib.hid hR
  have mw := hR.1
  clear hR
  cases hp : Rg.permB a d with
  | false =>
    have HF := Lib.hid (Rg.datX_perm (w := xs) hp)
    have HC := Lib.hid (hp ▸ perm_r a d)
    clear hp
    go_enter Try.func22, Try.ntmps22
    go_wp2_with (first | (go_at_call 35; refine (HC.out _).mono ?_; rintro r w' ⟨rfl, rfl⟩))
    go_ret2
    exact LstP_err HF.out rfl (Below.refl _ _)
  | true =>
    have HP := Lib.hid hp
    have HC := Lib.hid (hp ▸ perm_r a d)
    obtain ⟨ha1, ha2, hd1, hd2, had⟩ := Rg.perm_bd hp
    have hm0 : 0 ≤ a * (d + 1) := Int.mul_nonneg (by omega) (by omega)
    clear hp
    obtain ⟨q, hq⟩ : ∃ q, q = Rg.wordE (a * (d + 1)) xs := ⟨_, rfl⟩
    by_cases hz : q = 0
    rotate_left
    · have HF := Lib.hid (show Rg.datX xs a d = (q, []) by rw [hq]; exact Rg.datX_word HP.out (by rw [← hq]; exact hz))
      have HQ := Lib.hid hq
      have bz : (q != 0) = true := by rw [bne_iff_ne]; exact hz
      clear hz hq
      go_enter Try.func22, Try.ntmps22
      go_upto_region 3 with (first | (go_at_call 35; refine (HC.out _).mono ?_; rintro r w' ⟨rfl, rfl⟩))
      go_wp2_with fail
      refine (word_r (a * (d + 1)) A c xs w HR.out).mono ?_
      rintro r w1 ⟨rfl, hb⟩
      rw [← HQ.out]
      have HBL : Hid (Below w.heap.size w w1) := Lib.hid (hb ▸ Below.refl _ _)
      clear hb
      go_wp2
      go_ret2
      exact LstP_err HF.out rfl HBL.out
    have HQ := Lib.hid (show Rg.wordE (a * (d + 1)) xs = 0 by rw [← hq, hz])
    have HWD := Lib.hid (Rg.word_of HQ.out)
    clear hq hz
    go_enter Try.func22, Try.ntmps22
    go_upto_region 3 with (first | (go_at_call 35; refine (HC.out _).mono ?_; rintro r w' ⟨rfl, rfl⟩))
    go_wp2_with fail
    refine (word_r (a * (d + 1)) A c xs w HR.out).mono ?_
    rintro r w1 ⟨rfl, hb⟩
    rw [HQ.out]
    have HBL : Hid (Below w.heap.size w w1) := Lib.hid (hb ▸ Below.refl _ _)
    clear hb
    go_upto_region 9 with fail
    go_loopw [9, 10, 11] (fun ov sv jv wr => ∃ j : Nat, j ≤ xs.length ∧ jv = .int .i64 j ∧ sv = .int .i64 (Rg.zer xs d j : Nat) ∧ Hid (OwnL elD 2 wr w.heap.size 63 ov (Rg.dats xs d j)) ∧ Hid (∀ t, t < j → Rg.datE0 xs d t = 0) ∧ Hid (Below w.heap.size w wr)) (fun ov sv jv _ => xs.length - (intOf jv).toNat)
    case atStart => exact ⟨0, Nat.zero_le _, rfl, rfl, Lib.hid (World.ownsRow_nil _ _ _ _), Lib.hid (fun t ht => by omega), HBL⟩
    case round =>
      obtain ⟨j, hj, rfl, rfl, HO, HE, HB⟩ := hrel
      rename World => wr
      obtain ⟨U, uc, hU⟩ := own_slice HO.out
      rw [Rg.dats_len] at hU
      subst hU
      have hwl : xs.length ≤ 1024 := HWD.out.1
      by_cases hjl : j < xs.length
      rotate_left
      · obtain rfl : j = xs.length := by omega
        have HF := Lib.hid (Rg.datX_ok HP.out HQ.out HE.out)
        go_wp2
        go_ret2
        exact LstP_ok HF.out rfl HO.out HB.out
      have hji : (j : Int) < (xs.length : Int) := by omega
      obtain ⟨ad, x, rfl, hx, cx⟩ := HR.out.at_ hjl
      replace cx := keep_cell HB.out cx
      obtain ⟨hx0, hx1⟩ := HWD.out.2 j hjl
      rw [hx] at hx0 hx1
      obtain ⟨rm, hrm⟩ : ∃ rm, rm = x % (d + 1) := ⟨_, rfl⟩
      obtain ⟨qd, hqd⟩ : ∃ qd, qd = x / (d + 1) := ⟨_, rfl⟩
      have hr0 : 0 ≤ rm := by rw [hrm]; exact Int.emod_nonneg _ (by omega)
      have hr1 : rm < d + 1 := by rw [hrm]; exact Int.emod_lt_of_pos _ (by omega)
      have hq0 : 0 ≤ qd := by rw [hqd]; exact Int.ediv_nonneg hx0 (by omega)
      have hq1 : qd ≤ 64 := by rw [hqd]; exact Int.le_trans (Int.ediv_le_self _ hx0) (by omega)
      have HRM : Hid (Rg.remA xs d j = rm) := Lib.hid (by unfold Rg.remA; rw [hx, hrm])
      have HDA : Hid (Rg.datA xs d j = (qd, Rg.valJ xs d j)) := Lib.hid (by unfold Rg.datA; rw [hx, hqd])
      have htm : x.tmod (d + 1) = rm := by rw [hrm, Int.tmod_eq_emod_of_nonneg hx0]
      have htd : x.tdiv (d + 1) = qd := by rw [hqd, Int.tdiv_eq_ediv_of_nonneg hx0]
      replace hrm := hrm.symm
      replace hqd := hqd.symm
      have hzd := Rg.zer_d HE.out (by omega)
      obtain ⟨zn, hzn⟩ : ∃ zn, zn = Rg.zer xs d j := ⟨_, rfl⟩
      rw [← hzn] at hzd ⊢
      have hon : (Rg.dats xs d j).length ≤ 1099511627776 := by rw [Rg.dats_len]; omega
      have hsz : w.heap.size ≤ wr.heap.size := HB.out.size
      clear hx hx1
      by_cases hr : rm = 0
      · obtain ⟨hz1, hv1⟩ := Rg.zer_yes (show Rg.remA xs d j = 0 by rw [HRM.out, hr])
        rw [← hzn] at hz1 hv1
        have HZ1 := Lib.hid hz1
        have HV1 := Lib.hid hv1
        have er : (rm == 0) = true := by rw [beq_iff_eq]; exact hr
        by_cases hd : (zn : Int) < d
        rotate_left
        · have HF := Lib.hid (Rg.datX_err HP.out HQ.out hjl HE.out (Rg.dat_yes (.inl (by rw [HZ1.out]; omega))))
          have HPS := Lib.hid ((show possB rm zn d = false by unfold possB; rw [decide_eq_false (by omega), decide_eq_false (by omega)]; rfl) ▸ possible_r rm zn d)
          clear hd hz1 hv1 hr hzn hr0 hr1
          go_wp2_with (first | (go_at_call 39; refine (HPS.out _).mono ?_; rintro r w' ⟨rfl, rfl⟩))
          go_ret2
          exact LstP_err HF.out rfl HB.out
        have HSY : Hid (Rg.dats xs d (j + 1) = Rg.dats xs d j ++ [(qd, (zn : Int) + 1)]) := Lib.hid (by rw [Rg.dats_succ, HDA.out, HV1.out]; rfl)
        have HE2 : Hid (∀ t, t < j + 1 → Rg.datE0 xs d t = 0) := Lib.hid (fun t ht => by
          by_cases et : t = j
          · subst et; exact Rg.dat_0 (by rw [HZ1.out, HV1.out]; omega)
          · exact HE.out t (by omega))
        have HPS := Lib.hid ((show possB rm zn d = true by unfold possB; rw [decide_eq_true (show rm = 0 ∧ (zn : Int) < d from ⟨hr, hd⟩)]; rfl) ▸ possible_r rm zn d)
        clear hd hz1 hv1 hr hzn hr0 hr1
        go_upto_region 17 with (first | (go_at_call 39; refine (HPS.out _).mono ?_; rintro r w' ⟨rfl, rfl⟩))
        clear er
        go_upto_region 10 with (first | (at_builtin; refine appL elD_len (by decide) rfl (.tmp 49) (.tmp 59) 26 63 _ _ rfl Try.underlying26 infoD rfl (by decide) (y := (qd, (zn : Int) + 1)) rfl rfl rfl rfl HO.out elD_one hon hsz ?_; intro v7 w7 ho7 hg7 hl7 hbb7 hbs7))
        replace HB := Lib.hid (hbb7 w.heap.size w (Nat.le_refl _) HB.out)
        replace HO : Hid (OwnL elD 2 w7 w.heap.size 63 v7 (Rg.dats xs d (j + 1))) := Lib.hid (by rw [HSY.out]; exact ho7)
        clear ho7 hg7 hl7 hbb7 hbs7
        go_wp2_with fail
        go_roundw
        case rel => exact ⟨j + 1, by omega, by go_num, by rw [HZ1.out]; go_num, HO, HE2, HB⟩
        case measure => simp [intOf] <;> omega
      obtain ⟨hz1, hv1⟩ := Rg.zer_no (show Rg.remA xs d j ≠ 0 by rw [HRM.out]; exact hr)
      rw [← hzn] at hz1
      rw [HRM.out] at hv1
      have HZ1 := Lib.hid hz1
      have HV1 := Lib.hid hv1
      have er : (rm == 0) = false := beq_eq_false_iff_ne.2 hr
      by_cases hd : (zn : Int) < rm
      · have HF := Lib.hid (Rg.datX_err HP.out HQ.out hjl HE.out (Rg.dat_yes (.inr (by rw [HZ1.out, HV1.out]; exact hd))))
        have HPS := Lib.hid ((show possB rm zn d = false by unfold possB; rw [decide_eq_false (show ¬ (rm = 0 ∧ (zn : Int) < d) from fun h => hr h.1), decide_eq_false (by omega)]; rfl) ▸ possible_r rm zn d)
        clear hd hz1 hv1 hr hzn
        go_wp2_with (first | (go_at_call 39; refine (HPS.out _).mono ?_; rintro r w' ⟨rfl, rfl⟩))
        go_ret2
        exact LstP_err HF.out rfl HB.out
      have HSY : Hid (Rg.dats xs d (j + 1) = Rg.dats xs d j ++ [(qd, rm)]) := Lib.hid (by rw [Rg.dats_succ, HDA.out, HV1.out])
      have HE2 : Hid (∀ t, t < j + 1 → Rg.datE0 xs d t = 0) := Lib.hid (fun t ht => by
        by_cases et : t = j
        · subst et; exact Rg.dat_0 (by rw [HZ1.out, HV1.out]; omega)
        · exact HE.out t (by omega))
      have HPS := Lib.hid ((show possB rm zn d = true by unfold possB; rw [decide_eq_true (show 0 < rm ∧ rm ≤ (zn : Int) by omega)]; simp) ▸ possible_r rm zn d)
      clear hd hz1 hv1 hr hzn
      go_upto_region 17 with (first | (go_at_call 39; refine (HPS.out _).mono ?_; rintro r w' ⟨rfl, rfl⟩))
      clear er
      go_upto_region 10 with (first | (at_builtin; refine appL elD_len (by decide) rfl (.tmp 49) (.tmp 59) 26 63 _ _ rfl Try.underlying26 infoD rfl (by decide) (y := (qd, rm)) rfl rfl rfl rfl HO.out elD_one hon hsz ?_; intro v7 w7 ho7 hg7 hl7 hbb7 hbs7))
      replace HB := Lib.hid (hbb7 w.heap.size w (Nat.le_refl _) HB.out)
      replace HO : Hid (OwnL elD 2 w7 w.heap.size 63 v7 (Rg.dats xs d (j + 1))) := Lib.hid (by rw [HSY.out]; exact ho7)
      clear ho7 hg7 hl7 hbb7 hbs7
      go_wp2_with fail
      go_roundw
      case rel => exact ⟨j + 1, by omega, by go_num, by rw [HZ1.out], HO, HE2, HB⟩
      case measure => simp [intOf] <;> omega
end Go.Proofs.Ytaoebjabdejpoaa
