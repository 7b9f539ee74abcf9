/- The symbols of a data word: the reference's. -/
import Derived.Test.YtaoebjabdejpoaaSym
namespace Go.Proofs.Ytaoebjabdejpoaa
open Go.RowKit

theorem Rg.vals_d {w : Rg.Dw} {a d : Int} {j : Nat} (h : ∀ t, t < j → Rg.symE0 w a d t = 0) (hd : 0 ≤ d) : ((Rg.vals w j).length : Int) ≤ d := by
  cases j with
  | zero => exact hd
  | succ j =>
    have := h j (by omega)
    unfold Rg.symE0 at this
    split at this
    · omega
    · split at this
      · omega
      · omega
set_option linter.unusedSimpArgs false
set_option maxRecDepth 100000 in
set_option maxHeartbeats 4000000 in
theorem symbols_r (ws : Rg.Dw) (a d : Int) (A : Option Addr) (c : Nat) (w : World) (hR : Rd2 w A ws) (hlen : ws.length ≤ 2000) :
    Calls Try.prog 17 #[.slice A ws.length c, .int .i64 a, .int .i64 d] w (LstP elI 1 3 (Rg.symE ws a d) w) := by
  have HR := Lib.hid hR
  have mw := hR.1
  clear hR
  cases hp : Rg.permB a d with
  | false =>
    have HF := Lib.hid (Rg.symE_perm (w := ws) hp)
    have HC := Lib.hid (hp ▸ perm_r a d)
    clear hp
    go_enter Try.func17, Try.ntmps17
    go_wp2_with (first | (go_at_call 35; refine (HC.out _).mono ?_; rintro r w' ⟨rfl, rfl⟩))
    go_ret2
    exact LstP_err HF.out rfl (Below.refl _ _)
  | true =>
    have HP := Lib.hid hp
    have HC := Lib.hid (hp ▸ perm_r a d)
    obtain ⟨ha1, ha2, hd1, hd2, had⟩ := Rg.perm_bd hp
    clear hp
    by_cases hl : 1024 < ws.length
    · have HF := Lib.hid (Rg.symE_long HP.out hl)
      have hl' : (1024 : Int) < (ws.length : Int) := by omega
      go_enter Try.func17, Try.ntmps17
      go_wp2_with (first | (go_at_call 35; refine (HC.out _).mono ?_; rintro r w' ⟨rfl, rfl⟩))
      go_ret2
      exact LstP_err HF.out rfl (Below.refl _ _)
    have hl' : ¬ (1024 : Int) < (ws.length : Int) := by omega
    go_enter Try.func17, Try.ntmps17
    go_upto_region 7 with (first | (go_at_call 35; refine (HC.out _).mono ?_; rintro r w' ⟨rfl, rfl⟩))
    clear hl'
    go_loopw [8, 9, 10] (fun vv ov jv wr => ∃ j : Nat, j ≤ ws.length ∧ jv = .int .i64 j ∧ Hid (OwnL elI 1 wr w.heap.size 3 vv (Rg.vals ws j)) ∧ Hid (OwnL elI 1 wr w.heap.size 3 ov (Rg.syms ws d j)) ∧ Hid (∀ g, vv.ownBlock = some g → ov.ownBlock ≠ some g) ∧ Hid (∀ t, t < j → Rg.symE0 ws a d t = 0) ∧ Hid (Below w.heap.size w wr)) (fun _ _ jv _ => ws.length - (intOf jv).toNat)
    case atStart => exact ⟨0, Nat.zero_le _, rfl, Lib.hid (World.ownsRow_nil _ _ _ _), Lib.hid (World.ownsRow_nil _ _ _ _), Lib.hid (fun g h => by simp [Value.ownBlock] at h), Lib.hid (fun t ht => by omega), Lib.hid (Below.refl _ _)⟩
    case round =>
      obtain ⟨j, hj, rfl, HV, HO, HN, HE, HB⟩ := hrel
      rename World => wr
      obtain ⟨U, uc, hU⟩ := own_slice HO.out
      rw [Rg.syms_len] at hU
      subst hU
      obtain ⟨V, vc, rfl⟩ := own_slice HV.out
      by_cases hjl : j < ws.length
      rotate_left
      · obtain rfl : j = ws.length := by omega
        have HF := Lib.hid (Rg.symE_ok HP.out (by omega) HE.out)
        go_wp2
        go_ret2
        exact LstP_ok HF.out rfl HO.out HB.out
      have hji : (j : Int) < (ws.length : Int) := by omega
      obtain ⟨ad, x, v, rfl, hxv, ca, cb⟩ := HR.out.at_ hjl
      have cax := keep_cell HB.out ca
      have cbx := cell_fld (keep_cell HB.out cb) (by decide)
      have hx1 : (ws.getD j (0, 0)).1 = x := by rw [hxv]
      by_cases z0 : x < 0
      · have HF := Lib.hid (Rg.symE_err HP.out (by omega) hjl HE.out (Rg.sym_act (.inl (by rw [hx1]; exact z0))) (by decide))
        have e1 : decide (x < 0) = true := decide_eq_true z0
        clear z0 hxv hx1
        go_wp2
        go_ret2
        exact LstP_err HF.out rfl HB.out
      by_cases q1 : a ≤ x
      · have HF := Lib.hid (Rg.symE_err HP.out (by omega) hjl HE.out (Rg.sym_act (.inr (by rw [hx1]; exact q1))) (by decide))
        have e1 : decide (x < 0) = false := decide_eq_false z0
        have e2 : decide (a ≤ x) = true := decide_eq_true q1
        clear z0 q1 hxv hx1
        go_wp2
        go_ret2
        exact LstP_err HF.out rfl HB.out
      have HQ := Lib.hid (show ¬ ((ws.getD j (0, 0)).1 < 0 ∨ a ≤ (ws.getD j (0, 0)).1) by omega)
      have e1 : decide (x < 0) = false := decide_eq_false z0
      have e2 : decide (a ≤ x) = false := decide_eq_false q1
      have hm0 : 0 ≤ x * (d + 1) := Int.mul_nonneg (by omega) (by omega)
      have hm1 : x * (d + 1) ≤ 64 * 7 := Int.le_trans (Int.mul_le_mul_of_nonneg_right (show x ≤ 64 by omega) (by omega)) (Int.mul_le_mul_of_nonneg_left (by omega) (by omega))
      have hv : (ws.getD j (0, 0)).2 = v := by rw [hxv]
      have hvl := Rg.vals_len ws j
      have hsy : Rg.syms ws d (j + 1) = Rg.syms ws d j ++ [x * (d + 1) + (Rg.oldN ws j : Int)] := by rw [Rg.syms_succ]; unfold Rg.symA; rw [hxv]
      have hon : (Rg.syms ws d j).length ≤ 1099511627776 := by rw [Rg.syms_len]; omega
      have hsz : w.heap.size ≤ wr.heap.size := HB.out.size
      have HQ0 := Lib.hid (own_rdi HV.out (by omega)).2
      obtain ⟨q0, hq0⟩ : ∃ q, q = Rg.vals ws j := ⟨_, rfl⟩
      have hvd := Rg.vals_d HE.out (by omega)
      have hmm : (ws.getD j (0, 0)).2 ∈ Rg.vals ws j ↔ v ∈ q0 := by rw [hv, hq0]
      by_cases hm : v ∈ q0
      · have hm2 := hmm.2 hm
        have hnum : Rg.numA ws j = Rg.idx q0 v + 1 := by rw [Rg.num_old hm2, hv, ← hq0]
        rw [Rg.old_in hm2, hnum] at hsy
        have hvs := Rg.vals_old hm2
        rw [← hq0] at hvs hvl HV HQ0 hvd HN ⊢
        have hz := Rg.numI_in hm
        obtain ⟨n0, hn0⟩ : ∃ n0, n0 = Rg.idx q0 v + 1 := ⟨_, rfl⟩
        rw [← hn0] at hsy hz
        have hfe : ((n0 : Int) == 0) = false := beq_eq_false_iff_ne.2 (by omega)
        have hil : n0 ≤ q0.length := by have := Rg.idx_lt.2 hm; omega
        have HF := Lib.hid hz
        have HVS := Lib.hid hvs
        have HSY := Lib.hid hsy
        have HE2 : Hid (∀ t, t < j + 1 → Rg.symE0 ws a d t = 0) := Lib.hid (fun t ht => by
          by_cases et : t = j
          · subst et; exact Rg.sym_no HQ.out (by rw [hvs]; omega)
          · exact HE.out t (by omega))
        clear hm hm2 hmm hnum hsy hvs hz hn0 hv hx1 hxv z0 q1 hq0 hvd
        go_upto_region 16 with (first | (go_at_call 36; (with_reducible refine (number_r V vc q0 v _ HQ0.out).mono ?_); rintro r wv ⟨rfl, n, rfl⟩; rw [HF.out]))
        replace HV := Lib.hid (own_drewN HV.out n)
        replace HO := Lib.hid (own_drewN HO.out n)
        replace HB := Lib.hid (below_drewN' HB.out n)
        replace cax : (wr.drewN n).cell? (ad.add (j * 2)) = some (.int .i64 x) := cax
        clear HQ0 HF hfe e1 e2 cbx
        generalize hwd : World.drewN wr n = wy at *
        clear hwd hsz wr
        have hsz : w.heap.size ≤ wy.heap.size := HB.out.size
        go_upto_region 8 with (first | (at_builtin; refine appL elI_len (by decide) rfl (.tmp 61) (.tmp 72) 22 3 _ _ rfl Try.underlying22 infoI rfl (by decide) (y := x * (d + 1) + (n0 : Int)) rfl rfl rfl rfl HO.out elI_one hon hsz ?_; intro v7 w7 ho7 hg7 hl7 hbb7 hbs7))
        have hp7 := (Pr2.mk HV.out HO.out HN.out).pushO ho7 hg7 hl7
        replace HB := Lib.hid (hbb7 w.heap.size w (Nat.le_refl _) HB.out)
        replace HV : Hid (OwnL elI 1 w7 w.heap.size 3 _ (Rg.vals ws (j + 1))) := Lib.hid (by rw [HVS.out]; exact hp7.n)
        replace HO : Hid (OwnL elI 1 w7 w.heap.size 3 v7 (Rg.syms ws d (j + 1))) := Lib.hid (by rw [HSY.out]; exact hp7.o)
        replace HN := Lib.hid hp7.ne
        clear ho7 hg7 hl7 hbb7 hbs7 hp7
        go_wp2_with fail
        go_roundw
        case rel => exact ⟨j + 1, by omega, by go_num, HV, HO, HN, HE2, HB⟩
        case measure => simp [intOf] <;> omega
      have hm2 := fun h => hm (hmm.1 h)
      rw [Rg.old_out hm2, show ((0 : Nat) : Int) = 0 from rfl, Int.add_zero] at hsy
      have hvs := Rg.vals_new hm2
      rw [hv, ← hq0] at hvs
      rw [← hq0] at hvl HV HQ0 hvd HN ⊢
      have hz := Rg.numI_out hm
      have HF := Lib.hid hz
      have HVS := Lib.hid hvs
      have HSY := Lib.hid hsy
      clear hm hm2 hmm hsy hvs hz hv hx1 hxv z0 q1 hq0
      by_cases hd : (q0.length : Int) = d
      · have HFE := Lib.hid (Rg.symE_err HP.out (by omega) hjl HE.out (Rg.sym_many HQ.out (by rw [HVS.out, List.length_append]; simp; omega)) (by decide))
        have hde : ((q0.length : Int) == d) = true := by rw [beq_iff_eq]; exact hd
        clear hd
        go_wp2_with (first | (go_at_call 36; (with_reducible refine (number_r V vc q0 v _ HQ0.out).mono ?_); rintro r wv ⟨rfl, n, rfl⟩; rw [HF.out]))
        go_ret2
        exact LstP_err HFE.out rfl (below_drewN' HB.out n)
      have HE2 : Hid (∀ t, t < j + 1 → Rg.symE0 ws a d t = 0) := Lib.hid (fun t ht => by
        by_cases et : t = j
        · subst et; exact Rg.sym_no HQ.out (by rw [HVS.out, List.length_append]; simp; omega)
        · exact HE.out t (by omega))
      have hde : ((q0.length : Int) == d) = false := beq_eq_false_iff_ne.2 hd
      clear hd hvd
      go_upto_region 15 with (first | (go_at_call 36; (with_reducible refine (number_r V vc q0 v _ HQ0.out).mono ?_); rintro r wv ⟨rfl, n, rfl⟩; rw [HF.out]))
      replace HV := Lib.hid (own_drewN HV.out n)
      replace HO := Lib.hid (own_drewN HO.out n)
      replace HB := Lib.hid (below_drewN' HB.out n)
      replace cax : (wr.drewN n).cell? (ad.add (j * 2)) = some (.int .i64 x) := cax
      replace cbx : (wr.drewN n).cell? ⟨(ad.add (j * 2)).block, (ad.add (j * 2)).off + 1, none⟩ = some (.int .i64 v) := cbx
      clear HQ0 HF hde e1 e2
      generalize hwd : World.drewN wr n = wy at *
      clear hwd hsz wr
      have hsz : w.heap.size ≤ wy.heap.size := HB.out.size
      have hvn : q0.length ≤ 1099511627776 := by omega
      go_upto_region 16 with (first | (at_builtin; refine appL elI_len (by decide) rfl (.tmp 53) (.tmp 59) 22 3 _ _ rfl Try.underlying22 infoI rfl (by decide) (y := v) rfl rfl rfl rfl HV.out elI_one hvn hsz ?_; intro v8 w8 ho8 hg8 hl8 hbb8 hbs8; have cax8 := keep_cell (hbb8 w.heap.size w (Nat.le_refl _) HB.out) ca))
      have hp8 := (Pr2.mk HV.out HO.out HN.out).pushN ho8 hg8 hl8
      replace HB := Lib.hid (hbb8 w.heap.size w (Nat.le_refl _) HB.out)
      replace HV := Lib.hid hp8.n
      replace HO := Lib.hid hp8.o
      replace HN := Lib.hid hp8.ne
      clear ho8 hg8 hl8 hbb8 hbs8 hp8 cax cbx hvn
      replace hsz : w.heap.size ≤ w8.heap.size := HB.out.size
      go_upto_region 8 with (first | (at_builtin; refine appL elI_len (by decide) rfl (.tmp 61) (.tmp 72) 22 3 _ _ rfl Try.underlying22 infoI rfl (by decide) (y := x * (d + 1)) rfl rfl rfl rfl HO.out elI_one hon hsz ?_; intro v7 w7 ho7 hg7 hl7 hbb7 hbs7))
      have hp7 := (Pr2.mk HV.out HO.out HN.out).pushO ho7 hg7 hl7
      replace HB := Lib.hid (hbb7 w.heap.size w (Nat.le_refl _) HB.out)
      replace HV : Hid (OwnL elI 1 w7 w.heap.size 3 _ (Rg.vals ws (j + 1))) := Lib.hid (by rw [HVS.out]; exact hp7.n)
      replace HO : Hid (OwnL elI 1 w7 w.heap.size 3 v7 (Rg.syms ws d (j + 1))) := Lib.hid (by rw [HSY.out]; exact hp7.o)
      replace HN := Lib.hid hp7.ne
      clear ho7 hg7 hl7 hbb7 hbs7 hp7
      go_wp2_with fail
      go_roundw
      case rel => exact ⟨j + 1, by omega, by go_num, HV, HO, HN, HE2, HB⟩
      case measure => simp [intOf] <;> omega
end Go.Proofs.Ytaoebjabdejpoaa
