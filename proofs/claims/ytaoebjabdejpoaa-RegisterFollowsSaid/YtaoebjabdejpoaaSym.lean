/- The symbols of a data word: the code's. -/
import Derived.Test.YtaoebjabdejpoaaCanR
namespace Go.Proofs.Ytaoebjabdejpoaa
open Go.RowKit

namespace Rg
theorem perm_bd {a d : Int} (h : permB a d = true) : 1 ≤ a ∧ a ≤ 64 ∧ 1 ≤ d ∧ d ≤ 6 ∧ a * (d + 1) ≤ 64 := of_decide_eq_true h
theorem symE_perm {w : Dw} {a d : Int} (h : permB a d = false) : symE w a d = (2, []) := by unfold symE; rw [if_pos h]
theorem symE_long {w : Dw} {a d : Int} (h : permB a d = true) (h1 : 1024 < w.length) : symE w a d = (3, []) := by unfold symE; rw [if_neg (by simp [h]), if_pos h1]
theorem symE_err {w : Dw} {a d : Int} (h : permB a d = true) (h1 : ¬ 1024 < w.length) {i : Nat} (hi : i < w.length) (h2 : ∀ t, t < i → symE0 w a d t = 0) {e : Int} (he : symE0 w a d i = e) (h0 : e ≠ 0) : symE w a d = (e, []) := by
  have hf := (Mea.firstE_at h2 (by rw [he]; exact h0) hi).trans he
  unfold symE; rw [if_neg (by simp [h]), if_neg h1, hf, if_pos h0]
theorem symE_ok {w : Dw} {a d : Int} (h : permB a d = true) (h1 : ¬ 1024 < w.length) (h2 : ∀ t, t < w.length → symE0 w a d t = 0) : symE w a d = (0, syms w d w.length) := by
  unfold symE; rw [if_neg (by simp [h]), if_neg h1, Mea.firstE_zero h2, if_neg (by simp)]
theorem old_in {w : Dw} {j : Nat} (h : (w.getD j (0, 0)).2 ∈ vals w j) : oldN w j = numA w j := if_pos h
theorem old_out {w : Dw} {j : Nat} (h : (w.getD j (0, 0)).2 ∉ vals w j) : oldN w j = 0 := if_neg h
theorem canon_get (w : Dw) {n j : Nat} (h : j < n) : (canon w n).getD j (0, 0) = canA w j := by
  unfold canon
  rw [List.getD_eq_getElem?_getD, List.getElem?_map, List.getElem?_range h]; rfl
end Rg
/-- what is handed back: a list of the call's own, and an error -/
def LstP {α : Type} (el : α → List Value) (size : Nat) (ty : TypeId) (X : Int × List α) (w : World) (r : Ending) (w' : World) : Prop :=
  (∃ v, r = .returned (.tuple #[v, .int .i64 X.1]) ∧ OwnL el size w' w.heap.size ty v X.2) ∧ Below w.heap.size w w'
theorem LstP_err {α : Type} {el : α → List Value} {size : Nat} {ty : TypeId} {X : Int × List α} {e : Int} {w w' : World} {r : Ending} (hX : X = (e, [])) (h : r = .returned (.tuple #[.slice none 0 0, .int .i64 e])) (hb : Below w.heap.size w w') : LstP el size ty X w r w' := by
  subst hX
  exact ⟨⟨_, h, World.ownsRow_nil _ _ _ _⟩, hb⟩
theorem LstP_ok {α : Type} {el : α → List Value} {size : Nat} {ty : TypeId} {X : Int × List α} {q : List α} {v : Value} {w w' : World} {r : Ending} (hX : X = (0, q)) (h : r = .returned (.tuple #[v, .int .i64 0])) (ho : OwnL el size w' w.heap.size ty v q) (hb : Below w.heap.size w w') : LstP el size ty X w r w' := by
  subst hX
  exact ⟨⟨_, h, ho⟩, hb⟩
set_option linter.unusedSimpArgs false
set_option maxRecDepth 100000 in
set_option maxHeartbeats 4000000 in
theorem symbols_p (ws : Rg.Dw) (a d : Int) (A : Option Addr) (c : Nat) (w : World) (hR : Rd2 w A ws) (hwf : WfW ws) (hlen : ws.length ≤ 2000) :
    Calls Try.prog 16 #[.slice A ws.length c, .int .i64 a, .int .i64 d] w (LstP elI 1 3 (Rg.symE ws a d) w) := by
  have HR := Lib.hid hR
  have mw := hR.1
  have HW := Lib.hid hwf
  clear hR hwf
  cases hp : Rg.permB a d with
  | false =>
    have HF := Lib.hid (Rg.symE_perm (w := ws) hp)
    have HC := Lib.hid (hp ▸ perm_p a d)
    clear hp
    go_enter Try.func16, Try.ntmps16
    go_wp2_with (first | (go_at_call 34; refine (HC.out _).mono ?_; rintro r w' ⟨rfl, rfl⟩))
    go_ret2
    exact LstP_err HF.out rfl (Below.refl _ _)
  | true =>
    have HP := Lib.hid hp
    have HC := Lib.hid (hp ▸ perm_p a d)
    obtain ⟨ha1, ha2, hd1, hd2, had⟩ := Rg.perm_bd hp
    clear hp
    by_cases hl : 1024 < ws.length
    · have HF := Lib.hid (Rg.symE_long HP.out hl)
      have hl' : (1024 : Int) < (ws.length : Int) := by omega
      go_enter Try.func16, Try.ntmps16
      go_wp2_with (first | (go_at_call 34; refine (HC.out _).mono ?_; rintro r w' ⟨rfl, rfl⟩))
      go_ret2
      exact LstP_err HF.out rfl (Below.refl _ _)
    have hl' : ¬ (1024 : Int) < (ws.length : Int) := by omega
    go_enter Try.func16, Try.ntmps16
    go_upto_region 7 with (first | (go_at_call 34; refine (HC.out _).mono ?_; rintro r w' ⟨rfl, rfl⟩))
    clear hl'
    go_wp2_with fail
    refine (canon_p ws A c w HR.out HW.out (by omega)).mono ?_
    rintro r w1 ⟨⟨v, rfl, ho⟩, hb⟩
    obtain ⟨U, uc, hU⟩ := own_slice ho
    rw [Rg.canon_len] at hU
    subst hU
    have HU : Hid (Rd2 w1 U (Rg.canon ws ws.length)) := Lib.hid (own_rd2 ho (by rw [Rg.canon_len]; omega)).2
    have HBL := Lib.hid hb
    clear hb ho
    go_upto_region 8 with fail
    go_loopw [8, 9, 23] (fun sv ov jv wr => ∃ j : Nat, j ≤ ws.length ∧ jv = .int .i64 j ∧ sv = .int .i64 ((Rg.vals ws j).length : Nat) ∧ Hid (OwnL elI 1 wr w1.heap.size 3 ov (Rg.syms ws d j)) ∧ Hid (∀ t, t < j → Rg.symE0 ws a d t = 0) ∧ Hid (Below w1.heap.size w1 wr)) (fun _ _ jv _ => ws.length - (intOf jv).toNat)
    case atStart => exact ⟨0, Nat.zero_le _, rfl, rfl, Lib.hid (World.ownsRow_nil _ _ _ _), Lib.hid (fun t ht => by omega), Lib.hid (Below.refl _ _)⟩
    case round =>
      obtain ⟨j, hj, rfl, rfl, HO, HE, HB⟩ := hrel
      rename World => wr
      by_cases hjl : j < ws.length
      rotate_left
      · obtain rfl : j = ws.length := by omega
        have HF := Lib.hid (Rg.symE_ok HP.out (by omega) HE.out)
        go_wp2
        go_ret2
        exact LstP_ok HF.out rfl (own_mono HO.out HBL.out.size) (below_seq HBL.out HB.out)
      have hji : (j : Int) < (ws.length : Int) := by omega
      have hcn : (Rg.canon ws ws.length).getD j (0, 0) = Rg.canA ws j := Rg.canon_get ws hjl
      obtain ⟨ad, x, v, rfl, hxv, ca, cb⟩ := HR.out.at_ hjl
      obtain ⟨ud, x2, nn, rfl, hun, ua, ub⟩ := HU.out.at_ (i := j) (by rw [Rg.canon_len]; exact hjl)
      rw [hcn] at hun
      unfold Rg.canA at hun
      rw [hxv] at hun
      injection hun with hx2 hnn
      subst hx2
      have hcc := cells2' (keep_cell HB.out ua) (keep_cell HB.out ub)
      have cax := keep_cell (below_seq HBL.out HB.out) ca
      clear hcn ua ub ca cb
      go_upto_region 10 with (refine wpList_load_any rfl 63 _ rfl (ud.add (j * 2)) rfl [.int .i64 x, .int .i64 nn] _ hcc Try.underlying63 rfl (by kernel_rfl) ?_)
      generalize hwb : World.alloc _ _ = wy
      have KD : Hid (Blk wy wr.heap.size 63 #[.int .i64 x, .int .i64 nn]) := Lib.hid (by rw [← hwb]; exact Blk.new _ _ _)
      have hal : Below wr.heap.size wr wy := by rw [← hwb]; exact (Below.refl _ _).alloc (Nat.le_refl _) _
      replace HO := Lib.hid (own_keep HO.out hal)
      replace HB := Lib.hid (below_seq HB.out hal)
      have k0 := KD.out.cell 0
      have k1 := KD.out.cell 1
      replace cax := keep_cell hal cax
      generalize wr.heap.size = gk at *
      clear hwb hal hcc KD wr
      have hx1 : (ws.getD j (0, 0)).1 = x := by rw [hxv]
      by_cases q0 : x < 0
      · have HF := Lib.hid (Rg.symE_err HP.out (by omega) hjl HE.out (Rg.sym_act (.inl (by rw [hx1]; exact q0))) (by decide))
        have e1 : decide (x < 0) = true := decide_eq_true q0
        clear q0 hnn hxv hx1
        go_wp2
        go_ret2
        exact LstP_err HF.out rfl (below_seq HBL.out HB.out)
      by_cases q1 : a ≤ x
      · have HF := Lib.hid (Rg.symE_err HP.out (by omega) hjl HE.out (Rg.sym_act (.inr (by rw [hx1]; exact q1))) (by decide))
        have e1 : decide (x < 0) = false := decide_eq_false q0
        have e2 : decide (a ≤ x) = true := decide_eq_true q1
        clear q0 q1 hnn hxv hx1
        go_wp2
        go_ret2
        exact LstP_err HF.out rfl (below_seq HBL.out HB.out)
      have HQ := Lib.hid (show ¬ ((ws.getD j (0, 0)).1 < 0 ∨ a ≤ (ws.getD j (0, 0)).1) by omega)
      have e1 : decide (x < 0) = false := decide_eq_false q0
      have e2 : decide (a ≤ x) = false := decide_eq_false q1
      have hm0 : 0 ≤ x * (d + 1) := Int.mul_nonneg (by omega) (by omega)
      have hm1 : x * (d + 1) ≤ 64 * 7 := Int.le_trans (Int.mul_le_mul_of_nonneg_right (show x ≤ 64 by omega) (by omega)) (Int.mul_le_mul_of_nonneg_left (by omega) (by omega))
      have hv : (ws.getD j (0, 0)).2 = v := by rw [hxv]
      have hvl := Rg.vals_len ws j
      have hnl := Rg.num_le ws j
      have hsy : Rg.syms ws d (j + 1) = Rg.syms ws d j ++ [x * (d + 1) + (Rg.oldN ws j : Int)] := by rw [Rg.syms_succ]; unfold Rg.symA; rw [hxv]
      have hon : (Rg.syms ws d j).length ≤ 1099511627776 := by rw [Rg.syms_len]; omega
      have hsz : w1.heap.size ≤ wy.heap.size := HB.out.size
      obtain ⟨V, vc, hV⟩ := own_slice HO.out
      rw [Rg.syms_len] at hV
      subst hV
      by_cases hm : (ws.getD j (0, 0)).2 ∈ Rg.vals ws j
      · rw [Rg.old_in hm] at hsy
        have hvs := Rg.vals_old hm
        rw [hvs] at hnl
        obtain ⟨n0, hn0⟩ : ∃ n0, n0 = Rg.numA ws j := ⟨_, rfl⟩
        rw [← hn0] at hsy hnl hnn
        obtain ⟨sl, hsl⟩ : ∃ sl, sl = (Rg.vals ws j).length := ⟨_, rfl⟩
        rw [← hsl] at hnl hvl ⊢
        have HSL := Lib.hid hsl
        have HVS := Lib.hid hvs
        have HSY := Lib.hid hsy
        subst hnn
        have g1 : ¬ (sl : Int) < (n0 : Int) := by omega
        clear hm hvs hsy hn0 hsl hxv hx1 hv q0 q1
        by_cases hd : d < (sl : Int)
        · have HF := Lib.hid (Rg.symE_err HP.out (by omega) hjl HE.out (Rg.sym_many HQ.out (by rw [HVS.out, ← HSL.out]; exact hd)) (by decide))
          go_wp2
          go_ret2
          exact LstP_err HF.out rfl (below_seq HBL.out HB.out)
        have HE2 : Hid (∀ t, t < j + 1 → Rg.symE0 ws a d t = 0) := Lib.hid (fun t ht => by
          by_cases et : t = j
          · subst et; exact Rg.sym_no HQ.out (by rw [HVS.out, ← HSL.out]; exact hd)
          · exact HE.out t (by omega))
        go_upto_region 17 with fail
        clear g1 e1 e2 cax k1 hd
        go_upto_region 18 with (first | (at_builtin; refine appL elI_len (by decide) rfl (.tmp 52) (.tmp 60) 22 3 _ _ rfl Try.underlying22 infoI rfl (by decide) (y := x * (d + 1) + (n0 : Int)) rfl rfl rfl rfl HO.out elI_one hon hsz ?_; intro v7 w7 ho7 hg7 hl7 hbb7 hbs7))
        replace HB := Lib.hid (hbb7 w1.heap.size w1 (Nat.le_refl _) HB.out)
        replace HO : Hid (OwnL elI 1 w7 w1.heap.size 3 v7 (Rg.syms ws d (j + 1))) := Lib.hid (by rw [HSY.out]; exact ho7)
        clear ho7 hg7 hl7 hbb7 hbs7 k0
        go_wp2_with fail
        go_roundw
        case rel => exact ⟨j + 1, by omega, by go_num, by rw [HVS.out, ← HSL.out], HO, HE2, HB⟩
        case measure => simp [intOf] <;> omega
      rw [Rg.old_out hm, show ((0 : Nat) : Int) = 0 from rfl, Int.add_zero] at hsy
      have hvs := Rg.vals_new hm
      have hnw := Rg.num_new hm
      rw [hnw] at hnn
      obtain ⟨sl, hsl⟩ : ∃ sl, sl = (Rg.vals ws j).length := ⟨_, rfl⟩
      rw [← hsl] at hnn hvl ⊢
      have HSL := Lib.hid (show (Rg.vals ws (j + 1)).length = sl + 1 by rw [hvs, List.length_append, ← hsl]; rfl)
      have HSY := Lib.hid hsy
      subst hnn
      have g1 : (sl : Int) < ((sl + 1 : Nat) : Int) := by omega
      clear hm hvs hsy hsl hxv hx1 hv q0 q1 hnl hnw
      by_cases hd : d < ((sl + 1 : Nat) : Int)
      · have HF := Lib.hid (Rg.symE_err HP.out (by omega) hjl HE.out (Rg.sym_many HQ.out (by rw [HSL.out]; exact hd)) (by decide))
        have hd' : d < (sl : Int) + 1 := hd
        go_wp2
        go_ret2
        exact LstP_err HF.out rfl (below_seq HBL.out HB.out)
      have HE2 : Hid (∀ t, t < j + 1 → Rg.symE0 ws a d t = 0) := Lib.hid (fun t ht => by
        by_cases et : t = j
        · subst et; exact Rg.sym_no HQ.out (by rw [HSL.out]; exact hd)
        · exact HE.out t (by omega))
      have hd' : ¬ d < (sl : Int) + 1 := hd
      go_upto_region 17 with fail
      clear g1 e1 e2 cax k1 hd hd'
      go_upto_region 18 with (first | (at_builtin; refine appL elI_len (by decide) rfl (.tmp 52) (.tmp 60) 22 3 _ _ rfl Try.underlying22 infoI rfl (by decide) (y := x * (d + 1)) rfl rfl rfl rfl HO.out elI_one hon hsz ?_; intro v7 w7 ho7 hg7 hl7 hbb7 hbs7))
      replace HB := Lib.hid (hbb7 w1.heap.size w1 (Nat.le_refl _) HB.out)
      replace HO : Hid (OwnL elI 1 w7 w1.heap.size 3 v7 (Rg.syms ws d (j + 1))) := Lib.hid (by rw [HSY.out]; exact ho7)
      clear ho7 hg7 hl7 hbb7 hbs7 k0
      go_wp2_with fail
      go_roundw
      case rel => exact ⟨j + 1, by omega, by go_num, by rw [HSL.out]; go_num, HO, HE2, HB⟩
      case measure => simp [intOf] <;> omega
end Go.Proofs.Ytaoebjabdejpoaa
