/- Devices: Great, Cost of both. -/
import Derived.Test.YtpoppadihbgbgaaDev14
import Derived.BigQuiet
namespace Go.Proofs.Ytpoppadihbgbgaa
open Go.RowKit

/-- some Boolean comes back -/
def AnyB (r : Ending) : Prop := ∃ b, r = .returned (.bool b)
theorem AnyB.mk (b : Bool) : AnyB (.returned (.bool b)) := ⟨b, rfl⟩
set_option maxRecDepth 100000 in
set_option maxHeartbeats 2000000 in
theorem great_b (I S rs : Int) (nx out : List (List Int)) (step : List Int) (A B C : Option Addr) (c d e : Nat) (w : World) (ha : RdM .i64 w A nx) (hb : RdM .i64 w B out) (hs : Rd w C step) :
    Calls Try.prog 8 #[.agg #[.int .i64 I, .int .i64 S, .slice A nx.length c, .slice B out.length d], .agg #[.slice C step.length e, .int .i64 rs]] w fun r w' => AnyB r ∧ Below w.heap.size w w' := by
  have mx := ha.1
  have my := hb.1
  have mz := hs.1
  have HA := Lib.hid ha
  have HB := Lib.hid hb
  clear ha hb hs
  go_enter Try.func8, Try.ntmps8
  go_wp2_with fail
  obtain ⟨w0, hw0⟩ : ∃ w0, w0 = (w.alloc (.cells #[.int .i64 I, .int .i64 S, .slice A nx.length c, .slice B out.length d] 24)).alloc (.cells #[.slice C step.length e, .int .i64 rs] 27) := ⟨_, rfl⟩
  have k2 : w0.cell? ⟨w.heap.size, 2, none⟩ = some (.slice A nx.length c) := by rw [hw0]; simp
  have k3 : w0.cell? ⟨w.heap.size, 3, none⟩ = some (.slice B out.length d) := by rw [hw0]; simp
  have k4 : w0.cell? ⟨w.heap.size + 1, 0, none⟩ = some (.slice C step.length e) := by rw [hw0]; simp
  have hbel : Below w.heap.size w w0 := by rw [hw0]; exact ((Below.refl _ _).alloc (Nat.le_refl _) _).alloc (by rw [size_alloc]; omega) _
  rw [← hw0]
  clear hw0
  go_loopw [5] (fun u wr => ∃ j : Nat, j ≤ nx.length ∧ j ≤ 13 ∧ u = .int .i64 (j : Int) ∧ wr = w0) (fun u _ => 13 - (intOf u).toNat)
  case atStart => exact ⟨0, Nat.zero_le _, by omega, by simp, by simp⟩
  case round =>
    obtain ⟨j, hj, hj2, rfl, hw⟩ := hrel
    subst wr
    by_cases h1 : j < nx.length
    · by_cases h2 : j < 13
      · obtain ⟨ad, G, g, xs, rfl, hx, cx, rx⟩ := (HA.out.keep hbel).at_ h1
        have hxl := rx.1
        clear hx rx
        by_cases h3 : (6 : Int) < (xs.length : Int)
        · first
          | (exfalso; omega)
          | (go_wp2_with fail; go_ret; exact ⟨AnyB.mk _, hbel⟩)
        · go_wp2_with fail
          go_roundw
          case rel => exact ⟨j + 1, by omega, by omega, by go_num, by simp⟩
          case measure => simp [intOf]; omega
      · go_wp2_with fail
        go_loopw [6] (fun u wr => ∃ j : Nat, j ≤ out.length ∧ j ≤ 21 ∧ u = .int .i64 (j : Int) ∧ wr = w0) (fun u _ => 21 - (intOf u).toNat)
        case atStart => exact ⟨0, Nat.zero_le _, by omega, by simp, by simp⟩
        case round =>
          obtain ⟨i, hi, hi2, rfl, hw⟩ := hrel
          subst wr
          by_cases g1 : i < out.length
          · by_cases g2 : i < 21
            · obtain ⟨ad, G, g, xs, rfl, hx, cx, rx⟩ := (HB.out.keep hbel).at_ g1
              have hxl := rx.1
              clear hx rx
              by_cases g3 : (6 : Int) < (xs.length : Int)
              · first
                | (exfalso; omega)
                | (go_wp2_with fail; go_ret; exact ⟨AnyB.mk _, hbel⟩)
              · go_wp2_with fail
                go_roundw
                case rel => exact ⟨i + 1, by omega, by omega, by go_num, by simp⟩
                case measure => simp [intOf]; omega
            · by_cases t1 : (12 : Int) < (nx.length : Int)
              · first
                | (exfalso; omega)
                | (go_wp2_with fail; go_ret; exact ⟨AnyB.mk _, hbel⟩)
              · by_cases t2 : (20 : Int) < (out.length : Int)
                · first
                  | (exfalso; omega)
                  | (go_wp2_with fail; go_ret; exact ⟨AnyB.mk _, hbel⟩)
                · first
                  | (exfalso; omega)
                  | (go_wp2_with fail; go_ret; exact ⟨AnyB.mk _, hbel⟩)
          · by_cases t1 : (12 : Int) < (nx.length : Int)
            · first
              | (exfalso; omega)
              | (go_wp2_with fail; go_ret; exact ⟨AnyB.mk _, hbel⟩)
            · by_cases t2 : (20 : Int) < (out.length : Int)
              · first
                | (exfalso; omega)
                | (go_wp2_with fail; go_ret; exact ⟨AnyB.mk _, hbel⟩)
              · first
                | (exfalso; omega)
                | (go_wp2_with fail; go_ret; exact ⟨AnyB.mk _, hbel⟩)
    · go_wp2_with fail
      go_loopw [6] (fun u wr => ∃ j : Nat, j ≤ out.length ∧ j ≤ 21 ∧ u = .int .i64 (j : Int) ∧ wr = w0) (fun u _ => 21 - (intOf u).toNat)
      case atStart => exact ⟨0, Nat.zero_le _, by omega, by simp, by simp⟩
      case round =>
        obtain ⟨i, hi, hi2, rfl, hw⟩ := hrel
        subst wr
        by_cases g1 : i < out.length
        · by_cases g2 : i < 21
          · obtain ⟨ad, G, g, xs, rfl, hx, cx, rx⟩ := (HB.out.keep hbel).at_ g1
            have hxl := rx.1
            clear hx rx
            by_cases g3 : (6 : Int) < (xs.length : Int)
            · first
              | (exfalso; omega)
              | (go_wp2_with fail; go_ret; exact ⟨AnyB.mk _, hbel⟩)
            · go_wp2_with fail
              go_roundw
              case rel => exact ⟨i + 1, by omega, by omega, by go_num, by simp⟩
              case measure => simp [intOf]; omega
          · by_cases t1 : (12 : Int) < (nx.length : Int)
            · first
              | (exfalso; omega)
              | (go_wp2_with fail; go_ret; exact ⟨AnyB.mk _, hbel⟩)
            · by_cases t2 : (20 : Int) < (out.length : Int)
              · first
                | (exfalso; omega)
                | (go_wp2_with fail; go_ret; exact ⟨AnyB.mk _, hbel⟩)
              · first
                | (exfalso; omega)
                | (go_wp2_with fail; go_ret; exact ⟨AnyB.mk _, hbel⟩)
        · by_cases t1 : (12 : Int) < (nx.length : Int)
          · first
            | (exfalso; omega)
            | (go_wp2_with fail; go_ret; exact ⟨AnyB.mk _, hbel⟩)
          · by_cases t2 : (20 : Int) < (out.length : Int)
            · first
              | (exfalso; omega)
              | (go_wp2_with fail; go_ret; exact ⟨AnyB.mk _, hbel⟩)
            · first
              | (exfalso; omega)
              | (go_wp2_with fail; go_ret; exact ⟨AnyB.mk _, hbel⟩)
def sumTo (step ws : List Int) : Nat → Int
  | 0 => 0
  | j + 1 => sumTo step ws j + step.getD (ws.getD j 0).toNat 0
def coE (step : List Int) (rs : Int) (ws : List Int) : Int := if step.length < 1 ∨ 64 < step.length then 2 else if costE step rs ≠ 0 then costE step rs else checkE step.length ws
def coN (step : List Int) (rs : Int) (ws : List Int) : Int := if coE step rs ws = 0 then rs + sumTo step ws ws.length else 0
theorem co_bad {step ws : List Int} {rs E : Int} (h : coE step rs ws = E) (h0 : ¬ E = 0) : coE step rs ws = E ∧ coN step rs ws = 0 := ⟨h, if_neg (by rw [h]; exact h0)⟩
theorem co_1 {step ws : List Int} {rs : Int} (h : step.length < 1 ∨ 64 < step.length) : coE step rs ws = 2 := if_pos h
theorem co_2 {step ws : List Int} {rs : Int} (h : ¬ (step.length < 1 ∨ 64 < step.length)) (h2 : ¬ costE step rs = 0) : coE step rs ws = costE step rs := by unfold coE; rw [if_neg h, if_pos h2]
theorem co_3 {step ws : List Int} {rs : Int} (h : ¬ (step.length < 1 ∨ 64 < step.length)) (h2 : costE step rs = 0) : coE step rs ws = checkE step.length ws := by unfold coE; rw [if_neg h, if_neg (by rw [h2]; simp)]
theorem co_ok {step ws : List Int} {rs : Int} (h : coE step rs ws = 0) : coN step rs ws = rs + sumTo step ws ws.length := if_pos h
theorem sum_bd {step ws : List Int} (hs : ∀ i, i < step.length → 0 ≤ step.getD i 0 ∧ step.getD i 0 ≤ 1048576) (hw : ∀ i, i < ws.length → 0 ≤ ws.getD i 0 ∧ ws.getD i 0 < step.length) : ∀ j, j ≤ ws.length → 0 ≤ sumTo step ws j ∧ sumTo step ws j ≤ j * 1048576
  | 0, _ => by simp [sumTo]
  | j + 1, h => by
    have h1 := sum_bd hs hw j (by omega)
    have h2 := hw j (by omega)
    have h3 := hs (ws.getD j 0).toNat (by omega)
    rw [sumTo]
    omega
theorem check_all {k : Int} {ws : List Int} (h : checkE k ws = 0) : 1 ≤ k ∧ k ≤ 1024 ∧ ws.length ≤ 1024 ∧ ∀ i, i < ws.length → 0 ≤ ws.getD i 0 ∧ ws.getD i 0 < k := by
  unfold checkE at h
  by_cases h1 : k < 1 ∨ 1024 < k
  · rw [if_pos h1] at h; omega
  rw [if_neg h1] at h
  by_cases h2 : 1024 < ws.length
  · rw [if_pos h2] at h; omega
  rw [if_neg h2] at h
  by_cases h3 : ws.any (badB k) = true
  · rw [if_pos h3] at h; omega
  refine ⟨by omega, by omega, by omega, fun i hi => ?_⟩
  have h4 : ws.any (badB k) = false := by simpa using h3
  rw [List.any_eq_false] at h4
  have h5 := h4 _ (getD_mem' hi)
  unfold badB at h5
  rw [Bool.or_eq_true, decide_eq_true_iff, decide_eq_true_iff] at h5
  omega
theorem cost_zero {step : List Int} {rs : Int} (h : costE step rs = 0) : (∀ i, i < step.length → 0 ≤ step.getD i 0 ∧ step.getD i 0 ≤ 1048576) ∧ 0 ≤ rs ∧ rs ≤ 1048576 := by
  have := fits_zero (lat := step) (rs := rs) (k := step.length) (by unfold fitsE; rw [if_neg (by simp)]; exact h)
  exact ⟨this.2.1, this.2.2⟩
theorem costE_2 {step : List Int} {rs : Int} (h : ¬ costE step rs = 0) : costE step rs = 2 := by
  unfold costE at *
  split
  · rfl
  · rename_i hc; rw [if_neg hc] at h; exact absurd rfl h
theorem good_f {step : List Int} {rs : Int} (h : ¬ costE step rs = 0) : goodC step rs = false := by
  unfold costE at h
  unfold goodC
  split at h
  · rename_i hc; rw [hc]; rfl
  · exact absurd rfl h
theorem good_t {step : List Int} {rs : Int} (h : costE step rs = 0) : goodC step rs = true := by
  unfold costE at h
  unfold goodC
  split at h
  · omega
  · rename_i hc; have : badC step rs = false := by simpa using hc
    rw [this]; rfl
set_option maxRecDepth 100000 in
set_option maxHeartbeats 4000000 in
theorem Cost_p (step ws : List Int) (rs : Int) (C F : Option Addr) (e f : Nat) (w : World) (hs : Rd w C step) (hw : Rd w F ws) :
    Calls Try.prog 21 #[.agg #[.slice C step.length e, .int .i64 rs], .slice F ws.length f] w fun r w' => r = .returned (.tuple #[.int .i64 (coN step rs ws), .int .i64 (coE step rs ws)]) ∧ Below w.heap.size w w' := by
  have ms := hs.1
  have mw := hw.1
  have HS := Lib.hid hs
  have HW := Lib.hid hw
  clear hs hw
  have hbx : Below w.heap.size w (w.alloc (.cells #[.slice C step.length e, .int .i64 rs] 27)) := (Below.refl _ _).alloc (Nat.le_refl _) _
  by_cases h1 : step.length < 1
  · have HE := Lib.hid (co_bad (ws := ws) (rs := rs) (co_1 (.inl h1)) (by decide))
    go_enter Try.func21, Try.ntmps21
    go_wp2_with fail
    go_ret2
    exact ⟨by rw [HE.out.1, HE.out.2]; rfl, hbx⟩
  by_cases h2 : 64 < step.length
  · have HE := Lib.hid (co_bad (ws := ws) (rs := rs) (co_1 (.inr h2)) (by decide))
    go_enter Try.func21, Try.ntmps21
    go_wp2_with fail
    go_ret2
    exact ⟨by rw [HE.out.1, HE.out.2]; rfl, hbx⟩
  have h3 : ¬ (step.length < 1 ∨ 64 < step.length) := by omega
  go_enter Try.func21, Try.ntmps21
  go_wp2_with fail
  obtain ⟨w0, hw0⟩ : ∃ w0, w0 = w.alloc (.cells #[.slice C step.length e, .int .i64 rs] 27) := ⟨_, rfl⟩
  have k0 : w0.cell? ⟨w.heap.size, 0, none⟩ = some (.slice C step.length e) := by rw [hw0]; simp
  have k1 : w0.cell? ⟨w.heap.size, 1, none⟩ = some (.int .i64 rs) := by rw [hw0]; simp
  have hlt : w.heap.size < w0.heap.size := by rw [hw0]; exact size_new _ _
  rw [← hw0] at hbx ⊢
  clear hw0
  refine (costs_p C e step rs w0 (HS.out.keep hbx)).mono ?_
  rintro r w1 ⟨rfl, hb⟩
  by_cases h4 : costE step rs = 0
  rotate_left
  · have hb2 := ne0 h4
    have HE := Lib.hid (co_bad (co_2 (ws := ws) h3 h4) h4)
    clear h4 h3
    go_wp2_with fail
    go_ret2
    exact ⟨by rw [HE.out.1, HE.out.2]; rfl, below_seq hbx hb⟩
  have HC := Lib.hid (co_3 (ws := ws) h3 h4)
  have HCo := Lib.hid (cost_zero h4)
  rw [h4]
  clear h4 h3
  replace k0 := keep_cell hb k0
  replace k1 := keep_cell hb k1
  replace hlt := Nat.lt_of_lt_of_le hlt hb.size
  replace hbx := below_seq hbx hb
  clear hb
  go_wp2_with fail
  refine (check_any (step.length : Int) F f ws w1 (HW.out.keep hbx)).mono ?_
  rintro r w2 ⟨rfl, hb⟩
  replace k0 := keep_cell hb k0
  replace k1 := keep_cell hb k1
  replace hlt := Nat.lt_of_lt_of_le hlt hb.size
  replace hbx := below_seq hbx hb
  clear hb
  by_cases h5 : checkE (step.length : Int) ws = 0
  rotate_left
  · have hb2 := ne0 h5
    have HE := Lib.hid (co_bad HC.out h5)
    clear h5
    go_wp2_with fail
    go_ret2
    exact ⟨by rw [HE.out.1, HE.out.2]; rfl, hbx⟩
  have HE : Hid (coE step rs ws = 0 ∧ coN step rs ws = rs + sumTo step ws ws.length) := Lib.hid ⟨HC.out.trans h5, co_ok (HC.out.trans h5)⟩
  have HCk := Lib.hid (check_all h5)
  have HBd := Lib.hid (sum_bd HCo.out.1 HCk.out.2.2.2)
  have hwl := HCk.out.2.2.1
  have hr0 := HCo.out.2.1
  have hr1 := HCo.out.2.2
  rw [h5]
  clear h5
  go_wp2_with fail
  go_loopw [8, 38] (fun v u wr => ∃ j : Nat, j ≤ ws.length ∧ u = .int .i64 (j : Int) ∧ v = .int .i64 (rs + sumTo step ws j) ∧ wr = w2) (fun _ u _ => ws.length - (intOf u).toNat)
  case atStart => exact ⟨0, Nat.zero_le _, rfl, by simp [sumTo], by simp⟩
  case round =>
    obtain ⟨j, hj, rfl, rfl, hw⟩ := hrel
    subst wr
    have hbl := hbx
    by_cases hjl : j < ws.length
    · obtain ⟨ad, a, rfl, ha, hca⟩ := (HW.out.keep hbl).at_ hjl
      have hr := HCk.out.2.2.2 j hjl
      rw [ha] at hr
      obtain ⟨n, rfl⟩ : ∃ n : Nat, a = (n : Int) := ⟨a.toNat, by omega⟩
      have hn : n < step.length := by omega
      obtain ⟨ad2, q, rfl, hq, hcq⟩ := (HS.out.keep hbl).at_ hn
      have hb1 := HBd.out j hj
      have hb2 := HCo.out.1 n hn
      rw [hq] at hb2
      have HN : Hid (sumTo step ws (j + 1) = sumTo step ws j + q) := Lib.hid (by rw [sumTo, ha, Int.toNat_natCast, hq])
      clear ha hq
      generalize sumTo step ws j = S at hb1 HN ⊢
      go_wp2_with fail
      go_roundw
      case rel => exact ⟨j + 1, by omega, by go_num, by rw [HN.out, Int.add_assoc], by simp⟩
      case measure => simp [intOf]; omega
    · obtain rfl : j = ws.length := by omega
      go_wp2_with fail
      go_ret2
      exact ⟨by rw [HE.out.1, HE.out.2]; rfl, hbl⟩
set_option maxRecDepth 100000 in
set_option maxHeartbeats 4000000 in
theorem Cost_r (step ws : List Int) (rs : Int) (C F : Option Addr) (e f : Nat) (w : World) (hs : Rd w C step) (hw : Rd w F ws) :
    Calls Try.prog 22 #[.agg #[.slice C step.length e, .int .i64 rs], .slice F ws.length f] w fun r w' => r = .returned (.tuple #[.int .i64 (coN step rs ws), .int .i64 (coE step rs ws)]) ∧ Below w.heap.size w w' := by
  have ms := hs.1
  have mw := hw.1
  have HS := Lib.hid hs
  have HW := Lib.hid hw
  clear hs hw
  have hbx : Below w.heap.size w (w.alloc (.cells #[.slice C step.length e, .int .i64 rs] 27)) := (Below.refl _ _).alloc (Nat.le_refl _) _
  by_cases h1 : step.length < 1
  · have HE := Lib.hid (co_bad (ws := ws) (rs := rs) (co_1 (.inl h1)) (by decide))
    go_enter Try.func22, Try.ntmps22
    go_wp2_with fail
    go_ret2
    exact ⟨by rw [HE.out.1, HE.out.2]; rfl, hbx⟩
  by_cases h2 : 64 < step.length
  · have HE := Lib.hid (co_bad (ws := ws) (rs := rs) (co_1 (.inr h2)) (by decide))
    go_enter Try.func22, Try.ntmps22
    go_wp2_with fail
    go_ret2
    exact ⟨by rw [HE.out.1, HE.out.2]; rfl, hbx⟩
  have h3 : ¬ (step.length < 1 ∨ 64 < step.length) := by omega
  go_enter Try.func22, Try.ntmps22
  go_wp2_with fail
  obtain ⟨w0, hw0⟩ : ∃ w0, w0 = w.alloc (.cells #[.slice C step.length e, .int .i64 rs] 27) := ⟨_, rfl⟩
  have k0 : w0.cell? ⟨w.heap.size, 0, none⟩ = some (.slice C step.length e) := by rw [hw0]; simp
  have k1 : w0.cell? ⟨w.heap.size, 1, none⟩ = some (.int .i64 rs) := by rw [hw0]; simp
  have hlt : w.heap.size < w0.heap.size := by rw [hw0]; exact size_new _ _
  rw [← hw0] at hbx ⊢
  clear hw0
  refine (costs_r C e step rs w0 (HS.out.keep hbx)).mono ?_
  rintro r w1 ⟨rfl, hb⟩
  replace k0 := keep_cell hb k0
  replace k1 := keep_cell hb k1
  replace hlt := Nat.lt_of_lt_of_le hlt hb.size
  replace hbx := below_seq hbx hb
  clear hb
  by_cases h4 : costE step rs = 0
  rotate_left
  · have HE := Lib.hid (co_bad ((co_2 (ws := ws) h3 h4).trans (costE_2 h4)) (by decide))
    have hg := good_f h4
    rw [hg]
    clear h4 h3 hg
    go_wp2_with fail
    go_ret2
    exact ⟨by rw [HE.out.1, HE.out.2]; rfl, hbx⟩
  have HC := Lib.hid (co_3 (ws := ws) h3 h4)
  have HCo := Lib.hid (cost_zero h4)
  rw [good_t h4]
  clear h4 h3
  go_wp2_with fail
  refine (check_r (step.length : Int) F f ws w1 (HW.out.keep hbx)).mono ?_
  rintro r w2 ⟨rfl, rfl⟩
  by_cases h5 : checkE (step.length : Int) ws = 0
  rotate_left
  · have hb2 := ne0 h5
    have HE := Lib.hid (co_bad HC.out h5)
    clear h5
    go_wp2_with fail
    go_ret2
    exact ⟨by rw [HE.out.1, HE.out.2]; rfl, hbx⟩
  have HE : Hid (coE step rs ws = 0 ∧ coN step rs ws = rs + sumTo step ws ws.length) := Lib.hid ⟨HC.out.trans h5, co_ok (HC.out.trans h5)⟩
  have HCk := Lib.hid (check_all h5)
  have HBd := Lib.hid (sum_bd HCo.out.1 HCk.out.2.2.2)
  have hwl := HCk.out.2.2.1
  have hr0 := HCo.out.2.1
  have hr1 := HCo.out.2.2
  rw [h5]
  clear h5
  go_wp2_with fail
  go_loopw [7, 8] (fun v u wr => ∃ j : Nat, j ≤ ws.length ∧ u = .int .i64 (j : Int) ∧ v = .int .i64 (rs + sumTo step ws j) ∧ ∃ m, wr = w1.drewN m) (fun _ u _ => ws.length - (intOf u).toNat)
  case atStart => exact ⟨0, Nat.zero_le _, rfl, by simp [sumTo], 0, rfl⟩
  case round =>
    obtain ⟨j, hj, rfl, rfl, m, rfl⟩ := hrel
    have hbl := below_drewN' hbx m
    have kk0 : (w1.drewN m).cell? ⟨w.heap.size, 0, none⟩ = some (.slice C step.length e) := k0
    by_cases hjl : j < ws.length
    · obtain ⟨ad, a, rfl, ha, hca⟩ := (HW.out.keep hbl).at_ hjl
      have hr := HCk.out.2.2.2 j hjl
      rw [ha] at hr
      obtain ⟨n, rfl⟩ : ∃ n : Nat, a = (n : Int) := ⟨a.toNat, by omega⟩
      have hn : n < step.length := by omega
      obtain ⟨ad2, q, rfl, hq, hcq⟩ := (HS.out.keep hbl).at_ hn
      have hb1 := HBd.out j hj
      have hb2 := HCo.out.1 n hn
      rw [hq] at hb2
      have HN : Hid (sumTo step ws (j + 1) = sumTo step ws j + q) := Lib.hid (by rw [sumTo, ha, Int.toNat_natCast, hq])
      clear ha hq
      generalize sumTo step ws j = S at hb1 HN ⊢
      go_wp2_with fail
      change w1.cell? _ = _ at hca
      change w1.cell? _ = _ at hcq
      go_quiet (fail)
      go_wp2_with fail
      go_roundw
      case rel => exact ⟨j + 1, by omega, by go_num, by rw [HN.out, Int.add_assoc], _, rfl⟩
      case measure => simp [intOf]; omega
    · obtain rfl : j = ws.length := by omega
      go_wp2_with fail
      go_ret2
      exact ⟨by rw [HE.out.1, HE.out.2]; rfl, hbl⟩
end Go.Proofs.Ytpoppadihbgbgaa
