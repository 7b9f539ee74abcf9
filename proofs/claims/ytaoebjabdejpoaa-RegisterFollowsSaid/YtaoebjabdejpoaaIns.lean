/- The reference's comparisons of lists of ints. -/
import Derived.Test.YtaoebjabdejpoaaQue
namespace Go.Proofs.Ytaoebjabdejpoaa
open Go.RowKit

theorem eqL_step {α : Type} (d : α) (xs ys : List α) (hl : xs.length = ys.length) (h : ∀ t, t < xs.length → xs.getD t d = ys.getD t d) : xs = ys := by
  apply List.ext_getElem hl
  intro i h1 h2
  have := h i h1
  rw [List.getD_eq_getElem?_getD, List.getD_eq_getElem?_getD, List.getElem?_eq_getElem h1, List.getElem?_eq_getElem h2] at this
  simpa using this
theorem dn (w : World) (n m k : Nat) : ∃ j, (w.drewN (n + m)).drewN k = w.drewN (n + j) := ⟨m + k, by simp [Nat.add_assoc]⟩
set_option maxHeartbeats 800000 in
theorem ints_r (A B : Option Addr) (c d : Nat) (xs ys : List Int) (w : World) (h : RdK .i64 w A xs) (g : RdK .i64 w B ys) :
    Calls Try.prog 15 #[.slice A xs.length c, .slice B ys.length d] w fun e w' => e = .returned (.bool (decide (xs = ys))) ∧ ∃ n, w' = w.drewN n := by
  have hm := h.1
  have hm2 := g.1
  have H := Lib.hid h
  have G := Lib.hid g
  clear h g
  by_cases hl : (xs.length : Int) = (ys.length : Int)
  rotate_left
  · have HF := Lib.hid (show decide (xs = ys) = false by rw [decide_eq_false_iff_not]; rintro rfl; exact hl rfl)
    have hb : (!((xs.length : Int) == (ys.length : Int))) = true := by simpa using hl
    go_enter Try.func15, Try.ntmps15
    go_wp2
    go_ret
    exact ⟨by rw [HF.out]; rfl, 0, rfl⟩
  have HL := Lib.hid (show xs.length = ys.length by omega)
  rw [← HL.out]
  clear hl
  go_enter Try.func15, Try.ntmps15
  go_wp2
  go_loopw [5] (fun i wr => ∃ j n : Nat, j ≤ xs.length ∧ i = .int .i64 j ∧ wr = w.drewN n ∧ Hid (∀ t, t < j → xs.getD t 0 = ys.getD t 0)) (fun i _ => xs.length - (intOf i).toNat)
  case atStart => exact ⟨0, 0, Nat.zero_le _, rfl, rfl, Lib.hid (fun t ht => by omega)⟩
  case round =>
    obtain ⟨j, n, hj, rfl, rfl, HZ⟩ := hrel
    by_cases hjl : j < xs.length
    · obtain ⟨ad, x, rfl, hx, cx⟩ := H.out.at_ hjl
      obtain ⟨bd, y, rfl, hy, cy⟩ := G.out.at_ (i := j) (by rw [← HL.out]; exact hjl)
      have hjy : (j : Int) < (ys.length : Int) := by rw [← HL.out]; omega
      have HX := Lib.hid hx
      have HY := Lib.hid hy
      clear hx hy
      by_cases hxy : x = y
      · subst hxy
        go_wp2_with fail
        go_quiet (fail)
        go_wp2
        go_roundw
        case rel =>
          refine ⟨j + 1, _, by omega, by go_num, rfl, Lib.hid (fun t ht => ?_)⟩
          by_cases e : t = j
          · rw [e, HX.out, HY.out]
          · exact HZ.out t (by omega)
        case measure => simp [intOf] <;> omega
      · have hb : (!(x == y)) = true := by simpa using hxy
        have hb2 : (x != y) = true := by simpa using hxy
        have hb3 : (x == y) = false := beq_eq_false_iff_ne.2 hxy
        have HFIN := Lib.hid (show decide (xs = ys) = false by rw [decide_eq_false_iff_not]; intro e; apply hxy; rw [← HX.out, ← HY.out, e])
        go_wp2_with fail
        go_quiet (fail)
        go_wp2
        go_ret
        exact ⟨by rw [HFIN.out]; rfl, dd _ _ _⟩
    · obtain rfl : j = xs.length := by omega
      have HFIN := Lib.hid (show decide (xs = ys) = true by rw [decide_eq_true_iff]; exact eqL_step 0 xs ys HL.out HZ.out)
      go_wp2
      go_ret
      exact ⟨by rw [HFIN.out]; rfl, _, rfl⟩
theorem ints_q {A B : Option Addr} {c d : Nat} {xs ys : List Int} {w : World} {b : Bool} (h : RdK .i64 w A xs) (g : RdK .i64 w B ys) (hb : decide (xs = ys) = b) (n m : Nat) :
    Calls Try.prog 15 #[.slice A xs.length c, .slice B ys.length d] (w.drewN (n + m)) fun e w' => e = .returned (.bool b) ∧ ∃ j, w' = w.drewN (n + j) := by
  have := ints_r A B c d xs ys (w.drewN (n + m)) h g
  rw [hb] at this
  exact this.mono fun e w' ⟨h1, k, h2⟩ => ⟨h1, by rw [h2]; exact dn _ _ _ _⟩
set_option maxHeartbeats 1600000 in
theorem lists_r (A B : Option Addr) (c d : Nat) (xss yss : List (List Int)) (w : World) (h : RdM .i64 w A xss) (g : RdM .i64 w B yss) :
    Calls Try.prog 43 #[.slice A xss.length c, .slice B yss.length d] w fun e w' => e = .returned (.bool (decide (xss = yss))) ∧ ∃ n, w' = w.drewN n := by
  have hm := h.1
  have hm2 := g.1
  have H := Lib.hid h
  have G := Lib.hid g
  clear h g
  by_cases hl : (xss.length : Int) = (yss.length : Int)
  rotate_left
  · have HF := Lib.hid (show decide (xss = yss) = false by rw [decide_eq_false_iff_not]; rintro rfl; exact hl rfl)
    have hb : (!((xss.length : Int) == (yss.length : Int))) = true := by simpa using hl
    go_enter Try.func43, Try.ntmps43
    go_wp2
    go_ret
    exact ⟨by rw [HF.out]; rfl, 0, rfl⟩
  have HL := Lib.hid (show xss.length = yss.length by omega)
  rw [← HL.out]
  clear hl
  go_enter Try.func43, Try.ntmps43
  go_wp2
  go_loopw [5] (fun i wr => ∃ j n : Nat, j ≤ xss.length ∧ i = .int .i64 j ∧ wr = w.drewN n ∧ Hid (∀ t, t < j → xss.getD t [] = yss.getD t [])) (fun i _ => xss.length - (intOf i).toNat)
  case atStart => exact ⟨0, 0, Nat.zero_le _, rfl, rfl, Lib.hid (fun t ht => by omega)⟩
  case round =>
    obtain ⟨j, n, hj, rfl, rfl, HZ⟩ := hrel
    by_cases hjl : j < xss.length
    · obtain ⟨ad, R, r, xs, rfl, hx, cx, rx⟩ := H.out.at_ hjl
      obtain ⟨bd, R', r', ys, rfl, hy, cy, ry⟩ := G.out.at_ (i := j) (by rw [← HL.out]; exact hjl)
      have HX := Lib.hid hx
      have HY := Lib.hid hy
      have HRX := Lib.hid rx
      have HRY := Lib.hid ry
      have mx := rx.1
      have my := ry.1
      clear hx hy rx ry
      cases hb : decide (xs = ys) with
      | true =>
        have HE := Lib.hid (fun m => ints_q (c := r) (d := r') HRX.out HRY.out hb n m)
        have HQ := Lib.hid (of_decide_eq_true hb)
        clear hb
        go_wp2_with fail
        go_quiet ((go_at_call 15; exact HE.out _))
        go_wp2
        go_roundw
        case rel =>
          refine ⟨j + 1, _, by omega, by go_num, rfl, Lib.hid (fun t ht => ?_)⟩
          by_cases e : t = j
          · rw [e, HX.out, HY.out, HQ.out]
          · exact HZ.out t (by omega)
        case measure => simp [intOf] <;> omega
      | false =>
        have HE := Lib.hid (fun m => ints_q (c := r) (d := r') HRX.out HRY.out hb n m)
        have HFIN := Lib.hid (show decide (xss = yss) = false by rw [decide_eq_false_iff_not]; intro e; apply of_decide_eq_false hb; rw [← HX.out, ← HY.out, e])
        clear hb
        go_wp2_with fail
        go_quiet ((go_at_call 15; exact HE.out _))
        go_wp2
        go_ret
        exact ⟨by rw [HFIN.out]; rfl, dd _ _ _⟩
    · obtain rfl : j = xss.length := by omega
      have HFIN := Lib.hid (show decide (xss = yss) = true by rw [decide_eq_true_iff]; exact eqL_step [] xss yss HL.out HZ.out)
      go_wp2
      go_ret
      exact ⟨by rw [HFIN.out]; rfl, _, rfl⟩
end Go.Proofs.Ytaoebjabdejpoaa
