/- The reference's small functions: the number of codes; two lists of lists of bools compared. -/
import Derived.Test.YtpcoddbkcelaoaaPlc
import Derived.Test.YtpcoddbkcelaoaaTake
namespace Go.Proofs.Ytpcoddbkcelaoaa
open Go.RowKit

theorem scale_r (T : Nat) (w : World) (h : T ≤ 4) : Calls Try.prog 23 #[.int .i64 (T : Nat)] w fun e w' => e = .returned (.int .i64 (1 + (T : Int) * 1001)) ∧ w' = w := by
  go_enter Try.func23, Try.ntmps23
  go_wp2
  go_ret
  exact ⟨by simp, rfl⟩
/-- lists of bools, in a slice -/
def RdBB (w : World) (A : Option Addr) (xss : List (List Bool)) : Prop :=
  xss.length ≤ 9223372036854775807 ∧ (0 < xss.length → ∃ ad, A = some ad ∧ ∀ i, i < xss.length → ∃ R r, w.cell? (ad.add i) = some (.slice R (xss.getD i []).length r) ∧ RdB w R (xss.getD i []))
theorem RdBB.at_ {w : World} {A : Option Addr} {xss : List (List Bool)} (h : RdBB w A xss) {i : Nat} (hi : i < xss.length) : ∃ ad R r xs, A = some ad ∧ xss.getD i [] = xs ∧ w.cell? (ad.add i) = some (.slice R xs.length r) ∧ RdB w R xs := by
  obtain ⟨ad, e, hc⟩ := h.2 (by omega)
  obtain ⟨R, r, h1, h2⟩ := hc i hi
  exact ⟨ad, R, r, _, e, rfl, h1, h2⟩
theorem RdBB.keep {w w' : World} {A : Option Addr} {xss : List (List Bool)} (h : RdBB w A xss) (hb : Below w.heap.size w w') : RdBB w' A xss := by
  refine ⟨h.1, fun hp => ?_⟩
  obtain ⟨ad, e, hc⟩ := h.2 hp
  refine ⟨ad, e, fun i hi => ?_⟩
  obtain ⟨R, r, h1, h2⟩ := hc i hi
  exact ⟨R, r, keep_cell hb h1, h2.keep hb⟩
theorem eqL_step {α : Type} (d : α) (xs ys : List α) (hl : xs.length = ys.length) (h : ∀ t, t < xs.length → xs.getD t d = ys.getD t d) : xs = ys := by
  apply List.ext_getElem hl
  intro i h1 h2
  have := h i h1
  rw [List.getD_eq_getElem?_getD, List.getD_eq_getElem?_getD, List.getElem?_eq_getElem h1, List.getElem?_eq_getElem h2] at this
  simpa using this
set_option maxHeartbeats 1600000 in
theorem samebools_r (A B : Option Addr) (c d : Nat) (xss yss : List (List Bool)) (w : World) (h : RdBB w A xss) (g : RdBB w B yss) :
    Calls Try.prog 15 #[.slice A xss.length c, .slice B yss.length d] w fun e w' => e = .returned (.bool (decide (xss = yss))) ∧ ∃ n, w' = w.drewN n := by
  have hm := h.1
  have hm2 := g.1
  have H := Lib.hid h
  have G := Lib.hid g
  clear h g
  by_cases hl : (xss.length : Int) = (yss.length : Int)
  rotate_left
  · have HF := Lib.hid (show decide (xss = yss) = false by rw [decide_eq_false_iff_not]; rintro rfl; exact hl rfl)
    have hb : (!((xss.length : Int) == (yss.length : Int))) = true := by simpa using hl
    go_enter Try.func15, Try.ntmps15
    go_wp2
    go_ret
    exact ⟨by rw [HF.out]; rfl, 0, rfl⟩
  have HL := Lib.hid (show xss.length = yss.length by omega)
  rw [← HL.out]
  clear hl
  go_enter Try.func15, Try.ntmps15
  go_wp2
  go_loopw [5] (fun i wr => ∃ j n : Nat, j ≤ xss.length ∧ i = .int .i64 j ∧ wr = w.drewN n ∧ Hid (∀ t, t < j → xss.getD t [] = yss.getD t [])) (fun i _ => xss.length - (intOf i).toNat)
  case atStart => exact ⟨0, 0, Nat.zero_le _, rfl, rfl, Lib.hid (fun t ht => by omega)⟩
  case round =>
    obtain ⟨j, n, hj, rfl, rfl, HZ⟩ := hrel
    by_cases hjl : j < xss.length
    · obtain ⟨ad, R, r, xs, rfl, hx, cx, rx⟩ := H.out.at_ hjl
      obtain ⟨bd, R', r', ys, rfl, hy, cy, ry⟩ := G.out.at_ (i := j) (by rw [← HL.out]; exact hjl)
      have HX := Lib.hid hx
      have HY := Lib.hid hy
      have HRX := Lib.hid rx
      have HRY := Lib.hid ry
      have mx := rx.1
      have my := ry.1
      clear hx hy rx ry
      by_cases hxy : (xs.length : Int) = (ys.length : Int)
      · have HXY := Lib.hid (show ys.length = xs.length by omega)
        rw [HXY.out] at cy
        clear hxy
        cases hb : decide (xs = ys) with
        | true =>
          have HE := Lib.hid (fun m => equal_q (c := r) (d := r') HRX.out HRY.out rfl HXY.out hb n m)
          have HQ := Lib.hid (of_decide_eq_true hb)
          clear hb
          go_wp2_with fail
          go_quiet ((go_at_call 29; exact HE.out _))
          go_wp2
          go_roundw
          case rel =>
            refine ⟨j + 1, _, by omega, by go_num, rfl, Lib.hid (fun t ht => ?_)⟩
            by_cases e : t = j
            · rw [e, HX.out, HY.out, HQ.out]
            · exact HZ.out t (by omega)
          case measure => simp [intOf] <;> omega
        | false =>
          have HE := Lib.hid (fun m => equal_q (c := r) (d := r') HRX.out HRY.out rfl HXY.out hb n m)
          have HFIN := Lib.hid (show decide (xss = yss) = false by rw [decide_eq_false_iff_not]; intro e; apply of_decide_eq_false hb; rw [← HX.out, ← HY.out, e])
          clear hb
          go_wp2_with fail
          go_quiet ((go_at_call 29; exact HE.out _))
          go_wp2
          go_ret
          exact ⟨by rw [HFIN.out]; rfl, dd _ _ _⟩
      · have hs4 : (!((xs.length : Int) == (ys.length : Int))) = true := by simpa using hxy
        have hs5 : (!(xs.length == ys.length)) = true := by simp; omega
        have hs6 : (xs.length == ys.length) = false := by simp; omega
        have hs8 : decide (xs.length = ys.length) = false := decide_eq_false (by omega)
        have hs9 : ((xs.length : Int) != (ys.length : Int)) = true := by simpa using hxy
        have hs10 : (xs.length != ys.length) = true := by simp; omega
        have hs11 : decide ((xs.length : Int) = (ys.length : Int)) = false := decide_eq_false hxy
        have hs7 : ((xs.length : Int) == (ys.length : Int)) = false := beq_eq_false_iff_ne.2 hxy
        have HFIN := Lib.hid (show decide (xss = yss) = false by rw [decide_eq_false_iff_not]; intro e; apply hxy; rw [← HX.out, ← HY.out, e])
        clear hxy
        go_wp2_with fail
        go_quiet (fail)
        go_wp2
        go_ret
        exact ⟨by rw [HFIN.out]; rfl, dd _ _ _⟩
    · obtain rfl : j = xss.length := by omega
      have HFIN := Lib.hid (show decide (xss = yss) = true by rw [decide_eq_true_iff]; exact eqL_step [] xss yss HL.out HZ.out)
      go_wp2
      go_ret
      exact ⟨by rw [HFIN.out]; rfl, _, rfl⟩
set_option maxHeartbeats 1600000 in
theorem sameevents_r (A B : Option Addr) (c d : Nat) (xss yss : List Tm.Ev) (w : World) (h : RdL evC 3 w A xss) (g : RdL evC 3 w B yss) :
    Calls Try.prog 18 #[.slice A xss.length c, .slice B yss.length d] w fun e w' => e = .returned (.bool (decide (xss = yss))) ∧ ∃ n, w' = w.drewN n := by
  have hm := h.1
  have hm2 := g.1
  have H := Lib.hid h
  have G := Lib.hid g
  clear h g
  by_cases hl : (xss.length : Int) = (yss.length : Int)
  rotate_left
  · have HF := Lib.hid (show decide (xss = yss) = false by rw [decide_eq_false_iff_not]; rintro rfl; exact hl rfl)
    have hb : (!((xss.length : Int) == (yss.length : Int))) = true := by simpa using hl
    go_enter Try.func18, Try.ntmps18
    go_wp2
    go_ret
    exact ⟨by rw [HF.out]; rfl, 0, rfl⟩
  have HL := Lib.hid (show xss.length = yss.length by omega)
  rw [← HL.out]
  clear hl
  go_enter Try.func18, Try.ntmps18
  go_wp2
  go_loopw [5] (fun i wr => ∃ j n : Nat, j ≤ xss.length ∧ i = .int .i64 j ∧ wr = w.drewN n ∧ Hid (∀ t, t < j → xss[t]? = yss[t]?)) (fun i _ => xss.length - (intOf i).toNat)
  case atStart => exact ⟨0, 0, Nat.zero_le _, rfl, rfl, Lib.hid (fun t ht => by omega)⟩
  case round =>
    obtain ⟨j, n, hj, rfl, rfl, HZ⟩ := hrel
    by_cases hjl : j < xss.length
    · obtain ⟨⟨x1, x2, x3⟩, hx⟩ : ∃ p, xss[j]? = some p := ⟨_, List.getElem?_eq_getElem hjl⟩
      obtain ⟨⟨y1, y2, y3⟩, hy⟩ : ∃ p, yss[j]? = some p := ⟨_, List.getElem?_eq_getElem (by rw [← HL.out]; exact hjl)⟩
      obtain ⟨ad, rfl, cx⟩ := H.out.at_ hx
      obtain ⟨bd, rfl, cy⟩ := G.out.at_ hy
      have HX := Lib.hid hx
      have HY := Lib.hid hy
      have cx' := RdL.whole (el := evC) (size := 3) cx
      have cy' := RdL.whole (el := evC) (size := 3) cy
      clear hx hy cx cy
      have HSX : ∀ wx, (∃ n, wx = w.drewN n) → ∀ jj u, [Value.int .i64 x1, .int .i64 x2, .int .i64 x3][jj]? = some u → wx.cell? ((ad.add (j * 3)).add jj) = some u := by rintro _ ⟨n, rfl⟩ jj u hu; exact cx' jj u hu
      have HSY : ∀ wx, (∃ n, wx = w.drewN n) → ∀ jj u, [Value.int .i64 y1, .int .i64 y2, .int .i64 y3][jj]? = some u → wx.cell? ((bd.add (j * 3)).add jj) = some u := by rintro _ ⟨n, rfl⟩ jj u hu; exact cy' jj u hu
      clear cx' cy'
      have hjy : (j : Int) < (yss.length : Int) := by rw [← HL.out]; omega
      go_wp2_with fail
      go_cut [25] (fun b wx => b = .bool (!decide ((x1, x2, x3) = (y1, y2, y3))) ∧ ∃ n, wx = w.drewN n)
      case first =>
        refine wp_region_held_drew (S := fun wx => ∃ n, wx = w.drewN n) (by kernel_rfl) (⟨n + 1, rfl⟩) (fun hS => ?_)
        refine takeH (i := 0) (d := some 17) (v := ?_) rfl rfl (by kernel_rfl) (by kernel_rfl) (by kernel_rfl) (fun _ _ _ h => h) (Or.inl ⟨by rfl, ?_⟩) hS ?_
        rotate_left
        · intro wx hSx; clear hSx; first | (go_simp; done) | (go_simp; with_reducible rfl)
        simp only [Act.put, List.setIfInBounds_toArray, List.set_cons_zero, List.set_cons_succ]
        refine takeH (i := 1) (d := some 18) (v := ?_) rfl rfl (by kernel_rfl) (by kernel_rfl) (by kernel_rfl) (fun _ _ _ h => h) (Or.inl ⟨by rfl, ?_⟩) hS ?_
        rotate_left
        · intro wx hSx; clear hSx; first | (go_simp; done) | (go_simp; with_reducible rfl)
        simp only [Act.put, List.setIfInBounds_toArray, List.set_cons_zero, List.set_cons_succ]
        refine takeH (i := 2) (d := some 19) (v := ?_) rfl rfl (by kernel_rfl) (by kernel_rfl) (by kernel_rfl) (fun _ _ _ h => h) (Or.inl ⟨by rfl, ?_⟩) hS ?_
        rotate_left
        · intro wx hSx; clear hSx; first | (go_simp; done) | (go_simp; with_reducible rfl)
        simp only [Act.put, List.setIfInBounds_toArray, List.set_cons_zero, List.set_cons_succ]
        refine takeH (i := 3) (d := some 20) (v := .agg #[.int .i64 x1, .int .i64 x2, .int .i64 x3]) rfl rfl (by kernel_rfl) (by kernel_rfl) (by kernel_rfl) (fun _ _ _ h => h) (yieldsIf_load_any (by rfl) 53 _ rfl (ad.add (j * 3)) rfl [.int .i64 x1, .int .i64 x2, .int .i64 x3] _ (fun wx hSx => HSX wx hSx) Try.underlying53 rfl (by kernel_rfl)) hS ?_
        simp only [Act.put, List.setIfInBounds_toArray, List.set_cons_zero, List.set_cons_succ]
        refine takeH (i := 4) (d := some 21) (v := ?_) rfl rfl (by kernel_rfl) (by kernel_rfl) (by kernel_rfl) (fun _ _ _ h => h) (Or.inl ⟨by rfl, ?_⟩) hS ?_
        rotate_left
        · intro wx hSx; clear hSx; first | (go_simp; done) | (go_simp; with_reducible rfl)
        simp only [Act.put, List.setIfInBounds_toArray, List.set_cons_zero, List.set_cons_succ]
        refine takeH (i := 5) (d := some 22) (v := ?_) rfl rfl (by kernel_rfl) (by kernel_rfl) (by kernel_rfl) (fun _ _ _ h => h) (Or.inl ⟨by rfl, ?_⟩) hS ?_
        rotate_left
        · intro wx hSx; clear hSx; first | (go_simp; done) | (go_simp; with_reducible rfl)
        simp only [Act.put, List.setIfInBounds_toArray, List.set_cons_zero, List.set_cons_succ]
        refine takeH (i := 6) (d := some 23) (v := ?_) rfl rfl (by kernel_rfl) (by kernel_rfl) (by kernel_rfl) (fun _ _ _ h => h) (Or.inl ⟨by rfl, ?_⟩) hS ?_
        rotate_left
        · intro wx hSx; clear hSx; first | (go_simp; done) | (go_simp; with_reducible rfl)
        simp only [Act.put, List.setIfInBounds_toArray, List.set_cons_zero, List.set_cons_succ]
        refine takeH (i := 7) (d := some 24) (v := .agg #[.int .i64 y1, .int .i64 y2, .int .i64 y3]) rfl rfl (by kernel_rfl) (by kernel_rfl) (by kernel_rfl) (fun _ _ _ h => h) (yieldsIf_load_any (by rfl) 53 _ rfl (bd.add (j * 3)) rfl [.int .i64 y1, .int .i64 y2, .int .i64 y3] _ (fun wx hSx => HSY wx hSx) Try.underlying53 rfl (by kernel_rfl)) hS ?_
        simp only [Act.put, List.setIfInBounds_toArray, List.set_cons_zero, List.set_cons_succ]
        refine takeH (i := 8) (d := some 25) (v := .bool (!decide ((x1, x2, x3) = (y1, y2, y3)))) rfl rfl (by kernel_rfl) (by kernel_rfl) (by kernel_rfl) (fun _ _ _ h => h) (Or.inl ⟨by rfl, ?_⟩) hS ?_
        · intro wx hSx; clear hSx; go_simp; by_cases e1 : x1 = y1 <;> by_cases e2 : x2 = y2 <;> by_cases e3 : x3 = y3 <;> simp [e1, e2, e3]
        simp only [Act.put, List.setIfInBounds_toArray, List.set_cons_zero, List.set_cons_succ]
        refine wpAnyH_done (by kernel_rfl) ?_ _
        go_wp2_with fail
        go_meet
        exact ⟨rfl, n + 1, rfl⟩
      case rest =>
        obtain ⟨rfl, n', rfl⟩ := hcut
        apply_assumption
        cases hb : decide ((x1, x2, x3) = (y1, y2, y3)) with
        | true =>
          have HQ := Lib.hid (of_decide_eq_true hb)
          clear hb
          go_wp2_with fail
          go_roundw
          case rel =>
            refine ⟨j + 1, _, by omega, by go_num, rfl, Lib.hid (fun t ht => ?_)⟩
            by_cases e : t = j
            · rw [e, HX.out, HY.out, HQ.out]
            · exact HZ.out t (by omega)
          case measure => simp [intOf] <;> omega
        | false =>
          have HFIN := Lib.hid (show decide (xss = yss) = false by
            rw [decide_eq_false_iff_not]
            intro e
            apply of_decide_eq_false hb
            have h1 := HX.out
            rw [e, HY.out] at h1
            exact (Option.some.inj h1).symm)
          clear hb
          go_wp2_with fail
          go_ret
          exact ⟨by rw [HFIN.out]; rfl, _, rfl⟩
    · obtain rfl : j = xss.length := by omega
      have HFIN := Lib.hid (show decide (xss = yss) = true by
        rw [decide_eq_true_iff]
        apply List.ext_getElem?
        intro t
        rcases Nat.lt_or_ge t xss.length with ht | ht
        · exact HZ.out t ht
        · rw [List.getElem?_eq_none ht, List.getElem?_eq_none (by have := HL.out; omega)])
      go_wp2
      go_ret
      exact ⟨by rw [HFIN.out]; rfl, _, rfl⟩
end Go.Proofs.Ytpcoddbkcelaoaa
