/- Devices: Valid. -/
import Derived.Test.YtpoppadihbgbgaaDev4
namespace Go.Proofs.Ytpoppadihbgbgaa
open Go.RowKit

theorem rate_sum {x : Dv} (h1 : outB x.lost 10000 = false) (h2 : outB x.wrong 10000 = false) (h3 : outB x.crash 10000 = false) :
    0 ≤ x.lost ∧ x.lost ≤ 10000 ∧ 0 ≤ x.wrong ∧ x.wrong ≤ 10000 ∧ 0 ≤ x.crash ∧ x.crash ≤ 10000 := by
  unfold outB at h1 h2 h3
  simp at h1 h2 h3
  omega
theorem valid_1 {x : Dv} (h : Mea.validE x.I x.S x.nx x.out ≠ 0) : validD x = Mea.validE x.I x.S x.nx x.out := if_pos h
theorem valid_2 {x : Dv} (h : Mea.validE x.I x.S x.nx x.out = 0) (h2 : outB x.st ((x.nx.length : Int) - 1) = true) : validD x = 2 := by
  unfold validD; rw [if_neg (not_not_intro h), if_pos h2]
theorem valid_3 {x : Dv} (h : Mea.validE x.I x.S x.nx x.out = 0) (h2 : outB x.st ((x.nx.length : Int) - 1) = false) (h3 : fitsE x.step x.rs x.I ≠ 0) : validD x = fitsE x.step x.rs x.I := by
  unfold validD; rw [if_neg (not_not_intro h), if_neg (by rw [h2]; decide), if_pos h3]
theorem valid_4 {x : Dv} (h : Mea.validE x.I x.S x.nx x.out = 0) (h2 : outB x.st ((x.nx.length : Int) - 1) = false) (h3 : fitsE x.step x.rs x.I = 0) (h4 : rateB x = false) : validD x = 2 := by
  unfold validD; rw [if_neg (not_not_intro h), if_neg (by rw [h2]; decide), if_neg (not_not_intro h3), if_pos h4]
theorem valid_5 {x : Dv} (h : Mea.validE x.I x.S x.nx x.out = 0) (h2 : outB x.st ((x.nx.length : Int) - 1) = false) (h3 : fitsE x.step x.rs x.I = 0) (h4 : rateB x = true) : validD x = if cntB x = true then 0 else 2 := by
  unfold validD; rw [if_neg (not_not_intro h), if_neg (by rw [h2]; decide), if_neg (not_not_intro h3), if_neg (by rw [h4]; decide)]
  cases cntB x <;> rfl
theorem ne0 {E : Int} (h : ¬ E = 0) : (E != 0) = true := by simpa using h
theorem ne0' {E : Int} (h : ¬ E = 0) : (E == 0) = false := by simpa using h
set_option maxHeartbeats 2000000 in
theorem validD_p (x : Dv) (A B C : Option Addr) (c d e : Nat) (w : World) (h : RdD w A B C x) :
    Calls Try.prog 23 #[(Value.agg #[Value.int IntKind.i64 (Dv.I x), Value.int IntKind.i64 (Dv.S x), Value.slice A (Dv.nx x).length c, Value.slice B (Dv.out x).length d, Value.int IntKind.i64 (Dv.st x), Value.bool (Dv.rdy x), Value.slice C (Dv.step x).length e, Value.int IntKind.i64 (Dv.rs x), Value.int IntKind.i64 (Dv.lost x), Value.int IntKind.i64 (Dv.wrong x), Value.int IntKind.i64 (Dv.crash x), Value.int IntKind.u64 (Dv.seed x), Value.int IntKind.i64 (Dv.steps x), Value.int IntKind.i64 (Dv.resets x), Value.int IntKind.i64 (Dv.time x)])] w fun r w' => r = .returned (.int .i64 (validD x)) ∧ Below w.heap.size w w' := by
  have hbx : Below w.heap.size w (w.alloc (.cells (#[Value.int IntKind.i64 (Dv.I x), Value.int IntKind.i64 (Dv.S x), Value.slice A (Dv.nx x).length c, Value.slice B (Dv.out x).length d, Value.int IntKind.i64 (Dv.st x), Value.bool (Dv.rdy x), Value.slice C (Dv.step x).length e, Value.int IntKind.i64 (Dv.rs x), Value.int IntKind.i64 (Dv.lost x), Value.int IntKind.i64 (Dv.wrong x), Value.int IntKind.i64 (Dv.crash x), Value.int IntKind.u64 (Dv.seed x), Value.int IntKind.i64 (Dv.steps x), Value.int IntKind.i64 (Dv.resets x), Value.int IntKind.i64 (Dv.time x)]) 32)) := (Below.refl _ _).alloc (Nat.le_refl _) _
  have hm := h.nx.1
  have hs := h.step.1
  have HM := Lib.hid h
  clear h
  have HV1 := Lib.hid (@valid_1 x)
  have HV2 := Lib.hid (@valid_2 x)
  have HV3 := Lib.hid (@valid_3 x)
  have HV4 := Lib.hid (@valid_4 x)
  have HV5 := Lib.hid (@valid_5 x)
  go_enter Try.func23, Try.ntmps23
  go_wp2_with fail
  refine (mvalid x.I x.S A B c d x.nx x.out _ (HM.out.keep hbx).nx (HM.out.keep hbx).out).mono ?_
  rintro e1 w1 ⟨rfl, hb1⟩
  have hbel1 := below_seq hbx hb1
  obtain ⟨c0, c1, c2, c3, c4, c5, c6, c7, c8, c9, c10, c11, c12, c13, c14⟩ := (BoxD.new w x A c B d C e 32).keep (size_new _ _) hb1
  have hlt1 : w.heap.size < w1.heap.size := Nat.lt_of_lt_of_le (size_new _ _) hb1.size
  clear hb1
  obtain ⟨E, hE⟩ : ∃ E, E = Mea.validE x.I x.S x.nx x.out := ⟨_, rfl⟩
  rw [← hE] at HV1 HV2 HV3 HV4 HV5 ⊢
  clear hE
  by_cases h0 : E = 0
  rotate_left
  · have hb := ne0 h0
    have HD := Lib.hid (HV1.out h0)
    clear h0
    go_wp2_with fail
    go_ret
    exact ⟨by rw [HD.out]; rfl, hbel1⟩
  subst h0
  replace HV2 := Lib.hid (HV2.out rfl)
  replace HV3 := Lib.hid (HV3.out rfl)
  replace HV4 := Lib.hid (HV4.out rfl)
  replace HV5 := Lib.hid (HV5.out rfl)
  go_wp2_with fail
  refine (outside_any _ _ _).mono ?_
  rintro e1 w2 ⟨rfl, rfl⟩
  cases h2 : outB x.st ((x.nx.length : Int) - 1) with
  | true =>
    have HD := Lib.hid (HV2.out h2)
    clear h2
    go_wp2_with fail
    go_ret
    exact ⟨by rw [HD.out]; rfl, hbel1⟩
  | false =>
    replace HV3 := Lib.hid (HV3.out h2)
    replace HV4 := Lib.hid (HV4.out h2)
    replace HV5 := Lib.hid (HV5.out h2)
    clear h2 HV1 HV2
    by_cases hk : (x.step.length : Int) = x.I
    rotate_left
    · have hb : ((x.step.length : Int) != x.I) = true := by simpa using hk
      have HD : Hid (validD x = 1) := Lib.hid (by rw [HV3.out (by unfold fitsE; rw [if_pos hk]; decide)]; unfold fitsE; rw [if_pos hk])
      clear hk
      go_wp2_with fail
      go_ret
      exact ⟨by rw [HD.out]; rfl, hbel1⟩
    have hb : ((x.step.length : Int) != x.I) = false := by simp [hk]
    have hfit : fitsE x.step x.rs x.I = costE x.step x.rs := by unfold fitsE; rw [if_neg (not_not_intro hk)]
    rw [hfit] at HV3 HV4 HV5
    clear hk hfit
    go_wp2_with fail
    refine (costs_p C e x.step x.rs _ (HM.out.keep hbel1).step).mono ?_
    rintro e1 w2 ⟨rfl, hb2⟩
    have hbel2 := below_seq hbel1 hb2
    have bx := (show BoxD w1 w.heap.size x A c B d C e from ⟨c0, c1, c2, c3, c4, c5, c6, c7, c8, c9, c10, c11, c12, c13, c14⟩).keep hlt1 hb2
    clear c0 c1 c2 c3 c4 c5 c6 c7 c8 c9 c10 c11 c12 c13 c14
    obtain ⟨c0, c1, c2, c3, c4, c5, c6, c7, c8, c9, c10, c11, c12, c13, c14⟩ := bx
    have hlt2 : w.heap.size < w2.heap.size := Nat.lt_of_lt_of_le hlt1 hb2.size
    clear hb2 hbel1
    obtain ⟨E, hE⟩ : ∃ E, E = costE x.step x.rs := ⟨_, rfl⟩
    rw [← hE] at HV3 HV4 HV5 ⊢
    clear hE
    by_cases h0 : E = 0
    rotate_left
    · have hb := ne0 h0
      have HD := Lib.hid (HV3.out h0)
      clear h0
      go_wp2_with fail
      go_ret
      exact ⟨by rw [HD.out]; rfl, hbel2⟩
    subst h0
    replace HV4 := Lib.hid (HV4.out rfl)
    replace HV5 := Lib.hid (HV5.out rfl)
    clear HV3
    have hbel3 : Below w.heap.size w (w2.alloc (.cells #[.int .i64 x.lost, .int .i64 x.wrong, .int .i64 x.crash] 29)) := hbel2.alloc (by omega) _
    have HD4 : Hid (rateB x = false → validD x = 2) := HV4
    have HD5 : Hid (rateB x = true → validD x = if cntB x = true then 0 else 2) := HV5
    clear HV4 HV5
    go_wp2_with fail
    refine (outside_any _ _ _).mono ?_
    rintro e1 w3 ⟨rfl, rfl⟩
    cases q1 : outB x.lost 10000 with
    | true =>
      have HD : Hid (validD x = 2) := Lib.hid (HD4.out (by unfold rateB; rw [q1]; rfl))
      clear q1
      go_wp2_with fail
      go_ret
      exact ⟨by rw [HD.out]; rfl, hbel3⟩
    | false =>
      have Q1 := Lib.hid q1
      clear q1
      go_wp2_with fail
      refine (outside_any _ _ _).mono ?_
      rintro e1 w3 ⟨rfl, rfl⟩
      cases q2 : outB x.wrong 10000 with
      | true =>
        have HD : Hid (validD x = 2) := Lib.hid (HD4.out (by unfold rateB; rw [Q1.out, q2]; rfl))
        clear q2
        go_wp2_with fail
        go_ret
        exact ⟨by rw [HD.out]; rfl, hbel3⟩
      | false =>
        have Q2 := Lib.hid q2
        clear q2
        go_wp2_with fail
        refine (outside_any _ _ _).mono ?_
        rintro e1 w3 ⟨rfl, rfl⟩
        cases q3 : outB x.crash 10000 with
        | true =>
          have HD : Hid (validD x = 2) := Lib.hid (HD4.out (by unfold rateB; rw [Q1.out, Q2.out, q3]; rfl))
          clear q3
          go_wp2_with fail
          go_ret
          exact ⟨by rw [HD.out]; rfl, hbel3⟩
        | false =>
          have Q3 := Lib.hid q3
          obtain ⟨r1, r2, r3, r4, r5, r6⟩ := rate_sum Q1.out Q2.out q3
          clear q3
          by_cases hsum : 10000 < x.lost + x.wrong + x.crash
          · have HD : Hid (validD x = 2) := Lib.hid (HD4.out (by unfold rateB; rw [Q1.out, Q2.out, Q3.out, decide_eq_true hsum]; rfl))
            go_wp2_with fail
            go_ret
            exact ⟨by rw [HD.out]; rfl, hbel3⟩
          · have HR : Hid (rateB x = true) := Lib.hid (by unfold rateB; rw [Q1.out, Q2.out, Q3.out, decide_eq_false hsum]; rfl)
            go_wp2_with fail
            refine (counted_p x A B C c d e _).mono ?_
            rintro e1 w4 ⟨rfl, hb4⟩
            have hbel4 := below_seq hbel3 hb4
            cases q4 : cntB x with
            | true =>
              have HD : Hid (validD x = 0) := Lib.hid (by rw [HD5.out HR.out, q4]; rfl)
              clear q4
              go_wp2_with fail
              go_ret
              exact ⟨by rw [HD.out]; rfl, hbel4⟩
            | false =>
              have HD : Hid (validD x = 2) := Lib.hid (by rw [HD5.out HR.out, q4]; rfl)
              clear q4
              go_wp2_with fail
              go_ret
              exact ⟨by rw [HD.out]; rfl, hbel4⟩
end Go.Proofs.Ytpoppadihbgbgaa
