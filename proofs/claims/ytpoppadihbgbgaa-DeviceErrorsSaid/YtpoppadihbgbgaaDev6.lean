/- Devices: Valid of the reference. -/
import Derived.Test.YtpoppadihbgbgaaDev5
namespace Go.Proofs.Ytpoppadihbgbgaa
open Go.RowKit
/-- the box of faults -/
structure BoxF (w : World) (k : Nat) (x : Dv) : Prop where
  c0 : w.cell? ⟨k, 0, none⟩ = some (Value.int IntKind.i64 x.lost)
  c1 : w.cell? ⟨k, 1, none⟩ = some (Value.int IntKind.i64 x.wrong)
  c2 : w.cell? ⟨k, 2, none⟩ = some (Value.int IntKind.i64 x.crash)
theorem BoxF.keep {w w' : World} {N k : Nat} {x : Dv} (h : BoxF w k x) (hk : k < N) (hb : Below N w w') : BoxF w' k x := by
  obtain ⟨h0, h1, h2⟩ := h
  have hc : ∀ j, w'.cell? ⟨k, j, none⟩ = w.cell? ⟨k, j, none⟩ := fun j => hb.cell hk
  exact ⟨(hc 0).trans h0, (hc 1).trans h1, (hc 2).trans h2⟩
theorem BoxF.new (w : World) (x : Dv) (t : TypeId) : BoxF (w.alloc (.cells #[Value.int IntKind.i64 x.lost, Value.int IntKind.i64 x.wrong, Value.int IntKind.i64 x.crash] t)) w.heap.size x := by
  refine ⟨?_, ?_, ?_⟩ <;> (rw [World.cell?_alloc_at (hn := rfl)]; rfl)
theorem BoxD.alloc {w : World} {k : Nat} {x : Dv} {A B C : Option Addr} {c d e : Nat} (h : BoxD w k x A c B d C e) (hk : k < w.heap.size) (o : Obj) : BoxD (w.alloc o) k x A c B d C e :=
  h.keep hk ((Below.refl _ _).alloc (Nat.le_refl _) _)
theorem size_alloc (w : World) (o : Obj) : (w.alloc o).heap.size = w.heap.size + 1 := by show (w.heap.push o).size = _; rw [Array.size_push]
theorem st_bad {st : Int} {n : Nat} (h : st < 0 ∨ (n : Int) ≤ st) : outB st ((n : Int) - 1) = true := outB_yes (by omega)
theorem st_ok {st : Int} {n : Nat} (h0 : ¬ st < 0) (h : ¬ (n : Int) ≤ st) : outB st ((n : Int) - 1) = false := outB_no (by omega) (by omega)
set_option maxHeartbeats 2000000 in
theorem validD_r (x : Dv) (A B C : Option Addr) (c d e : Nat) (w : World) (h : RdD w A B C x) :
    Calls Try.prog 24 #[(Value.agg #[Value.int IntKind.i64 (Dv.I x), Value.int IntKind.i64 (Dv.S x), Value.slice A (Dv.nx x).length c, Value.slice B (Dv.out x).length d, Value.int IntKind.i64 (Dv.st x), Value.bool (Dv.rdy x), Value.slice C (Dv.step x).length e, Value.int IntKind.i64 (Dv.rs x), Value.int IntKind.i64 (Dv.lost x), Value.int IntKind.i64 (Dv.wrong x), Value.int IntKind.i64 (Dv.crash x), Value.int IntKind.u64 (Dv.seed x), Value.int IntKind.i64 (Dv.steps x), Value.int IntKind.i64 (Dv.resets x), Value.int IntKind.i64 (Dv.time x)])] w fun r w' => r = .returned (.int .i64 (validD x)) ∧ Below w.heap.size w w' := by
  have hm := h.nx.1
  have hs := h.step.1
  have HM := Lib.hid h
  clear h
  have HV1 := Lib.hid (@valid_1 x)
  have HV2 := Lib.hid (@valid_2 x)
  have HV3 := Lib.hid (@valid_3 x)
  have HV4 := Lib.hid (@valid_4 x)
  have HV5 := Lib.hid (@valid_5 x)
  go_enter Try.func24, Try.ntmps24
  go_wp2_with fail
  obtain ⟨w0, hw0⟩ : ∃ w0, w0 = (w.alloc (.cells (#[Value.int IntKind.i64 (Dv.I x), Value.int IntKind.i64 (Dv.S x), Value.slice A (Dv.nx x).length c, Value.slice B (Dv.out x).length d, Value.int IntKind.i64 (Dv.st x), Value.bool (Dv.rdy x), Value.slice C (Dv.step x).length e, Value.int IntKind.i64 (Dv.rs x), Value.int IntKind.i64 (Dv.lost x), Value.int IntKind.i64 (Dv.wrong x), Value.int IntKind.i64 (Dv.crash x), Value.int IntKind.u64 (Dv.seed x), Value.int IntKind.i64 (Dv.steps x), Value.int IntKind.i64 (Dv.resets x), Value.int IntKind.i64 (Dv.time x)]) 32)).alloc (.cells #[Value.int IntKind.i64 x.lost, Value.int IntKind.i64 x.wrong, Value.int IntKind.i64 x.crash] 29) := ⟨_, rfl⟩
  have HX : Hid (BoxD w0 w.heap.size x A c B d C e) := Lib.hid (by rw [hw0]; exact (BoxD.new w x A c B d C e 32).alloc (size_new _ _) _)
  have HF : Hid (BoxF w0 (w.heap.size + 1) x) := Lib.hid (by rw [hw0]; have := BoxF.new (w.alloc (.cells (#[Value.int IntKind.i64 (Dv.I x), Value.int IntKind.i64 (Dv.S x), Value.slice A (Dv.nx x).length c, Value.slice B (Dv.out x).length d, Value.int IntKind.i64 (Dv.st x), Value.bool (Dv.rdy x), Value.slice C (Dv.step x).length e, Value.int IntKind.i64 (Dv.rs x), Value.int IntKind.i64 (Dv.lost x), Value.int IntKind.i64 (Dv.wrong x), Value.int IntKind.i64 (Dv.crash x), Value.int IntKind.u64 (Dv.seed x), Value.int IntKind.i64 (Dv.steps x), Value.int IntKind.i64 (Dv.resets x), Value.int IntKind.i64 (Dv.time x)]) 32)) x 29; rw [size_alloc] at this; exact this)
  have hbel : Below w.heap.size w w0 := by rw [hw0]; exact ((Below.refl _ _).alloc (Nat.le_refl _) _).alloc (by rw [size_alloc]; omega) _
  have hlt : w.heap.size + 1 < w0.heap.size := by rw [hw0, size_alloc, size_alloc]; omega
  rw [← hw0]
  clear hw0
  obtain ⟨c0, c1, c2, c3, c4, c5, c6, c7, c8, c9, c10, c11, c12, c13, c14⟩ := HX.out
  obtain ⟨f0, f1, f2⟩ := HF.out
  refine (rvalid x.I x.S A B c d x.nx x.out _ (HM.out.keep hbel).nx (HM.out.keep hbel).out).mono ?_
  rintro e1 w1 ⟨rfl, hb⟩
  clear c0 c1 c2 c3 c4 c5 c6 c7 c8 c9 c10 c11 c12 c13 c14 f0 f1 f2
  replace HX := Lib.hid (HX.out.keep (Nat.lt_of_succ_lt hlt) hb)
  replace HF := Lib.hid (HF.out.keep hlt hb)
  replace hbel := below_seq hbel hb
  replace hlt := Nat.lt_of_lt_of_le hlt hb.size
  clear hb
  obtain ⟨c0, c1, c2, c3, c4, c5, c6, c7, c8, c9, c10, c11, c12, c13, c14⟩ := HX.out
  obtain ⟨f0, f1, f2⟩ := HF.out
  obtain ⟨E, hE⟩ : ∃ E, E = Mea.validE x.I x.S x.nx x.out := ⟨_, rfl⟩
  rw [← hE] at HV1 HV2 HV3 HV4 HV5 ⊢
  by_cases h0 : E = 0
  rotate_left
  · have hb := ne0 h0
    have HD := Lib.hid (HV1.out h0)
    have HE := Lib.hid hE
    clear h0 hE
    go_wp2_with fail
    refine (rvalid x.I x.S A B c d x.nx x.out _ (HM.out.keep hbel).nx (HM.out.keep hbel).out).mono ?_
    rintro e1 w2 ⟨rfl, hb⟩
    rw [← HE.out]
    clear c0 c1 c2 c3 c4 c5 c6 c7 c8 c9 c10 c11 c12 c13 c14 f0 f1 f2
    replace HX := Lib.hid (HX.out.keep (Nat.lt_of_succ_lt hlt) hb)
    replace HF := Lib.hid (HF.out.keep hlt hb)
    replace hbel := below_seq hbel hb
    replace hlt := Nat.lt_of_lt_of_le hlt hb.size
    clear hb
    obtain ⟨c0, c1, c2, c3, c4, c5, c6, c7, c8, c9, c10, c11, c12, c13, c14⟩ := HX.out
    obtain ⟨f0, f1, f2⟩ := HF.out
    go_wp2_with fail
    go_ret
    exact ⟨by rw [HD.out]; rfl, hbel⟩
  clear hE
  subst h0
  replace HV2 := Lib.hid (HV2.out rfl)
  replace HV3 := Lib.hid (HV3.out rfl)
  replace HV4 := Lib.hid (HV4.out rfl)
  replace HV5 := Lib.hid (HV5.out rfl)
  by_cases g0 : x.st < 0
  · have HD := Lib.hid (HV2.out (st_bad (.inl g0)))
    go_wp2_with fail
    go_ret
    exact ⟨by rw [HD.out]; rfl, hbel⟩
  by_cases g1 : (x.nx.length : Int) ≤ x.st
  · have HD := Lib.hid (HV2.out (st_bad (.inr g1)))
    go_wp2_with fail
    go_ret
    exact ⟨by rw [HD.out]; rfl, hbel⟩
  replace HV3 := Lib.hid (HV3.out (st_ok g0 g1))
  replace HV4 := Lib.hid (HV4.out (st_ok g0 g1))
  replace HV5 := Lib.hid (HV5.out (st_ok g0 g1))
  clear HV1 HV2
  go_wp2_with fail
  refine (fits_r C e x.step x.rs x.I _ (HM.out.keep hbel).step).mono ?_
  rintro e1 w2 ⟨rfl, hb⟩
  clear c0 c1 c2 c3 c4 c5 c6 c7 c8 c9 c10 c11 c12 c13 c14 f0 f1 f2
  replace HX := Lib.hid (HX.out.keep (Nat.lt_of_succ_lt hlt) hb)
  replace HF := Lib.hid (HF.out.keep hlt hb)
  replace hbel := below_seq hbel hb
  replace hlt := Nat.lt_of_lt_of_le hlt hb.size
  clear hb
  obtain ⟨c0, c1, c2, c3, c4, c5, c6, c7, c8, c9, c10, c11, c12, c13, c14⟩ := HX.out
  obtain ⟨f0, f1, f2⟩ := HF.out
  clear g0 g1
  obtain ⟨E, hE⟩ : ∃ E, E = fitsE x.step x.rs x.I := ⟨_, rfl⟩
  rw [← hE] at HV3 HV4 HV5 ⊢
  by_cases h0 : E = 0
  rotate_left
  · have hb := ne0 h0
    have HD := Lib.hid (HV3.out h0)
    have HE := Lib.hid hE
    clear h0 hE
    go_wp2_with fail
    refine (fits_r C e x.step x.rs x.I _ (HM.out.keep hbel).step).mono ?_
    rintro e1 w2 ⟨rfl, hb⟩
    rw [← HE.out]
    clear c0 c1 c2 c3 c4 c5 c6 c7 c8 c9 c10 c11 c12 c13 c14 f0 f1 f2
    replace HX := Lib.hid (HX.out.keep (Nat.lt_of_succ_lt hlt) hb)
    replace HF := Lib.hid (HF.out.keep hlt hb)
    replace hbel := below_seq hbel hb
    replace hlt := Nat.lt_of_lt_of_le hlt hb.size
    clear hb
    obtain ⟨c0, c1, c2, c3, c4, c5, c6, c7, c8, c9, c10, c11, c12, c13, c14⟩ := HX.out
    obtain ⟨f0, f1, f2⟩ := HF.out
    go_wp2_with fail
    go_ret
    exact ⟨by rw [HD.out]; rfl, hbel⟩
  clear hE
  subst h0
  have HD4 : Hid (rateB x = false → validD x = 2) := Lib.hid (HV4.out rfl)
  have HD5 : Hid (rateB x = true → validD x = if cntB x = true then 0 else 2) := Lib.hid (HV5.out rfl)
  clear HV3 HV4 HV5
  go_wp2_with fail
  refine (rate_any _ _).mono ?_
  rintro e1 w3 ⟨rfl, rfl⟩
  cases q1 : outB x.lost 10000 with
  | true =>
    have HD : Hid (validD x = 2) := Lib.hid (HD4.out (by unfold rateB; rw [q1]; rfl))
    clear q1
    go_wp2_with fail
    go_ret
    exact ⟨by rw [HD.out]; rfl, hbel⟩
  | false =>
  have Q1 := Lib.hid q1
  clear q1
  go_wp2_with fail
  refine (rate_any _ _).mono ?_
  rintro e1 w3 ⟨rfl, rfl⟩
  cases q2 : outB x.wrong 10000 with
  | true =>
    have HD : Hid (validD x = 2) := Lib.hid (HD4.out (by unfold rateB; rw [Q1.out, q2]; rfl))
    clear q2
    go_wp2_with fail
    go_ret
    exact ⟨by rw [HD.out]; rfl, hbel⟩
  | false =>
  have Q2 := Lib.hid q2
  clear q2
  go_wp2_with fail
  refine (rate_any _ _).mono ?_
  rintro e1 w3 ⟨rfl, rfl⟩
  cases q3 : outB x.crash 10000 with
  | true =>
    have HD : Hid (validD x = 2) := Lib.hid (HD4.out (by unfold rateB; rw [Q1.out, Q2.out, q3]; rfl))
    clear q3
    go_wp2_with fail
    go_ret
    exact ⟨by rw [HD.out]; rfl, hbel⟩
  | false =>
  have Q3 := Lib.hid q3
  obtain ⟨r1, r2, r3, r4, r5, r6⟩ := rate_sum Q1.out Q2.out q3
  clear q3
  by_cases hsum : 10000 < x.lost + x.wrong + x.crash
  · have HD : Hid (validD x = 2) := Lib.hid (HD4.out (by unfold rateB; rw [Q1.out, Q2.out, Q3.out, decide_eq_true hsum]; rfl))
    go_wp2_with fail
    go_ret
    exact ⟨by rw [HD.out]; rfl, hbel⟩
  have HD6 : Hid (validD x = if cntB x = true then 0 else 2) := Lib.hid (HD5.out (by unfold rateB; rw [Q1.out, Q2.out, Q3.out, decide_eq_false hsum]; rfl))
  go_wp2_with fail
  clear r1 r2 r3 r4 r5 r6 hsum
  refine (counter_any _ _).mono ?_
  rintro e1 w3 ⟨rfl, rfl⟩
  cases p1 : outB x.steps 1125899906842624 with
  | true =>
    have HD : Hid (validD x = 2) := Lib.hid (by rw [HD6.out]; unfold cntB; rw [p1]; rfl)
    clear p1
    go_wp2_with fail
    go_ret
    exact ⟨by rw [HD.out]; rfl, hbel⟩
  | false =>
  have P1 := Lib.hid p1
  clear p1
  go_wp2_with fail
  refine (counter_any _ _).mono ?_
  rintro e1 w3 ⟨rfl, rfl⟩
  cases p2 : outB x.resets 1125899906842624 with
  | true =>
    have HD : Hid (validD x = 2) := Lib.hid (by rw [HD6.out]; unfold cntB; rw [P1.out, p2]; rfl)
    clear p2
    go_wp2_with fail
    go_ret
    exact ⟨by rw [HD.out]; rfl, hbel⟩
  | false =>
  have P2 := Lib.hid p2
  clear p2
  go_wp2_with fail
  refine (counter_any _ _).mono ?_
  rintro e1 w3 ⟨rfl, rfl⟩
  cases p3 : outB x.time 1125899906842624 with
  | true =>
    have HD : Hid (validD x = 2) := Lib.hid (by rw [HD6.out]; unfold cntB; rw [P1.out, P2.out, p3]; rfl)
    clear p3
    go_wp2_with fail
    go_ret
    exact ⟨by rw [HD.out]; rfl, hbel⟩
  | false =>
  have P3 := Lib.hid p3
  clear p3
  have HD : Hid (validD x = 0) := Lib.hid (by rw [HD6.out]; unfold cntB; rw [P1.out, P2.out, P3.out]; rfl)
  go_wp2_with fail
  go_ret
  exact ⟨by rw [HD.out]; rfl, hbel⟩
end Go.Proofs.Ytpoppadihbgbgaa
