/- Devices: the plain law of resets and steps: valid devices, what a call leaves. -/
import Derived.Test.YtpoppadihbgbgaaDev9
namespace Go.Proofs.Ytpoppadihbgbgaa
open Go.RowKit

theorem outB_f {n m : Int} (h : outB n m = false) : 0 ≤ n ∧ n ≤ m := by unfold outB at h; simp at h; omega
/-- what a valid device is -/
structure OkD (x : Dv) : Prop where
  m : Mea.Ok x.I.toNat x.S.toNat x.nx x.out
  I0 : 1 ≤ x.I
  I1 : x.I ≤ 64
  S0 : 0 ≤ x.S
  S1 : x.S < x.nx.length
  st0 : 0 ≤ x.st
  st1 : x.st < x.nx.length
  len : (x.step.length : Int) = x.I
  cost : ∀ i, i < x.step.length → 0 ≤ x.step.getD i 0 ∧ x.step.getD i 0 ≤ 1048576
  rs0 : 0 ≤ x.rs
  rs1 : x.rs ≤ 1048576
  lost0 : 0 ≤ x.lost
  lost1 : x.lost ≤ 10000
  wrong0 : 0 ≤ x.wrong
  wrong1 : x.wrong ≤ 10000
  crash0 : 0 ≤ x.crash
  crash1 : x.crash ≤ 10000
  sum : x.lost + x.wrong + x.crash ≤ 10000
  steps0 : 0 ≤ x.steps
  steps1 : x.steps ≤ 1125899906842624
  resets0 : 0 ≤ x.resets
  resets1 : x.resets ≤ 1125899906842624
  time0 : 0 ≤ x.time
  time1 : x.time ≤ 1125899906842624
theorem getD_mem' {xs : List Int} {i : Nat} (h : i < xs.length) : xs.getD i 0 ∈ xs := by
  rw [List.getD_eq_getElem?_getD, List.getElem?_eq_getElem h]; exact List.getElem_mem h
theorem fits_zero {lat : List Int} {rs k : Int} (h : fitsE lat rs k = 0) : (lat.length : Int) = k ∧ (∀ i, i < lat.length → 0 ≤ lat.getD i 0 ∧ lat.getD i 0 ≤ 1048576) ∧ 0 ≤ rs ∧ rs ≤ 1048576 := by
  unfold fitsE costE badC at h
  by_cases h1 : (lat.length : Int) ≠ k
  · rw [if_pos h1] at h; omega
  rw [if_neg h1] at h
  by_cases h2 : (wrg rs || lat.any wrg) = true
  · rw [if_pos h2] at h; omega
  have h3 : (wrg rs || lat.any wrg) = false := by simpa using h2
  rw [Bool.or_eq_false_iff] at h3
  obtain ⟨h4, h5⟩ := h3
  have h6 := outB_f h4
  refine ⟨by omega, fun i hi => ?_, h6.1, h6.2⟩
  rw [List.any_eq_false] at h5
  have h7 := h5 _ (getD_mem' hi)
  have h8 : wrg (lat.getD i 0) = false := by simpa using h7
  exact outB_f h8
theorem fits_mk {lat : List Int} {rs k : Int} (h1 : (lat.length : Int) = k) (h2 : ∀ i, i < lat.length → 0 ≤ lat.getD i 0 ∧ lat.getD i 0 ≤ 1048576) (h3 : 0 ≤ rs) (h4 : rs ≤ 1048576) : fitsE lat rs k = 0 := by
  unfold fitsE costE badC
  rw [if_neg (by omega), if_neg]
  rw [wrg_ok h3 h4, Bool.false_or]
  simp only [List.any_eq_true, not_exists, not_and]
  intro n hn
  obtain ⟨i, hi, rfl⟩ := List.getElem_of_mem hn
  have h5 := h2 i hi
  have e : lat.getD i 0 = lat[i] := by rw [List.getD_eq_getElem?_getD, List.getElem?_eq_getElem hi]; rfl
  rw [e] at h5
  rw [wrg_ok h5.1 h5.2]; simp
theorem cnt_t {x : Dv} (h : cntB x = true) : (0 ≤ x.steps ∧ x.steps ≤ 1125899906842624) ∧ (0 ≤ x.resets ∧ x.resets ≤ 1125899906842624) ∧ 0 ≤ x.time ∧ x.time ≤ 1125899906842624 := by
  unfold cntB at h
  simp only [Bool.and_eq_true, Bool.not_eq_true'] at h
  exact ⟨outB_f h.1.1, outB_f h.1.2, outB_f h.2⟩
theorem cnt_mk {x : Dv} (h1 : 0 ≤ x.steps) (h2 : x.steps ≤ 1125899906842624) (h3 : 0 ≤ x.resets) (h4 : x.resets ≤ 1125899906842624) (h5 : 0 ≤ x.time) (h6 : x.time ≤ 1125899906842624) : cntB x = true := by
  unfold cntB
  rw [outB_no h1 h2, outB_no h3 h4, outB_no h5 h6]; rfl
theorem rate_t {x : Dv} (h : rateB x = true) : (0 ≤ x.lost ∧ x.lost ≤ 10000) ∧ (0 ≤ x.wrong ∧ x.wrong ≤ 10000) ∧ (0 ≤ x.crash ∧ x.crash ≤ 10000) ∧ x.lost + x.wrong + x.crash ≤ 10000 := by
  unfold rateB at h
  simp only [Bool.and_eq_true, Bool.not_eq_true', decide_eq_false_iff_not] at h
  exact ⟨outB_f h.1.1.1, outB_f h.1.1.2, outB_f h.1.2, by omega⟩
theorem rate_mk {x : Dv} (h1 : 0 ≤ x.lost) (h2 : x.lost ≤ 10000) (h3 : 0 ≤ x.wrong) (h4 : x.wrong ≤ 10000) (h5 : 0 ≤ x.crash) (h6 : x.crash ≤ 10000) (h7 : x.lost + x.wrong + x.crash ≤ 10000) : rateB x = true := by
  unfold rateB
  rw [outB_no h1 h2, outB_no h3 h4, outB_no h5 h6, decide_eq_false (by omega)]; rfl
theorem okD_of {x : Dv} (h : validD x = 0) : OkD x := by
  by_cases h1 : Mea.validE x.I x.S x.nx x.out = 0
  rotate_left
  · rw [valid_1 h1] at h; exact absurd h h1
  cases h2 : outB x.st ((x.nx.length : Int) - 1) with
  | true => rw [valid_2 h1 h2] at h; omega
  | false =>
  by_cases h3 : fitsE x.step x.rs x.I = 0
  rotate_left
  · rw [valid_3 h1 h2 h3] at h; exact absurd h h3
  cases h4 : rateB x with
  | false => rw [valid_4 h1 h2 h3 h4] at h; omega
  | true =>
  rw [valid_5 h1 h2 h3 h4] at h
  by_cases h5 : cntB x = true
  rotate_left
  · rw [if_neg h5] at h; omega
  obtain ⟨k, s, hk, hs, hm⟩ := Mea.ok_of h1
  have a1 := outB_f h2
  have a2 := fits_zero h3
  have a3 := rate_t h4
  have a4 := cnt_t h5
  have b1 := hm.k1
  have b2 := hm.k64
  have b3 := hm.s
  have hm' : Mea.Ok x.I.toNat x.S.toNat x.nx x.out := by rw [hk, hs]; simpa using hm
  exact ⟨hm', by omega, by omega, by omega, by omega, a1.1, by omega, a2.1, a2.2.1, a2.2.2.1, a2.2.2.2, a3.1.1, a3.1.2, a3.2.1.1, a3.2.1.2, a3.2.2.1.1, a3.2.2.1.2, a3.2.2.2, a4.1.1, a4.1.2, a4.2.1.1, a4.2.1.2, a4.2.2.1, a4.2.2.2⟩
theorem OkD.valid {x : Dv} (h : OkD x) : validD x = 0 := by
  have h1 : Mea.validE x.I x.S x.nx x.out = 0 := by
    have := h.m.valid
    rwa [Int.toNat_of_nonneg (by have := h.I0; omega), Int.toNat_of_nonneg h.S0] at this
  rw [valid_5 h1 (outB_no h.st0 (by have := h.st1; omega)) (fits_mk h.len h.cost h.rs0 h.rs1) (rate_mk h.lost0 h.lost1 h.wrong0 h.wrong1 h.crash0 h.crash1 h.sum), if_pos (cnt_mk h.steps0 h.steps1 h.resets0 h.resets1 h.time0 h.time1)]
/-- the next target and the output of the table -/
def tarD (x : Dv) (a : Int) : Int := (x.nx.getD x.st.toNat []).getD a.toNat 0
def outD (x : Dv) (a : Int) : Int := (x.out.getD x.st.toNat []).getD a.toNat 0
def costD1 (x : Dv) (a : Int) : Int := x.step.getD a.toNat 0
/-- the number that is drawn, and the seed behind it -/
noncomputable def drawD (x : Dv) : Int := ((Rnd.bel x.seed.toNat 10000).1 : Int)
noncomputable def seedD (x : Dv) : Int := ((Rnd.bel x.seed.toNat 10000).2 : Int)
/-- a step is counted -/
def nextS (x : Dv) (a : Int) : Dv := { x with steps := x.steps + 1, time := x.time + costD1 x a }
def answ (x : Dv) (o v : Int) : Int := if v < x.lost then -1 else if v < x.lost + x.wrong ∧ o = 1048576 then o - 1 else if v < x.lost + x.wrong then o + 1 else o
def rdyD (x : Dv) (v : Int) : Bool := if v < x.lost + x.wrong then x.rdy else if v < x.lost + x.wrong + x.crash then false else x.rdy
noncomputable def moved (x : Dv) (a : Int) : Dv := { x with steps := x.steps + 1, time := x.time + costD1 x a, seed := seedD x, st := tarD x a, rdy := rdyD x (drawD x) }
/-- step of a unit: error, output, device -/
noncomputable def stepE (x : Dv) (a : Int) : Int := if x.rdy = false then 10 else if outB a (x.I - 1) = true then 2 else if cntB (nextS x a) = false then 11 else 0
noncomputable def stepO (x : Dv) (a : Int) : Int := if stepE x a = 0 then answ x (outD x a) (drawD x) else 0
noncomputable def stepX (x : Dv) (a : Int) : Dv := if stepE x a = 0 then moved x a else x
theorem OkD.nextR {x : Dv} (h : OkD x) (hc : cntB (nextR x) = true) : OkD (nextR x) := by
  have a4 := cnt_t hc
  exact ⟨h.m, h.I0, h.I1, h.S0, h.S1, h.S0, h.S1, h.len, h.cost, h.rs0, h.rs1, h.lost0, h.lost1, h.wrong0, h.wrong1, h.crash0, h.crash1, h.sum, a4.1.1, a4.1.2, a4.2.1.1, a4.2.1.2, a4.2.2.1, a4.2.2.2⟩
theorem OkD.moved {x : Dv} (h : OkD x) {a : Int} (ha : outB a (x.I - 1) = false) (hc : cntB (nextS x a) = true) : OkD (moved x a) := by
  have a4 := cnt_t hc
  have a5 := outB_f ha
  have h1 := h.I0
  have h2 := h.st0
  have h3 := h.st1
  have hcell := h.m.cell x.st.toNat a.toNat (by omega) (by omega)
  exact ⟨h.m, h.I0, h.I1, h.S0, h.S1, hcell.1, hcell.2.1, h.len, h.cost, h.rs0, h.rs1, h.lost0, h.lost1, h.wrong0, h.wrong1, h.crash0, h.crash1, h.sum, a4.1.1, a4.1.2, a4.2.1.1, a4.2.1.2, a4.2.2.1, a4.2.2.2⟩
theorem seedD_lt (x : Dv) : 0 ≤ seedD x ∧ seedD x < 18446744073709551616 := by
  have := Rnd.bel2_lt x.seed.toNat 10000
  unfold seedD
  exact ⟨Int.natCast_nonneg _, by omega⟩
end Go.Proofs.Ytpoppadihbgbgaa
