/- Devices: step of a unit. -/
import Derived.Test.YtpoppadihbgbgaaDev10
namespace Go.Proofs.Ytpoppadihbgbgaa
open Go.RowKit

/-- what is known of a device whose step is taken -/
structure Pre (x : Dv) : Prop where
  ok : OkD x
  s0 : 0 ≤ x.seed
  s1 : x.seed < 18446744073709551616
theorem step_1 {x : Dv} {a : Int} (h : x.rdy = false) : stepE x a = 10 := if_pos h
theorem step_2 {x : Dv} {a : Int} (h : x.rdy = true) (h2 : outB a (x.I - 1) = true) : stepE x a = 2 := by unfold stepE; rw [if_neg (by rw [h]; simp), if_pos h2]
theorem step_3 {x : Dv} {a : Int} (h : x.rdy = true) (h2 : outB a (x.I - 1) = false) (h3 : cntB (nextS x a) = false) : stepE x a = 11 := by unfold stepE; rw [if_neg (by rw [h]; simp), if_neg (by rw [h2]; simp), if_pos h3]
theorem step_4 {x : Dv} {a : Int} (h : x.rdy = true) (h2 : outB a (x.I - 1) = false) (h3 : cntB (nextS x a) = true) : stepE x a = 0 := by unfold stepE; rw [if_neg (by rw [h]; simp), if_neg (by rw [h2]; simp), if_neg (by rw [h3]; simp)]
theorem stepO_ne {x : Dv} {a : Int} (h : stepE x a ≠ 0) : stepO x a = 0 := if_neg h
theorem stepX_ne {x : Dv} {a : Int} (h : stepE x a ≠ 0) : stepX x a = x := if_neg h
theorem stepO_eq {x : Dv} {a : Int} (h : stepE x a = 0) : stepO x a = answ x (outD x a) (drawD x) := if_pos h
theorem stepX_eq {x : Dv} {a : Int} (h : stepE x a = 0) : stepX x a = moved x a := if_pos h
/-- an error's way -/
theorem step_bad {x : Dv} {a E : Int} (h : stepE x a = E) (h0 : E ≠ 0) : stepE x a = E ∧ stepO x a = 0 ∧ stepX x a = x := ⟨h, stepO_ne (by omega), stepX_ne (by omega)⟩
theorem RowD.setSeed {w : World} {k t : Nat} {x : Dv} {A B C : Option Addr} {c d e : Nat} (h : RowD w k t x A c B d C e) (v : Int) : RowD (w.setCell ⟨k, 11, none⟩ (.int .u64 v)) k t { x with seed := v } A c B d C e := by
  unfold RowD at *
  rw [heap_setCell_same w k 11 _ t _ h]
  rfl
theorem RowD.setSt {w : World} {k t : Nat} {x : Dv} {A B C : Option Addr} {c d e : Nat} (h : RowD w k t x A c B d C e) (v : Int) : RowD (w.setCell ⟨k, 4, none⟩ (.int .i64 v)) k t { x with st := v } A c B d C e := by
  unfold RowD at *
  rw [heap_setCell_same w k 4 _ t _ h]
  rfl
theorem RowD.setRdy {w : World} {k t : Nat} {x : Dv} {A B C : Option Addr} {c d e : Nat} (h : RowD w k t x A c B d C e) (v : Bool) : RowD (w.setCell ⟨k, 5, none⟩ (.bool v)) k t { x with rdy := v } A c B d C e := by
  unfold RowD at *
  rw [heap_setCell_same w k 5 _ t _ h]
  rfl
theorem below10p (x : Dv) (w : World) (h0 : 0 ≤ x.seed) (h1 : x.seed < 18446744073709551616) :
    Calls Try.prog 50 #[.int .u64 x.seed, .int .i64 10000] w fun e w' => e = .returned (.tuple #[.int .i64 (drawD x), .int .u64 (seedD x), .int .i64 0]) ∧ w = w' := by
  have := below_p x.seed.toNat 10000 w (by omega) (by omega) (by omega)
  rw [Int.toNat_of_nonneg h0] at this
  exact this
theorem below10r (x : Dv) (w : World) (h0 : 0 ≤ x.seed) (h1 : x.seed < 18446744073709551616) :
    Calls Try.prog 34 #[.int .u64 x.seed, .int .i64 10000] w fun e w' => e = .returned (.tuple #[.int .i64 (drawD x), .int .u64 (seedD x), .int .i64 0]) ∧ w = w' := by
  have := below_r x.seed.toNat 10000 w (by omega) (by omega) (by omega)
  rw [Int.toNat_of_nonneg h0] at this
  exact this
theorem keep_cell {w w' : World} {a : Addr} {v : Value} (hb : Below w.heap.size w w') (h : w.cell? a = some v) : w'.cell? a = some v := (hb.cell (World.block_lt_of_cell? _ _ h)).trans h
theorem grown_of {w w' : World} {k : Nat} (h : Below w.heap.size w w') : w.grownBy w' (some k) := ⟨h.os, h.tape, h.output, h.size, fun b hb _ => h.block b hb⟩
theorem rdy_1 {x : Dv} {v : Int} (h : v < x.lost + x.wrong) : rdyD x v = x.rdy := if_pos h
theorem rdy_2 {x : Dv} {v : Int} (h : ¬ v < x.lost + x.wrong) (h2 : v < x.lost + x.wrong + x.crash) : rdyD x v = false := by unfold rdyD; rw [if_neg h, if_pos h2]
theorem rdy_3 {x : Dv} {v : Int} (h : ¬ v < x.lost + x.wrong) (h2 : ¬ v < x.lost + x.wrong + x.crash) : rdyD x v = x.rdy := by unfold rdyD; rw [if_neg h, if_neg h2]
theorem ans_1 {x : Dv} {o v : Int} (h : v < x.lost) : answ x o v = -1 := if_pos h
theorem ans_2 {x : Dv} {o v : Int} (h : ¬ v < x.lost) (h2 : v < x.lost + x.wrong) (h3 : o = 1048576) : answ x o v = o - 1 := by unfold answ; rw [if_neg h, if_pos ⟨h2, h3⟩]
theorem ans_3 {x : Dv} {o v : Int} (h : ¬ v < x.lost) (h2 : v < x.lost + x.wrong) (h3 : ¬ o = 1048576) : answ x o v = o + 1 := by unfold answ; rw [if_neg h, if_neg (by simp [h3]), if_pos h2]
theorem ans_4 {x : Dv} {o v : Int} (h : ¬ v < x.lost) (h2 : ¬ v < x.lost + x.wrong) : answ x o v = o := by unfold answ; rw [if_neg h, if_neg (by simp [h2]), if_neg h2]
/-- the device behind a step, the rest of its fields aside -/
noncomputable def movedR (x : Dv) (a : Int) (r : Bool) : Dv := { x with steps := x.steps + 1, time := x.time + costD1 x a, seed := seedD x, st := tarD x a, rdy := r }
theorem moved_r {x : Dv} {a : Int} {r : Bool} (h : rdyD x (drawD x) = r) : moved x a = movedR x a r := by unfold moved movedR; rw [h]
theorem okst {x : Dv} (h : OkD x) {n : Nat} (hn : (n : Int) < x.I) : ∃ s : Nat, x.st = s ∧ s < x.nx.length ∧ s < x.out.length ∧ n < (x.nx.getD s []).length ∧ n < (x.out.getD s []).length ∧ n < x.step.length ∧
    0 ≤ x.time ∧ x.time ≤ 1125899906842624 ∧ 0 ≤ x.steps ∧ x.steps ≤ 1125899906842624 ∧ 0 ≤ x.step.getD n 0 ∧ x.step.getD n 0 ≤ 1048576 := by
  have h1 := h.st0
  have h2 := h.st1
  have h3 := h.len
  have h4 := h.m.o
  have h5 := h.I0
  have e : x.st = (x.st.toNat : Int) := by omega
  have h6 := h.m.rowN x.st.toNat (by omega)
  have h7 := h.m.rowO x.st.toNat (by omega)
  have h8 := h.cost n (by omega)
  exact ⟨x.st.toNat, e, by omega, by omega, by omega, by omega, by omega, h.time0, h.time1, h.steps0, h.steps1, h8.1, h8.2⟩
set_option maxRecDepth 100000 in
set_option maxHeartbeats 4000000 in
theorem step_u (x : Dv) (a : Int) (A B C : Option Addr) (c d e : Nat) (w : World) (k : Nat) (h : RowD w k 77 x A c B d C e) (hm : RdD w A B C x) (hp : Pre x) :
    Calls Try.prog 33 #[.pointer (some ⟨k, 0, none⟩), .int .i64 a] w (UnitP w k A c B d C e (.tuple #[.int .i64 (stepO x a), .int .i64 (stepE x a)]) (stepX x a)) := by
  have HX := Lib.hid h
  have HM := Lib.hid hm
  have HP := Lib.hid hp
  have hlt := h.lt
  clear hm hp
  have hc5 := h.box.c5
  cases hr : x.rdy with
  | false =>
    rw [hr] at hc5
    have HE : Hid (stepE x a = 10 ∧ stepO x a = 0 ∧ stepX x a = x) := Lib.hid (step_bad (step_1 hr) (by decide))
    clear hr
    go_enter Try.func33, Try.ntmps33
    go_wp2_with fail
    go_ret2
    exact ⟨by rw [HE.out.1, HE.out.2.1]; rfl, by rw [HE.out.2.2]; exact HX.out, World.grownBy.refl _ _⟩
  | true =>
  rw [hr] at hc5
  have HR := Lib.hid hr
  clear hr
  have hc0 := h.box.c0
  have hI0 := HP.out.ok.I0
  have hI1 := HP.out.ok.I1
  cases ho : outB a (x.I - 1) with
  | true =>
    have HE : Hid (stepE x a = 2 ∧ stepO x a = 0 ∧ stepX x a = x) := Lib.hid (step_bad (step_2 HR.out ho) (by decide))
    have HO := Lib.hid ho
    clear ho
    go_enter Try.func33, Try.ntmps33
    go_wp2_with fail
    refine (outside_any _ _ _).mono ?_
    rintro r w1 ⟨rfl, rfl⟩
    rw [HO.out]
    go_wp2_with fail
    go_ret2
    exact ⟨by rw [HE.out.1, HE.out.2.1]; rfl, by rw [HE.out.2.2]; exact HX.out, World.grownBy.refl _ _⟩
  | false =>
  have hab := outB_f ho
  obtain ⟨n, rfl⟩ : ∃ n : Nat, a = (n : Int) := ⟨a.toNat, by omega⟩
  have HO := Lib.hid ho
  clear ho
  obtain ⟨s, hst, hs1, hs2, hn1, hn2, hn3, t0, t1, t2, t3, t4, t5⟩ := okst HP.out.ok (n := n) (by omega)
  have hst' : Hid (x.st.toNat = s) := Lib.hid (by rw [hst]; rfl)
  have HST := Lib.hid hst
  clear hst
  obtain ⟨adC, cst, rfl, hcst, hcC⟩ := HM.out.step.at_ (i := n) hn3
  obtain ⟨adA, A1, c1, row, rfl, hrow, hcA, hrA⟩ := HM.out.nx.at_ (i := s) hs1
  obtain ⟨adB, B1, d1, orow, rfl, horow, hcB, hrB⟩ := HM.out.out.at_ (i := s) hs2
  rw [hrow] at hn1
  rw [horow] at hn2
  rw [hcst] at t4 t5
  obtain ⟨adA1, tar, rfl, htar, hcA1⟩ := hrA.at_ (i := n) hn1
  obtain ⟨adB1, o, rfl, hout, hcB1⟩ := hrB.at_ (i := n) hn2
  have HT : Hid (tarD x n = tar) := Lib.hid (by unfold tarD; rw [hst'.out, Int.toNat_natCast, hrow, htar])
  have HOut : Hid (outD x n = o) := Lib.hid (by unfold outD; rw [hst'.out, Int.toNat_natCast, horow, hout])
  have HCo : Hid (costD1 x n = cst) := Lib.hid (by unfold costD1; rw [Int.toNat_natCast, hcst])
  have hob : Hid (0 ≤ o ∧ o ≤ 1048576) := Lib.hid (by
    have h9 := HP.out.ok.m.cell s n hs1 (by omega)
    rw [horow, hout] at h9
    exact ⟨h9.2.2.1, h9.2.2.2⟩)
  have HcA := Lib.hid hcA
  have HcB := Lib.hid hcB
  have HcC := Lib.hid hcC
  have HcA1 := Lib.hid hcA1
  have HcB1 := Lib.hid hcB1
  have hrl := hrA.1
  have hol := hrB.1
  have hxl := HM.out.nx.1
  have hul := HM.out.out.1
  have hsl := HM.out.step.1
  clear hcA hcB hcC hcA1 hcB1 hrow horow hcst htar hout hrA hrB
  go_enter Try.func33, Try.ntmps33
  go_wp2_with fail
  refine (outside_any _ _ _).mono ?_
  rintro r w1 ⟨rfl, rfl⟩
  rw [HO.out]
  go_upto_region 7 with (refine wpList_load_row rfl 77 _ rfl k rfl 77 _ (0, 0) _ HX.out (by rfl) rfl (by kernel_rfl) ?_)
  generalize hw1 : w.alloc _ = w1
  have HY : Hid (RowD w1 w.heap.size 77 { x with steps := x.steps + 1 } (some adA) c (some adB) d (some adC) e) := Lib.hid (by rw [← hw1]; exact Go.heap_alloc_new w _)
  have hbel : Below w.heap.size w w1 := by rw [← hw1]; exact (Below.refl _ _).alloc (Nat.le_refl _) _
  have hsz : w.heap.size < w1.heap.size := by rw [← hw1]; exact size_new _ _
  clear hw1
  clear hc5 hc0
  have hc6 := (HX.out.keep hlt hbel).box.c6
  have hc14 : w1.cell? ⟨w.heap.size, 14, none⟩ = some (.int .i64 x.time) := HY.out.box.c14
  have hf14 := HY.out.fro 14
  have hv := keep_cell hbel HcC.out
  go_still_tail 15, (by kernel_rfl)
  go_upto_region 8 with fail
  generalize hw2 : World.drew _ = w2
  replace HY : Hid (RowD w2 w.heap.size 77 (nextS x n) (some adA) c (some adB) d (some adC) e) := Lib.hid (by rw [← hw2]; unfold nextS; rw [HCo.out]; exact (HY.out.setT _).drew)
  replace hbel : Below w.heap.size w w2 := by rw [← hw2]; exact (hbel.setCell (Nat.le_refl _) _).drew
  replace hsz : w.heap.size < w2.heap.size := by rw [← hw2]; show _ < (w1.setCell _ _).heap.size; rw [size_setCell]; exact hsz
  clear hw2 hc6 hc14 hf14 hv t0 t1 t2 t3 t4 t5
  go_wp2_with (refine wpList_load_row rfl 77 _ rfl w.heap.size rfl 77 _ (0, 0) _ HY.out (by rfl) rfl (by kernel_rfl) ?_)
  refine (counted_p (nextS x n) _ _ _ _ _ _ w2).mono ?_
  rintro r w3 ⟨rfl, hb⟩
  replace HY := Lib.hid (HY.out.keep hsz hb)
  replace hbel := hbel.trans (hb.mono (Nat.le_of_lt hsz))
  replace hsz := Nat.lt_of_lt_of_le hsz hb.size
  clear hb w1 w2
  cases q : cntB (nextS x n) with
  | false =>
    have HE : Hid (stepE x n = 11 ∧ stepO x n = 0 ∧ stepX x n = x) := Lib.hid (step_bad (step_3 HR.out HO.out q) (by decide))
    clear q
    go_wp2_with fail
    go_ret2
    exact ⟨by rw [HE.out.1, HE.out.2.1]; rfl, by rw [HE.out.2.2]; exact HX.out.keep hlt hbel, grown_of hbel⟩
  | true =>
  have HE : Hid (stepE x n = 0) := Lib.hid (step_4 HR.out HO.out q)
  clear q
  have hc11 := (HX.out.keep hlt hbel).box.c11
  go_wp2_with fail
  refine (below10p x w3 HP.out.s0 HP.out.s1).mono ?_
  rintro r w4 ⟨rfl, rfl⟩
  have hf11 := HY.out.fro 11
  have hz11 : w3.cell? ⟨w.heap.size, 11, none⟩ = some (.int .u64 x.seed) := HY.out.box.c11
  go_upto_region 14 with fail
  clear hf11 hz11 hc11
  generalize hw5 : World.setCell _ _ _ = w5
  replace HY : Hid (RowD w5 w.heap.size 77 { nextS x n with seed := seedD x } (some adA) c (some adB) d (some adC) e) := Lib.hid (by rw [← hw5]; exact HY.out.setSeed _)
  replace hbel : Below w.heap.size w w5 := by rw [← hw5]; exact hbel.setCell (Nat.le_refl _) _
  replace hsz : w.heap.size < w5.heap.size := by rw [← hw5, size_setCell]; exact hsz
  clear hw5 w3
  have hc2 := (HX.out.keep hlt hbel).box.c2
  have hc4 := (HX.out.keep hlt hbel).box.c4
  rw [HST.out] at hc4
  have hv1 := keep_cell hbel HcA.out
  have hv2 := keep_cell hbel HcA1.out
  have hf4 := HY.out.fro 4
  have hz4 : ∃ u, w5.cell? ⟨w.heap.size, 4, none⟩ = some (.int .i64 u) := ⟨_, HY.out.box.c4⟩
  obtain ⟨u0, hz4⟩ := hz4
  go_still_tail 18, (by kernel_rfl)
  go_upto_region 15 with fail
  generalize hw6 : World.drew _ = w6
  replace HY : Hid (RowD w6 w.heap.size 77 { nextS x n with seed := seedD x, st := tarD x n } (some adA) c (some adB) d (some adC) e) := Lib.hid (by rw [← hw6, HT.out]; exact (HY.out.setSt _).drew)
  replace hbel : Below w.heap.size w w6 := by rw [← hw6]; exact (hbel.setCell (Nat.le_refl _) _).drew
  replace hsz : w.heap.size < w6.heap.size := by rw [← hw6]; show _ < (w5.setCell _ _).heap.size; rw [size_setCell]; exact hsz
  clear hw6 hc2 hc4 hv1 hv2 hf4 hz4 w5
  have hc3 := (HX.out.keep hlt hbel).box.c3
  have hc4 := (HX.out.keep hlt hbel).box.c4
  rw [HST.out] at hc4
  have hv1 := keep_cell hbel HcB.out
  have hv2 := keep_cell hbel HcB1.out
  go_quiet (fail)
  clear hc3 hc4 hv1 hv2
  generalize hw7 : World.drewN _ _ = w7
  have HY7 : Hid (RowD w7 w.heap.size 77 { nextS x n with seed := seedD x, st := tarD x n } (some adA) c (some adB) d (some adC) e) := Lib.hid (by rw [← hw7]; exact HY.out)
  have hbel7 : Below w.heap.size w w7 := by rw [← hw7]; exact below_drewN' hbel _
  have hsz7 : w.heap.size < w7.heap.size := by rw [← hw7]; exact hsz
  clear hw7 HY hbel hsz
  have hc8 := (HX.out.keep hlt hbel7).box.c8
  have hc9 := (HX.out.keep hlt hbel7).box.c9
  have hc10 := (HX.out.keep hlt hbel7).box.c10
  go_upto_region 17 with fail
  clear hc8 hc9 hc10
  generalize hw8 : World.alloc _ _ = w8
  have HY : Hid (RowD w8 w.heap.size 77 (movedR x n true) (some adA) c (some adB) d (some adC) e) := Lib.hid (by
    have h9 : RowD w8 w.heap.size 77 (movedR x n x.rdy) (some adA) c (some adB) d (some adC) e := by
      rw [← hw8]; exact HY7.out.keep hsz7 ((Below.refl _ _).alloc (Nat.le_refl _) _)
    rw [HR.out] at h9
    exact h9)
  have hbel : Below w.heap.size w w8 := by rw [← hw8]; exact hbel7.alloc (Nat.le_of_lt hsz7) _
  have hsz : w.heap.size < w8.heap.size := by rw [← hw8, size_alloc]; omega
  have HF : BoxF w8 w7.heap.size x := by rw [← hw8]; exact BoxF.new w7 x 29
  clear hw8 HY7
  obtain ⟨f0, f1, f2⟩ := HF
  have L0 := HP.out.ok.lost0
  have L1 := HP.out.ok.lost1
  have W0 := HP.out.ok.wrong0
  have W1 := HP.out.ok.wrong1
  have C0 := HP.out.ok.crash0
  have C1 := HP.out.ok.crash1
  generalize hv : drawD x = v
  have HV := Lib.hid hv
  clear hv
  by_cases v1 : v < x.lost
  · clear hob
    have HA : Hid (stepO x n = -1 ∧ stepX x n = movedR x n true) := Lib.hid ⟨by rw [stepO_eq HE.out, HOut.out, HV.out]; exact ans_1 v1, by rw [stepX_eq HE.out]; exact moved_r (by rw [HV.out]; exact ((rdy_1 (by omega)).trans HR.out))⟩
    go_wp2_with (first | (refine wpList_load_row rfl 77 _ rfl w.heap.size rfl 77 _ (0, 0) _ (HY.out) (by rfl) rfl (by kernel_rfl) ?_) | (refine wpList_store_row rfl 77 _ _ rfl k _ rfl rfl 77 _ (HX.out.keep hlt (hbel)) (by kernel_rfl) rfl (dc_one _ _ _ _ _ _ _) ?_))
    go_ret2
    exact ⟨by rw [HA.out.1, HE.out]; rfl, by rw [HA.out.2]; exact RowD.put (HX.out.keep hlt (hbel)) (movedR x n true) _ _ _ _ _ _, grown_row (grown_of (hbel))⟩
  by_cases v2 : v < x.lost + x.wrong
  · by_cases v3 : o = 1048576
    · skip
      have HA : Hid (stepO x n = o - 1 ∧ stepX x n = movedR x n true) := Lib.hid ⟨by rw [stepO_eq HE.out, HOut.out, HV.out]; exact ans_2 v1 v2 v3, by rw [stepX_eq HE.out]; exact moved_r (by rw [HV.out]; exact ((rdy_1 v2).trans HR.out))⟩
      have hob1 := hob.out.1
      subst v3
      go_wp2_with (first | (refine wpList_load_row rfl 77 _ rfl w.heap.size rfl 77 _ (0, 0) _ (HY.out) (by rfl) rfl (by kernel_rfl) ?_) | (refine wpList_store_row rfl 77 _ _ rfl k _ rfl rfl 77 _ (HX.out.keep hlt (hbel)) (by kernel_rfl) rfl (dc_one _ _ _ _ _ _ _) ?_))
      go_ret2
      exact ⟨by rw [HA.out.1, HE.out]; rfl, by rw [HA.out.2]; exact RowD.put (HX.out.keep hlt (hbel)) (movedR x n true) _ _ _ _ _ _, grown_row (grown_of (hbel))⟩
    · have hob1 := hob.out.1
      have hob2 := hob.out.2
      have HA : Hid (stepO x n = o + 1 ∧ stepX x n = movedR x n true) := Lib.hid ⟨by rw [stepO_eq HE.out, HOut.out, HV.out]; exact ans_3 v1 v2 v3, by rw [stepX_eq HE.out]; exact moved_r (by rw [HV.out]; exact ((rdy_1 v2).trans HR.out))⟩
      go_wp2_with (first | (refine wpList_load_row rfl 77 _ rfl w.heap.size rfl 77 _ (0, 0) _ (HY.out) (by rfl) rfl (by kernel_rfl) ?_) | (refine wpList_store_row rfl 77 _ _ rfl k _ rfl rfl 77 _ (HX.out.keep hlt (hbel)) (by kernel_rfl) rfl (dc_one _ _ _ _ _ _ _) ?_))
      go_ret2
      exact ⟨by rw [HA.out.1, HE.out]; rfl, by rw [HA.out.2]; exact RowD.put (HX.out.keep hlt (hbel)) (movedR x n true) _ _ _ _ _ _, grown_row (grown_of (hbel))⟩
  by_cases v4 : v < x.lost + x.wrong + x.crash
  · have hf5 := HY.out.fro 5
    have hc5 : w8.cell? ⟨w.heap.size, 5, none⟩ = some (.bool true) := HY.out.box.c5
    have hbel9 : Below w.heap.size w (w8.setCell ⟨w.heap.size, 5, none⟩ (.bool false)) := hbel.setCell (Nat.le_refl _) _
    have HA : Hid (stepO x n = o ∧ stepX x n = movedR x n false) := Lib.hid ⟨by rw [stepO_eq HE.out, HOut.out, HV.out]; exact ans_4 v1 v2, by rw [stepX_eq HE.out]; exact moved_r (by rw [HV.out]; exact (rdy_2 v2 v4))⟩
    go_wp2_with (first | (refine wpList_load_row rfl 77 _ rfl w.heap.size rfl 77 _ (0, 0) _ (HY.out.setRdy false) (by rfl) rfl (by kernel_rfl) ?_) | (refine wpList_store_row rfl 77 _ _ rfl k _ rfl rfl 77 _ (HX.out.keep hlt (hbel9)) (by kernel_rfl) rfl (dc_one (movedR x n false) _ _ _ _ _ _) ?_))
    go_ret2
    exact ⟨by rw [HA.out.1, HE.out]; rfl, by rw [HA.out.2]; exact RowD.put (HX.out.keep hlt (hbel9)) (movedR x n false) _ _ _ _ _ _, grown_row (grown_of (hbel9))⟩
  · skip
    have HA : Hid (stepO x n = o ∧ stepX x n = movedR x n true) := Lib.hid ⟨by rw [stepO_eq HE.out, HOut.out, HV.out]; exact ans_4 v1 v2, by rw [stepX_eq HE.out]; exact moved_r (by rw [HV.out]; exact ((rdy_3 v2 v4).trans HR.out))⟩
    go_wp2_with (first | (refine wpList_load_row rfl 77 _ rfl w.heap.size rfl 77 _ (0, 0) _ (HY.out) (by rfl) rfl (by kernel_rfl) ?_) | (refine wpList_store_row rfl 77 _ _ rfl k _ rfl rfl 77 _ (HX.out.keep hlt (hbel)) (by kernel_rfl) rfl (dc_one _ _ _ _ _ _ _) ?_))
    go_ret2
    exact ⟨by rw [HA.out.1, HE.out]; rfl, by rw [HA.out.2]; exact RowD.put (HX.out.keep hlt (hbel)) (movedR x n true) _ _ _ _ _ _, grown_row (grown_of (hbel))⟩
end Go.Proofs.Ytpoppadihbgbgaa
