/- Small functions of register automata: the number of a value, permitted numbers, possible values, equal data words, small automata. -/
import Derived.Test.YtaoebjabdejpoaaCel
import Derived.Test.YtaoebjabdejpoaaIns
namespace Go.Proofs.Ytaoebjabdejpoaa
open Go.RowKit

set_option linter.unusedSimpArgs false
namespace Rg
/-- the number of a value in a list, from 1 on; 0: it is not there -/
def numI (q : List Int) (v : Int) : Nat := if v ∈ q then idx q v + 1 else 0
theorem numI_in {q : List Int} {v : Int} (h : v ∈ q) : numI q v = idx q v + 1 := if_pos h
theorem numI_out {q : List Int} {v : Int} (h : v ∉ q) : numI q v = 0 := if_neg h
end Rg
theorem perm_p (a d : Int) (w : World) : Calls Try.prog 34 #[.int .i64 a, .int .i64 d] w fun e w' => e = .returned (.bool (Rg.permB a d)) ∧ w = w' := by
  obtain ⟨b, hb⟩ : ∃ b, Rg.permB a d = b := ⟨_, rfl⟩
  rw [hb]
  have HB := Lib.hid hb
  clear hb
  by_cases q0 : 1 ≤ a
  rotate_left
  · obtain rfl : false = b := by rw [← HB.out]; exact (decide_eq_false (by omega)).symm
    have d0 : decide (1 ≤ a) = false := decide_eq_false q0
    go_enter Try.func34, Try.ntmps34
    go_wp2
    go_ret
    exact ⟨rfl, rfl⟩
  by_cases q1 : a ≤ 64
  rotate_left
  · obtain rfl : false = b := by rw [← HB.out]; exact (decide_eq_false (by omega)).symm
    have d1 : decide (a ≤ 64) = false := decide_eq_false q1
    go_enter Try.func34, Try.ntmps34
    go_wp2
    go_ret
    exact ⟨rfl, rfl⟩
  by_cases q2 : 1 ≤ d
  rotate_left
  · obtain rfl : false = b := by rw [← HB.out]; exact (decide_eq_false (by omega)).symm
    have d2 : decide (1 ≤ d) = false := decide_eq_false q2
    go_enter Try.func34, Try.ntmps34
    go_wp2
    go_ret
    exact ⟨rfl, rfl⟩
  by_cases q3 : d ≤ 6
  rotate_left
  · obtain rfl : false = b := by rw [← HB.out]; exact (decide_eq_false (by omega)).symm
    have d3 : decide (d ≤ 6) = false := decide_eq_false q3
    go_enter Try.func34, Try.ntmps34
    go_wp2
    go_ret
    exact ⟨rfl, rfl⟩
  have hm0 : 0 ≤ a * (d + 1) := Int.mul_nonneg (by omega) (by omega)
  have hm1 : a * (d + 1) ≤ 64 * 7 := Int.le_trans (Int.mul_le_mul_of_nonneg_right q1 (by omega)) (Int.mul_le_mul_of_nonneg_left (by omega) (by omega))
  by_cases q4 : a * (d + 1) ≤ 64
  rotate_left
  · obtain rfl : false = b := by rw [← HB.out]; exact (decide_eq_false (by omega)).symm
    have d4 : decide (a * (d + 1) ≤ 64) = false := decide_eq_false q4
    go_enter Try.func34, Try.ntmps34
    go_wp2
    go_ret
    exact ⟨rfl, rfl⟩
  obtain rfl : true = b := by rw [← HB.out]; exact (decide_eq_true ⟨q0, q1, q2, q3, q4⟩).symm
  go_enter Try.func34, Try.ntmps34
  go_wp2
  go_ret
  exact ⟨rfl, rfl⟩
theorem perm_r (a d : Int) (w : World) : Calls Try.prog 35 #[.int .i64 a, .int .i64 d] w fun e w' => e = .returned (.bool (Rg.permB a d)) ∧ w = w' := by
  obtain ⟨b, hb⟩ : ∃ b, Rg.permB a d = b := ⟨_, rfl⟩
  rw [hb]
  have HB := Lib.hid hb
  clear hb
  by_cases q0 : 1 ≤ a
  rotate_left
  · obtain rfl : false = b := by rw [← HB.out]; exact (decide_eq_false (by omega)).symm
    have d0 : decide (1 ≤ a) = false := decide_eq_false q0
    go_enter Try.func35, Try.ntmps35
    go_wp2
    go_ret
    exact ⟨rfl, rfl⟩
  by_cases q1 : a ≤ 64
  rotate_left
  · obtain rfl : false = b := by rw [← HB.out]; exact (decide_eq_false (by omega)).symm
    have d1 : decide (a ≤ 64) = false := decide_eq_false q1
    go_enter Try.func35, Try.ntmps35
    go_wp2
    go_ret
    exact ⟨rfl, rfl⟩
  by_cases q2 : 1 ≤ d
  rotate_left
  · obtain rfl : false = b := by rw [← HB.out]; exact (decide_eq_false (by omega)).symm
    have d2 : decide (1 ≤ d) = false := decide_eq_false q2
    go_enter Try.func35, Try.ntmps35
    go_wp2
    go_ret
    exact ⟨rfl, rfl⟩
  by_cases q3 : d ≤ 6
  rotate_left
  · obtain rfl : false = b := by rw [← HB.out]; exact (decide_eq_false (by omega)).symm
    have d3 : decide (d ≤ 6) = false := decide_eq_false q3
    go_enter Try.func35, Try.ntmps35
    go_wp2
    go_ret
    exact ⟨rfl, rfl⟩
  have hm0 : 0 ≤ a * (d + 1) := Int.mul_nonneg (by omega) (by omega)
  have hm1 : a * (d + 1) ≤ 64 * 7 := Int.le_trans (Int.mul_le_mul_of_nonneg_right q1 (by omega)) (Int.mul_le_mul_of_nonneg_left (by omega) (by omega))
  by_cases q4 : a * (d + 1) ≤ 64
  rotate_left
  · obtain rfl : false = b := by rw [← HB.out]; exact (decide_eq_false (by omega)).symm
    have d4 : decide (a * (d + 1) ≤ 64) = false := decide_eq_false q4
    go_enter Try.func35, Try.ntmps35
    go_wp2
    go_ret
    exact ⟨rfl, rfl⟩
  obtain rfl : true = b := by rw [← HB.out]; exact (decide_eq_true ⟨q0, q1, q2, q3, q4⟩).symm
  go_enter Try.func35, Try.ntmps35
  go_wp2
  go_ret
  exact ⟨rfl, rfl⟩
set_option maxHeartbeats 800000 in
theorem number_r (A : Option Addr) (c : Nat) (q : List Int) (v : Int) (w : World) (h : Rd w A q) :
    Calls Try.prog 36 #[.slice A q.length c, .int .i64 v] w fun e w' => e = .returned (.int .i64 (Rg.numI q v : Nat)) ∧ ∃ n, w' = w.drewN n := by
  have hm := h.1
  have H := Lib.hid h
  clear h
  go_enter Try.func36, Try.ntmps36
  go_wp2
  go_loopw [5] (fun i wr => ∃ j : Nat, j ≤ q.length ∧ i = .int .i64 j ∧ w = wr ∧ Hid (j ≤ Rg.idx q v)) (fun i _ => q.length - (intOf i).toNat)
  case atStart => exact ⟨0, Nat.zero_le _, rfl, rfl, Lib.hid (Nat.zero_le _)⟩
  case round =>
    obtain ⟨j, hj, rfl, rfl, HZ⟩ := hrel
    by_cases hjl : j < q.length
    · obtain ⟨ad, x, rfl, hx, cx⟩ := H.out.at_ hjl
      have hx2 : q[j]? = some x := by rw [List.getD_eq_getElem?_getD, List.getElem?_eq_getElem hjl] at hx; rw [List.getElem?_eq_getElem hjl]; simpa using hx
      have HST := Lib.hid (Rg.idx_step HZ.out hx2)
      have HX := Lib.hid hx2
      have hji : (j : Int) < (q.length : Int) := by omega
      clear hx hx2
      by_cases hxv : x = v
      · have HF := Lib.hid (show Rg.numI q v = j + 1 by rw [Rg.numI_in (by rw [← hxv]; exact List.mem_of_getElem? HX.out), HST.out.1 hxv])
        have e1 : (x == v) = true := by rw [beq_iff_eq]; exact hxv
        clear hxv
        go_wp2
        go_ret
        exact ⟨by rw [HF.out]; rfl, 0, rfl⟩
      · have HN := Lib.hid (HST.out.2 hxv)
        have e1 : (x == v) = false := beq_eq_false_iff_ne.2 hxv
        clear hxv
        go_wp2
        go_roundw
        case rel => exact ⟨j + 1, by omega, by go_num, trivial, HN⟩
        case measure => simp [intOf] <;> omega
    · obtain rfl : j = q.length := by omega
      have HF := Lib.hid (show Rg.numI q v = 0 from Rg.numI_out (Rg.idx_eq.1 (by have h1 := HZ.out; have h2 := Rg.idx_le q v; omega)))
      go_wp2
      go_ret
      exact ⟨by rw [HF.out]; rfl, 0, rfl⟩
/-- is a value possible behind n values -/
def possB (j n d : Int) : Bool := decide (j = 0 ∧ n < d) || decide (0 < j ∧ j ≤ n)
theorem possible_r (j n d : Int) (w : World) : Calls Try.prog 39 #[.int .i64 j, .int .i64 n, .int .i64 d] w fun e w' => e = .returned (.bool (possB j n d)) ∧ w = w' := by
  obtain ⟨b, hb⟩ : ∃ b, possB j n d = b := ⟨_, rfl⟩
  rw [hb]
  unfold possB at hb
  have HB := Lib.hid hb
  clear hb
  by_cases q0 : j = 0
  · have e0 : (j == 0) = true := by rw [beq_iff_eq]; exact q0
    by_cases q1 : n < d
    · have e1 : decide (n < d) = true := decide_eq_true q1
      obtain rfl : true = b := by rw [← HB.out, decide_eq_true ⟨q0, q1⟩]; rfl
      clear q0
      go_enter Try.func39, Try.ntmps39
      go_wp2
      go_ret
      exact ⟨rfl, rfl⟩
    · have e1 : decide (n < d) = false := decide_eq_false q1
      have e2 : decide (0 < j) = false := decide_eq_false (by omega)
      obtain rfl : false = b := by rw [← HB.out, decide_eq_false (fun h => q1 h.2), decide_eq_false (by omega)]; rfl
      clear q0
      go_enter Try.func39, Try.ntmps39
      go_wp2
      go_ret
      exact ⟨rfl, rfl⟩
  have e0 : (j == 0) = false := beq_eq_false_iff_ne.2 q0
  by_cases q1 : 0 < j
  · have e1 : decide (0 < j) = true := decide_eq_true q1
    by_cases q2 : j ≤ n
    · have e2 : decide (j ≤ n) = true := decide_eq_true q2
      obtain rfl : true = b := by rw [← HB.out, decide_eq_true (show 0 < j ∧ j ≤ n from ⟨q1, q2⟩)]; simp
      go_enter Try.func39, Try.ntmps39
      go_wp2
      go_ret
      exact ⟨rfl, rfl⟩
    · have e2 : decide (j ≤ n) = false := decide_eq_false q2
      obtain rfl : false = b := by rw [← HB.out, decide_eq_false (fun h => q0 h.1), decide_eq_false (fun h => q2 h.2)]; rfl
      go_enter Try.func39, Try.ntmps39
      go_wp2
      go_ret
      exact ⟨rfl, rfl⟩
  · have e1 : decide (0 < j) = false := decide_eq_false q1
    obtain rfl : false = b := by rw [← HB.out, decide_eq_false (fun h => q0 h.1), decide_eq_false (fun h => q1 h.1)]; rfl
    go_enter Try.func39, Try.ntmps39
    go_wp2
    go_ret
    exact ⟨rfl, rfl⟩
set_option maxHeartbeats 1600000 in
theorem samedata_r (A B : Option Addr) (c d : Nat) (xss yss : Rg.Dw) (w : World) (h : Rd2 w A xss) (g : Rd2 w B yss) :
    Calls Try.prog 18 #[.slice A xss.length c, .slice B yss.length d] w fun e w' => e = .returned (.bool (decide (xss = yss))) ∧ ∃ n, w' = w.drewN n := by
  have hm := h.1
  have hm2 := g.1
  have H := Lib.hid h
  have G := Lib.hid g
  clear h g
  by_cases hl : (xss.length : Int) = (yss.length : Int)
  rotate_left
  · have HF := Lib.hid (show decide (xss = yss) = false by rw [decide_eq_false_iff_not]; rintro rfl; exact hl rfl)
    have hb : (!((xss.length : Int) == (yss.length : Int))) = true := by simpa using hl
    go_enter Try.func18, Try.ntmps18
    go_wp2
    go_ret
    exact ⟨by rw [HF.out]; rfl, 0, rfl⟩
  have HL := Lib.hid (show xss.length = yss.length by omega)
  rw [← HL.out]
  clear hl
  go_enter Try.func18, Try.ntmps18
  go_wp2
  go_loopw [5] (fun i wr => ∃ j n : Nat, j ≤ xss.length ∧ i = .int .i64 j ∧ wr = w.drewN n ∧ Hid (∀ t, t < j → xss.getD t (0, 0) = yss.getD t (0, 0))) (fun i _ => xss.length - (intOf i).toNat)
  case atStart => exact ⟨0, 0, Nat.zero_le _, rfl, rfl, Lib.hid (fun t ht => by omega)⟩
  case round =>
    obtain ⟨j, n, hj, rfl, rfl, HZ⟩ := hrel
    by_cases hjl : j < xss.length
    · obtain ⟨ad, x1, x2, rfl, hx, ca, cb⟩ := H.out.at_ hjl
      obtain ⟨bd, y1, y2, rfl, hy, cc, cd⟩ := G.out.at_ (i := j) (by rw [← HL.out]; exact hjl)
      have HX := Lib.hid hx
      have HY := Lib.hid hy
      have cx' := cells2' ca cb
      have cy' := cells2' cc cd
      clear hx hy ca cb cc cd
      have HSX : ∀ wx, (∃ n, wx = w.drewN n) → ∀ jj u, [Value.int .i64 x1, .int .i64 x2][jj]? = some u → wx.cell? ((ad.add (j * 2)).add jj) = some u := by rintro _ ⟨n, rfl⟩ jj u hu; exact cx' jj u hu
      have HSY : ∀ wx, (∃ n, wx = w.drewN n) → ∀ jj u, [Value.int .i64 y1, .int .i64 y2][jj]? = some u → wx.cell? ((bd.add (j * 2)).add jj) = some u := by rintro _ ⟨n, rfl⟩ jj u hu; exact cy' jj u hu
      clear cx' cy'
      have hjy : (j : Int) < (yss.length : Int) := by rw [← HL.out]; omega
      go_wp2_with fail
      go_cut [25] (fun b wx => b = .bool (!decide ((x1, x2) = (y1, y2))) ∧ ∃ n, wx = w.drewN n)
      case first =>
        refine wp_region_held_drew (S := fun wx => ∃ n, wx = w.drewN n) (by kernel_rfl) (⟨n + 1, rfl⟩) (fun hS => ?_)
        refine takeH (i := 0) (d := some 17) (v := ?_) rfl rfl (by kernel_rfl) (by kernel_rfl) (by kernel_rfl) (fun _ _ _ h => h) (Or.inl ⟨by rfl, ?_⟩) hS ?_
        rotate_left
        · intro wx hSx; clear hSx; first | (go_simp; done) | (go_simp; with_reducible rfl)
        simp only [Act.put, List.setIfInBounds_toArray, List.set_cons_zero, List.set_cons_succ]
        refine takeH (i := 1) (d := some 18) (v := ?_) rfl rfl (by kernel_rfl) (by kernel_rfl) (by kernel_rfl) (fun _ _ _ h => h) (Or.inl ⟨by rfl, ?_⟩) hS ?_
        rotate_left
        · intro wx hSx; clear hSx; first | (go_simp; done) | (go_simp; with_reducible rfl)
        simp only [Act.put, List.setIfInBounds_toArray, List.set_cons_zero, List.set_cons_succ]
        refine takeH (i := 2) (d := some 19) (v := ?_) rfl rfl (by kernel_rfl) (by kernel_rfl) (by kernel_rfl) (fun _ _ _ h => h) (Or.inl ⟨by rfl, ?_⟩) hS ?_
        rotate_left
        · intro wx hSx; clear hSx; first | (go_simp; done) | (go_simp; with_reducible rfl)
        simp only [Act.put, List.setIfInBounds_toArray, List.set_cons_zero, List.set_cons_succ]
        refine takeH (i := 3) (d := some 20) (v := .agg #[.int .i64 x1, .int .i64 x2]) rfl rfl (by kernel_rfl) (by kernel_rfl) (by kernel_rfl) (fun _ _ _ h => h) (yieldsIf_load_any (by rfl) 63 _ rfl (ad.add (j * 2)) rfl [.int .i64 x1, .int .i64 x2] _ (fun wx hSx => HSX wx hSx) Try.underlying63 rfl (by kernel_rfl)) hS ?_
        simp only [Act.put, List.setIfInBounds_toArray, List.set_cons_zero, List.set_cons_succ]
        refine takeH (i := 4) (d := some 21) (v := ?_) rfl rfl (by kernel_rfl) (by kernel_rfl) (by kernel_rfl) (fun _ _ _ h => h) (Or.inl ⟨by rfl, ?_⟩) hS ?_
        rotate_left
        · intro wx hSx; clear hSx; first | (go_simp; done) | (go_simp; with_reducible rfl)
        simp only [Act.put, List.setIfInBounds_toArray, List.set_cons_zero, List.set_cons_succ]
        refine takeH (i := 5) (d := some 22) (v := ?_) rfl rfl (by kernel_rfl) (by kernel_rfl) (by kernel_rfl) (fun _ _ _ h => h) (Or.inl ⟨by rfl, ?_⟩) hS ?_
        rotate_left
        · intro wx hSx; clear hSx; first | (go_simp; done) | (go_simp; with_reducible rfl)
        simp only [Act.put, List.setIfInBounds_toArray, List.set_cons_zero, List.set_cons_succ]
        refine takeH (i := 6) (d := some 23) (v := ?_) rfl rfl (by kernel_rfl) (by kernel_rfl) (by kernel_rfl) (fun _ _ _ h => h) (Or.inl ⟨by rfl, ?_⟩) hS ?_
        rotate_left
        · intro wx hSx; clear hSx; first | (go_simp; done) | (go_simp; with_reducible rfl)
        simp only [Act.put, List.setIfInBounds_toArray, List.set_cons_zero, List.set_cons_succ]
        refine takeH (i := 7) (d := some 24) (v := .agg #[.int .i64 y1, .int .i64 y2]) rfl rfl (by kernel_rfl) (by kernel_rfl) (by kernel_rfl) (fun _ _ _ h => h) (yieldsIf_load_any (by rfl) 63 _ rfl (bd.add (j * 2)) rfl [.int .i64 y1, .int .i64 y2] _ (fun wx hSx => HSY wx hSx) Try.underlying63 rfl (by kernel_rfl)) hS ?_
        simp only [Act.put, List.setIfInBounds_toArray, List.set_cons_zero, List.set_cons_succ]
        refine takeH (i := 8) (d := some 25) (v := .bool (!decide ((x1, x2) = (y1, y2)))) rfl rfl (by kernel_rfl) (by kernel_rfl) (by kernel_rfl) (fun _ _ _ h => h) (Or.inl ⟨by rfl, ?_⟩) hS ?_
        · intro wx hSx; clear hSx; go_simp; by_cases e1 : x1 = y1 <;> by_cases e2 : x2 = y2 <;> simp [e1, e2]
        simp only [Act.put, List.setIfInBounds_toArray, List.set_cons_zero, List.set_cons_succ]
        refine wpAnyH_done (by kernel_rfl) ?_ _
        go_wp2_with fail
        go_meet
        exact ⟨rfl, n + 1, rfl⟩
      case rest =>
        obtain ⟨rfl, n', rfl⟩ := hcut
        apply_assumption
        cases hb : decide ((x1, x2) = (y1, y2)) with
        | true =>
          have HQ := Lib.hid (of_decide_eq_true hb)
          clear hb
          go_wp2_with fail
          go_roundw
          case rel =>
            refine ⟨j + 1, _, by omega, by go_num, rfl, Lib.hid (fun t ht => ?_)⟩
            by_cases e : t = j
            · rw [e, HX.out, HY.out, HQ.out]
            · exact HZ.out t (by omega)
          case measure => simp [intOf] <;> omega
        | false =>
          have HFIN := Lib.hid (show decide (xss = yss) = false by
            rw [decide_eq_false_iff_not]
            intro e
            apply of_decide_eq_false hb
            rw [← HX.out, ← HY.out, e])
          clear hb
          go_wp2_with fail
          go_ret
          exact ⟨by rw [HFIN.out]; rfl, _, rfl⟩
    · obtain rfl : j = xss.length := by omega
      have HFIN := Lib.hid (show decide (xss = yss) = true by rw [decide_eq_true_iff]; exact eqL_step (0, 0) xss yss HL.out HZ.out)
      go_wp2
      go_ret
      exact ⟨by rw [HFIN.out]; rfl, _, rfl⟩
/-- a small automaton -/
def small (m : Rg.M) : Bool := decide (m.rg.length ≤ 8) && (decide (m.tr.length ≤ 8) && decide (m.I ≤ 4))
set_option maxHeartbeats 1600000 in
theorem small_r (m : Rg.M) (A B : Option Addr) (c d : Nat) (w : World) (h1 : m.rg.length ≤ 9223372036854775807) (h2 : m.tr.length ≤ 9223372036854775807) :
    Calls Try.prog 23 #[.agg #[.int .i64 m.I, .int .i64 m.S, .slice A m.rg.length c, .slice B m.tr.length d]] w fun r w' => r = .returned (.bool (small m)) ∧ Below w.heap.size w w' := by
  obtain ⟨b, hb⟩ : ∃ b, small m = b := ⟨_, rfl⟩
  rw [hb]
  have HB := Lib.hid hb
  clear hb
  go_enter Try.func23, Try.ntmps23
  go_upto_region 1 with fail
  generalize hwb : World.alloc _ _ = w0
  have BX : Hid (BoxT w0 w.heap.size m A c B d) := Lib.hid (boxT (by rw [← hwb]; exact Blk.new _ _ _))
  have HBL : Hid (Below w.heap.size w w0) := Lib.hid (by rw [← hwb]; exact (Below.refl _ _).alloc (Nat.le_refl _) _)
  clear hwb
  have c0 := BX.out.c0
  have c2 := BX.out.c2
  have c3 := BX.out.c3
  clear BX
  by_cases q1 : (m.rg.length : Int) ≤ 8
  rotate_left
  · obtain rfl : false = b := by rw [← HB.out]; unfold small; rw [decide_eq_false (by omega)]; rfl
    have d1 : decide ((m.rg.length : Int) ≤ 8) = false := decide_eq_false q1
    have d2 : decide (m.rg.length ≤ 8) = false := decide_eq_false (by omega)
    go_wp2
    go_ret
    exact ⟨rfl, HBL.out⟩
  by_cases q2 : (m.tr.length : Int) ≤ 8
  rotate_left
  · obtain rfl : false = b := by rw [← HB.out]; unfold small; rw [decide_eq_false (show ¬ m.tr.length ≤ 8 by omega)]; simp
    have d1 : decide ((m.tr.length : Int) ≤ 8) = false := decide_eq_false q2
    have d2 : decide (m.tr.length ≤ 8) = false := decide_eq_false (by omega)
    go_wp2
    go_ret
    exact ⟨rfl, HBL.out⟩
  by_cases q4 : m.I ≤ 4
  rotate_left
  · obtain rfl : false = b := by rw [← HB.out]; unfold small; rw [decide_eq_false q4]; simp
    have d1 : decide (m.I ≤ 4) = false := decide_eq_false q4
    go_wp2
    go_ret
    exact ⟨rfl, HBL.out⟩
  obtain rfl : true = b := by rw [← HB.out]; unfold small; rw [decide_eq_true q4, decide_eq_true (show m.rg.length ≤ 8 by omega), decide_eq_true (show m.tr.length ≤ 8 by omega)]; rfl
  go_wp2
  go_ret
  exact ⟨rfl, HBL.out⟩
end Go.Proofs.Ytaoebjabdejpoaa
