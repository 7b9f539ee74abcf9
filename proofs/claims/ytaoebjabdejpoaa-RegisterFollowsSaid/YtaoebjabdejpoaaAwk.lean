/- The examples of chapter 39 hold (awake). -/
import Derived.Test.YtaoebjabdejpoaaFin
import Derived.Test.YtaoebjabdejpoaaLck
import Derived.Test.YtaoebjabdejpoaaUfP
namespace Go.Proofs.Ytaoebjabdejpoaa
open Go.RowKit

def awW : Rg.Dw := [(0, 7), (1, 8), (1, 7)]
def awV : Rg.Dw := [(0, 1), (1, 2), (1, 1)]
theorem aw_cells : ∀ i, i < awW.length → (#[Value.int .i64 0, .int .i64 7, .int .i64 1, .int .i64 8, .int .i64 1, .int .i64 7] : Array Value)[i * 2]? = some (.int .i64 (awW.getD i (0, 0)).1) ∧ (#[Value.int .i64 0, .int .i64 7, .int .i64 1, .int .i64 8, .int .i64 1, .int .i64 7] : Array Value)[i * 2 + 1]? = some (.int .i64 (awW.getD i (0, 0)).2) := by
  intro i hi
  rcases i with _ | _ | _ | i
  · exact ⟨rfl, rfl⟩
  · exact ⟨rfl, rfl⟩
  · exact ⟨rfl, rfl⟩
  · simp [awW] at hi; omega
theorem aw_cells2 : ∀ i, i < awV.length → (#[Value.int .i64 0, .int .i64 1, .int .i64 1, .int .i64 2, .int .i64 1, .int .i64 1] : Array Value)[i * 2]? = some (.int .i64 (awV.getD i (0, 0)).1) ∧ (#[Value.int .i64 0, .int .i64 1, .int .i64 1, .int .i64 2, .int .i64 1, .int .i64 1] : Array Value)[i * 2 + 1]? = some (.int .i64 (awV.getD i (0, 0)).2) := by
  intro i hi
  rcases i with _ | _ | _ | i
  · exact ⟨rfl, rfl⟩
  · exact ⟨rfl, rfl⟩
  · exact ⟨rfl, rfl⟩
  · simp [awV] at hi; omega
theorem aw_wf : WfW awW := by
  intro j hj
  rcases j with _ | _ | _ | j
  · exact wf_small (n := 7) (by decide) (by decide)
  · exact wf_small (n := 8) (by decide) (by decide)
  · exact wf_small (n := 7) (by decide) (by decide)
  · simp [awW] at hj; omega
theorem awR : Rg.runE lockM awW = (0, [0, 2, 1]) := by decide +kernel
theorem awS : Rg.symE awW 2 2 = (0, [0, 3, 4]) := by decide +kernel
theorem awS1 : Rg.symE awW 2 1 = (18, []) := by decide +kernel
theorem awD : Rg.datX [0, 3, 4] 2 2 = (0, awV) := by decide +kernel
theorem awC : Rg.canon awW awW.length = awV := by decide +kernel
theorem awE : Rg.validE lockM = 0 := by decide +kernel
theorem awU : (Rg.unfE lockM 1).1 = 0 ∧ (Rg.unfE lockM 1).2.1 = 4 ∧ (Rg.unfE lockM 1).2.2.1.length = 3 ∧ (Rg.unfE lockM 1).2.2.2.length = 3 ∧ (Rg.unfE lockM 1).2.2.2.getD 0 [] = [1, 0, 1, 0] := by decide +kernel
theorem below_lit {w w' : World} {o : Obj} (h : Below (w.alloc o).heap.size (w.alloc o) w') : Below w.heap.size w w' := ((Below.refl w.heap.size w).alloc (Nat.le_refl _) o).trans (h.mono (by simp))
theorem awk1 {A B C : Option Addr} {c d e : Nat} {w : World} (hR : RdA w A B lockM) (hW : Rd2 w C awW) :
    Calls Try.prog 11 #[.agg #[.int .i64 2, .int .i64 0, .slice A 2 c, .slice B 2 d], .slice C 3 e] w fun r w' => (∃ X x, r = .returned (.tuple #[.slice X 3 x, .int .i64 0]) ∧ Rd w' X [0, 2, 1]) ∧ Below w.heap.size w w' := by
  have h := runP_t lockM A B c d w awW C e hR hW
  rw [awR] at h
  exact h
theorem awk2 {C : Option Addr} {e : Nat} {w : World} (hW : Rd2 w C awW) :
    Calls Try.prog 16 #[.slice C 3 e, .int .i64 2, .int .i64 2] w fun r w' => (∃ X x, r = .returned (.tuple #[.slice X 3 x, .int .i64 0]) ∧ Rd w' X [0, 3, 4]) ∧ Below w.heap.size w w' := by
  have h := symP_t awW 2 2 C e w hW aw_wf (by decide)
  rw [awS] at h
  exact h
theorem awk3 {C : Option Addr} {e : Nat} {w : World} (hW : Rd2 w C awW) :
    Calls Try.prog 16 #[.slice C 3 e, .int .i64 2, .int .i64 1] w fun r w' => (∃ X x, r = .returned (.tuple #[.slice X 0 x, .int .i64 18])) ∧ Below w.heap.size w w' := by
  have h := symP_t awW 2 1 C e w hW aw_wf (by decide)
  rw [awS1] at h
  exact h.mono fun _ _ ⟨⟨X, x, h1, _⟩, h2⟩ => ⟨⟨X, x, h1⟩, h2⟩
theorem awk4 {C : Option Addr} {e : Nat} {w : World} (hW : Rd w C [0, 3, 4]) :
    Calls Try.prog 21 #[.slice C 3 e, .int .i64 2, .int .i64 2] w fun r w' => (∃ X x, r = .returned (.tuple #[.slice X 3 x, .int .i64 0]) ∧ Rd2 w' X awV) ∧ Below w.heap.size w w' := by
  have h := datP_t [0, 3, 4] 2 2 C e w hW
  rw [awD] at h
  exact h
theorem awk5 {A B : Option Addr} {c d : Nat} {w : World} (hR : RdA w A B lockM) :
    Calls Try.prog 24 #[.agg #[.int .i64 2, .int .i64 0, .slice A 2 c, .slice B 2 d], .int .i64 1] w fun r w' => (∃ X Y nx out x y, r = .returned (.tuple #[.agg #[.int .i64 4, .int .i64 0, .slice X 3 x, .slice Y 3 y], .int .i64 0]) ∧ RdM .i64 w' X nx ∧ RdM .i64 w' Y out ∧ nx.length = 3 ∧ out.length = 3 ∧ out.getD 0 [] = [1, 0, 1, 0]) ∧ Below w.heap.size w w' := by
  have h := unfold_p lockM 1 A B c d w hR
  refine h.mono fun r w' hh => ?_
  obtain ⟨⟨X, Y, x, y, hr, h1, h2⟩, hb⟩ := hh
  obtain ⟨e1, e2, e3, e4, e5⟩ := awU
  rw [e1, e2, e3, e4] at hr
  exact ⟨⟨X, Y, _, _, x, y, hr, h1, h2, e3, e4, e5⟩, hb⟩
theorem awk6 {C : Option Addr} {e : Nat} {w : World} (hW : Rd2 w C awW) :
    Calls Try.prog 19 #[.slice C 3 e] w fun r w' => (∃ X x, r = .returned (.slice X 3 x) ∧ Rd2 w' X awV) ∧ Below w.heap.size w w' := by
  have h := canP_t awW C e w hW aw_wf (by decide)
  rw [awC] at h
  exact h
theorem awk7 {A B : Option Addr} {c d : Nat} {w : World} (hR : RdA w A B lockM) :
    Calls Try.prog 13 #[.agg #[.int .i64 2, .int .i64 0, .slice A 2 c, .slice B 2 d]] w fun r w' => r = .returned (.int .i64 0) ∧ Below w.heap.size w w' := by
  have h := valid_p lockM A B c d w hR
  rw [awE] at h
  exact h
set_option maxRecDepth 100000 in
set_option maxHeartbeats 4000000 in
theorem awake_p (w : World) : Calls Try.prog 10 #[] w fun e w' => e = .returned (.bool true) ∧ Below w.heap.size w w' := by
  go_enter Try.func10, Try.ntmps10
  go_upto_region 2 with fail
  generalize hwb : World.alloc _ _ = w0
  have HB : Hid (Below w.heap.size w w0) := Lib.hid (by rw [← hwb]; exact (Below.refl _ _).alloc (Nat.le_refl _) _)
  have HW : Hid (Rd2 w0 (some ⟨w.heap.size, 0, none⟩) awW) := Lib.hid (by rw [← hwb]; exact lit_rd2 (Blk.new _ _ _) awW aw_cells (by decide))
  clear hwb
  generalize w.heap.size = gw at HW ⊢
  go_wp2_with fail
  refine (lock_r _).mono ?_
  rintro r w1 ⟨⟨A1, B1, c1, d1, rfl, rl⟩, hb⟩
  have RL := Lib.hid rl
  replace HW := Lib.hid (HW.out.keep hb)
  replace HB := Lib.hid (below_seq HB.out hb)
  clear hb rl
  go_wp2_with fail
  refine (awk1 RL.out HW.out).mono ?_
  rintro r w2 ⟨⟨X1, x1, rfl, rx⟩, hb⟩
  have RX := Lib.hid rx
  replace HW := Lib.hid (HW.out.keep hb)
  replace RL := Lib.hid (RL.out.keep hb)
  replace HB := Lib.hid (below_seq HB.out hb)
  clear hb rx
  clear RL
  go_wp2_with fail
  refine (awk2 HW.out).mono ?_
  rintro r w3 ⟨⟨X2, x2, rfl, ry⟩, hb⟩
  have RY := Lib.hid ry
  replace HW := Lib.hid (HW.out.keep hb)
  replace RX := Lib.hid (RX.out.keep hb)
  replace HB := Lib.hid (below_seq HB.out hb)
  clear hb ry
  go_wp2_with fail
  refine (awk3 HW.out).mono ?_
  rintro r w4 ⟨⟨X3, x3, rfl⟩, hb⟩
  replace HW := Lib.hid (HW.out.keep hb)
  replace RX := Lib.hid (RX.out.keep hb)
  replace RY := Lib.hid (RY.out.keep hb)
  replace HB := Lib.hid (below_seq HB.out hb)
  clear hb
  go_wp2_with fail
  refine (awk4 (lit_rd (Blk.new _ _ _) [0, 3, 4] rfl (by decide))).mono ?_
  rintro r w5 ⟨⟨X4, x4, rfl, rz⟩, hb⟩
  replace hb := below_lit hb
  have RZ := Lib.hid rz
  replace HW := Lib.hid (HW.out.keep hb)
  replace RX := Lib.hid (RX.out.keep hb)
  replace RY := Lib.hid (RY.out.keep hb)
  replace HB := Lib.hid (below_seq HB.out hb)
  clear hb rz
  go_wp2_with fail
  refine (lock_r _).mono ?_
  rintro r w6 ⟨⟨A2, B2, c2, d2, rfl, rl⟩, hb⟩
  have RL := Lib.hid rl
  replace HW := Lib.hid (HW.out.keep hb)
  replace RX := Lib.hid (RX.out.keep hb)
  replace RY := Lib.hid (RY.out.keep hb)
  replace RZ := Lib.hid (RZ.out.keep hb)
  replace HB := Lib.hid (below_seq HB.out hb)
  clear hb rl
  go_wp2_with fail
  refine (awk5 RL.out).mono ?_
  rintro r w7 ⟨⟨X5, Y5, nx, out, x5, y5, rfl, rn, ro, hn, ho, ho0⟩, hb⟩
  have RN := Lib.hid rn
  have RO := Lib.hid ro
  replace HW := Lib.hid (HW.out.keep hb)
  replace RX := Lib.hid (RX.out.keep hb)
  replace RY := Lib.hid (RY.out.keep hb)
  replace RZ := Lib.hid (RZ.out.keep hb)
  replace RL := Lib.hid (RL.out.keep hb)
  replace HB := Lib.hid (below_seq HB.out hb)
  clear hb rn ro
  clear RL
  go_upto_region 7 with fail
  generalize hwb : World.alloc _ _ = w8
  have hb : Below w7.heap.size w7 w8 := by rw [← hwb]; exact (Below.refl _ _).alloc (Nat.le_refl _) _
  have BX : Hid (Blk w8 w7.heap.size 52 #[.int .i64 4, .int .i64 0, .slice X5 3 x5, .slice Y5 3 y5]) := Lib.hid (by rw [← hwb]; exact Blk.new _ _ _)
  clear hwb
  replace HW := Lib.hid (HW.out.keep hb)
  replace RX := Lib.hid (RX.out.keep hb)
  replace RY := Lib.hid (RY.out.keep hb)
  replace RZ := Lib.hid (RZ.out.keep hb)
  replace RN := Lib.hid (RN.out.keep hb)
  replace RO := Lib.hid (RO.out.keep hb)
  replace HB := Lib.hid (below_seq HB.out hb)
  clear hb
  generalize w7.heap.size = gb at BX ⊢
  have b2 : w8.cell? ⟨gb, 2, none⟩ = some (.slice X5 3 x5) := BX.out.cell 2
  have b3 : w8.cell? ⟨gb, 3, none⟩ = some (.slice Y5 3 y5) := BX.out.cell 3
  obtain ⟨ad, Z5, z5, o0, hY5, ho1, co, ro0⟩ := RO.out.at_ (i := 0) (by omega)
  subst hY5
  obtain rfl : o0 = [1, 0, 1, 0] := by rw [← ho1, ho0]
  have co' : w8.cell? ad = some (.slice Z5 4 z5) := by rw [ad_zero] at co; exact co
  have RO0 := Lib.hid ro0
  clear ho1 ro0
  go_wp2_with fail
  refine (ints_b Z5 (some ⟨_, 0, none⟩) 4 4 z5 4 [1, 0, 1, 0] [1, 0, 1, 0] _ rfl rfl (RO0.out.keep ((Below.refl _ _).alloc (Nat.le_refl _) _)) (lit_rd (Blk.new _ _ _) [1, 0, 1, 0] rfl (by decide))).mono ?_
  rintro r w9 ⟨rfl, hb⟩
  replace hb := below_lit hb
  replace HW := Lib.hid (HW.out.keep hb)
  replace RX := Lib.hid (RX.out.keep hb)
  replace RY := Lib.hid (RY.out.keep hb)
  replace RZ := Lib.hid (RZ.out.keep hb)
  replace RN := Lib.hid (RN.out.keep hb)
  replace RO := Lib.hid (RO.out.keep hb)
  replace RO0 := Lib.hid (RO0.out.keep hb)
  replace HB := Lib.hid (below_seq HB.out hb)
  clear hb
  clear RO0 RO RN BX b2 b3 co co' hn ho ho0 nx out
  go_upto_region 10 with fail
  generalize hwb : World.alloc _ _ = w10
  have hb : Below w9.heap.size w9 w10 := by rw [← hwb]; exact (Below.refl _ _).alloc (Nat.le_refl _) _
  have HV : Hid (Rd2 w10 (some ⟨w9.heap.size, 0, none⟩) awV) := Lib.hid (by rw [← hwb]; exact lit_rd2 (Blk.new _ _ _) awV aw_cells2 (by decide))
  clear hwb
  replace HW := Lib.hid (HW.out.keep hb)
  replace RX := Lib.hid (RX.out.keep hb)
  replace RY := Lib.hid (RY.out.keep hb)
  replace RZ := Lib.hid (RZ.out.keep hb)
  replace HB := Lib.hid (below_seq HB.out hb)
  clear hb
  generalize w9.heap.size = gv at HV ⊢
  go_wp2_with fail
  refine (ints_b X1 (some ⟨_, 0, none⟩) 3 3 x1 3 [0, 2, 1] [0, 2, 1] _ rfl rfl (RX.out.keep ((Below.refl _ _).alloc (Nat.le_refl _) _)) (lit_rd (Blk.new _ _ _) [0, 2, 1] rfl (by decide))).mono ?_
  rintro r w11 ⟨rfl, hb⟩
  replace hb := below_lit hb
  replace HW := Lib.hid (HW.out.keep hb)
  replace RX := Lib.hid (RX.out.keep hb)
  replace RY := Lib.hid (RY.out.keep hb)
  replace RZ := Lib.hid (RZ.out.keep hb)
  replace HV := Lib.hid (HV.out.keep hb)
  replace HB := Lib.hid (below_seq HB.out hb)
  clear hb
  go_wp2_with fail
  refine (ints_b X2 (some ⟨_, 0, none⟩) 3 3 x2 3 [0, 3, 4] [0, 3, 4] _ rfl rfl (RY.out.keep ((Below.refl _ _).alloc (Nat.le_refl _) _)) (lit_rd (Blk.new _ _ _) [0, 3, 4] rfl (by decide))).mono ?_
  rintro r w12 ⟨rfl, hb⟩
  replace hb := below_lit hb
  replace HW := Lib.hid (HW.out.keep hb)
  replace RX := Lib.hid (RX.out.keep hb)
  replace RY := Lib.hid (RY.out.keep hb)
  replace RZ := Lib.hid (RZ.out.keep hb)
  replace HV := Lib.hid (HV.out.keep hb)
  replace HB := Lib.hid (below_seq HB.out hb)
  clear hb
  go_wp2_with fail
  refine (data_b X4 (some ⟨gv, 0, none⟩) 3 3 x4 3 awV awV _ rfl rfl RZ.out HV.out).mono ?_
  rintro r w13 ⟨rfl, hb⟩
  replace HW := Lib.hid (HW.out.keep hb)
  replace RX := Lib.hid (RX.out.keep hb)
  replace RY := Lib.hid (RY.out.keep hb)
  replace RZ := Lib.hid (RZ.out.keep hb)
  replace HV := Lib.hid (HV.out.keep hb)
  replace HB := Lib.hid (below_seq HB.out hb)
  clear hb
  go_wp2_with fail
  refine (awk6 HW.out).mono ?_
  rintro r w14 ⟨⟨X6, x6, rfl, rc⟩, hb⟩
  have RC := Lib.hid rc
  replace HW := Lib.hid (HW.out.keep hb)
  replace RX := Lib.hid (RX.out.keep hb)
  replace RY := Lib.hid (RY.out.keep hb)
  replace RZ := Lib.hid (RZ.out.keep hb)
  replace HV := Lib.hid (HV.out.keep hb)
  replace HB := Lib.hid (below_seq HB.out hb)
  clear hb rc
  go_wp2_with fail
  refine (data_b X6 (some ⟨gv, 0, none⟩) 3 3 x6 3 awV awV _ rfl rfl RC.out HV.out).mono ?_
  rintro r w15 ⟨rfl, hb⟩
  replace HW := Lib.hid (HW.out.keep hb)
  replace RX := Lib.hid (RX.out.keep hb)
  replace RY := Lib.hid (RY.out.keep hb)
  replace RZ := Lib.hid (RZ.out.keep hb)
  replace HV := Lib.hid (HV.out.keep hb)
  replace RC := Lib.hid (RC.out.keep hb)
  replace HB := Lib.hid (below_seq HB.out hb)
  clear hb
  go_wp2_with fail
  refine (lock_r _).mono ?_
  rintro r w16 ⟨⟨A3, B3, c3, d3, rfl, rl⟩, hb⟩
  have RL := Lib.hid rl
  replace HW := Lib.hid (HW.out.keep hb)
  replace RX := Lib.hid (RX.out.keep hb)
  replace RY := Lib.hid (RY.out.keep hb)
  replace RZ := Lib.hid (RZ.out.keep hb)
  replace HV := Lib.hid (HV.out.keep hb)
  replace RC := Lib.hid (RC.out.keep hb)
  replace HB := Lib.hid (below_seq HB.out hb)
  clear hb rl
  go_wp2_with fail
  refine (awk7 RL.out).mono ?_
  rintro r w17 ⟨rfl, hb⟩
  replace HW := Lib.hid (HW.out.keep hb)
  replace RX := Lib.hid (RX.out.keep hb)
  replace RY := Lib.hid (RY.out.keep hb)
  replace RZ := Lib.hid (RZ.out.keep hb)
  replace HV := Lib.hid (HV.out.keep hb)
  replace RC := Lib.hid (RC.out.keep hb)
  replace RL := Lib.hid (RL.out.keep hb)
  replace HB := Lib.hid (below_seq HB.out hb)
  clear hb
  go_wp2_with fail
  go_ret
  exact ⟨rfl, HB.out⟩
end Go.Proofs.Ytaoebjabdejpoaa
