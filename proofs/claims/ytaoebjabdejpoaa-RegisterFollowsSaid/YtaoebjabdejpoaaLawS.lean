/- The walk of the statement RegisterSymbols. -/
import Derived.Test.YtaoebjabdejpoaaAwk
import Derived.Test.YtaoebjabdejpoaaLawR
namespace Go.Proofs.Ytaoebjabdejpoaa
open Go.RowKit

section
variable {w : World} {x a d : Int} {L : List Int} {ws : Rg.Dw} {A : Option Addr} {c : Nat}
theorem symP_e (hE : Rg.symE ws a d = (x, L)) (hR : Rd2 w A ws) (hwf : WfW ws) (hlen : ws.length ≤ 2000) :
    Calls Try.prog 16 #[.slice A ws.length c, .int .i64 a, .int .i64 d] w fun r w' => (∃ A c, r = .returned (.tuple #[.slice A L.length c, .int .i64 x]) ∧ Rd w' A L) ∧ Below w.heap.size w w' := by
  have h := symP_t ws a d A c w hR hwf hlen
  rw [hE] at h; exact h
theorem symR_e (hE : Rg.symE ws a d = (x, L)) (hR : Rd2 w A ws) (hlen : ws.length ≤ 2000) :
    Calls Try.prog 17 #[.slice A ws.length c, .int .i64 a, .int .i64 d] w fun r w' => (∃ A c, r = .returned (.tuple #[.slice A L.length c, .int .i64 x]) ∧ Rd w' A L) ∧ Below w.heap.size w w' := by
  have h := symR_t ws a d A c w hR hlen
  rw [hE] at h; exact h
end
set_option maxRecDepth 100000 in
set_option maxHeartbeats 8000000 in
theorem registerSymbols_core (C : Option Addr) (e : Nat) (ws : Rg.Dw) (a d : Int) (w : World) (hW : Rd2 w C ws) (hwf : WfW ws) :
    Calls Try.prog 4 #[.slice C ws.length e, .agg #[.int .i64 a, .int .i64 d]] w fun e w' => e = .returned (.bool true) ∧ Below w.heap.size w w' := by
  have ml := hW.1
  obtain ⟨x, L, hE⟩ : ∃ x L, Rg.symE ws a d = (x, L) := ⟨_, _, rfl⟩
  have HE := Lib.hid hE
  clear hE
  have HF := Lib.hid hwf
  clear hwf
  go_enter Try.func4, Try.ntmps4
  go_upto_region 1 with fail
  generalize hwb : World.alloc _ _ = w0
  have BX : Hid (Blk w0 w.heap.size 38 #[.int .i64 a, .int .i64 d]) := Lib.hid (by rw [← hwb]; exact Blk.new _ _ _)
  have HBL : Hid (Below w.heap.size w w0) := Lib.hid (by rw [← hwb]; exact (Below.refl _ _).alloc (Nat.le_refl _) _)
  clear hwb
  have HW := Lib.hid (hW.keep HBL.out)
  clear hW
  by_cases hl : (1100 : Int) < (ws.length : Int)
  · skip
    go_wp2_with fail
    refine (awake_p _).mono ?_
    rintro r wz ⟨rfl, hb⟩
    replace HBL := Lib.hid (below_seq HBL.out hb)
    go_wp2_with fail
    go_ret
    exact ⟨rfl, HBL.out⟩
  have n0 : w0.cell? ⟨w.heap.size, 0, none⟩ = some (.int .i64 a) := BX.out.cell 0
  have n1 : w0.cell? ⟨w.heap.size, 1, none⟩ = some (.int .i64 d) := BX.out.cell 1
  have hl2 : ws.length ≤ 2000 := by omega
  have e1 : (x == x) = true := beq_self_eq_true x
  have e2 : decide (x = x) = true := decide_eq_true rfl
  go_wp2_with fail
  refine (symP_e HE.out HW.out HF.out hl2).mono ?_
  rintro r w1 ⟨⟨X, cx, rfl, hX⟩, hb⟩
  have HX := Lib.hid hX
  replace BX := Lib.hid (BX.out.keep hb)
  replace HW := Lib.hid (HW.out.keep hb)
  replace HBL := Lib.hid (below_seq HBL.out hb)
  clear hb hX
  clear n0 n1
  have n0 : w1.cell? ⟨w.heap.size, 0, none⟩ = some (.int .i64 a) := BX.out.cell 0
  have n1 : w1.cell? ⟨w.heap.size, 1, none⟩ = some (.int .i64 d) := BX.out.cell 1
  go_wp2_with fail
  refine (symR_e HE.out HW.out hl2).mono ?_
  rintro r w2 ⟨⟨Y, cy, rfl, hY⟩, hb⟩
  have HY := Lib.hid hY
  replace BX := Lib.hid (BX.out.keep hb)
  replace HW := Lib.hid (HW.out.keep hb)
  replace HX := Lib.hid (HX.out.keep hb)
  replace HBL := Lib.hid (below_seq HBL.out hb)
  clear hb hY
  clear n0 n1
  go_wp2_with fail
  refine (canP_t ws C e _ HW.out HF.out hl2).mono ?_
  rintro r w3 ⟨⟨U, cu, rfl, hU⟩, hb⟩
  have HU := Lib.hid hU
  replace BX := Lib.hid (BX.out.keep hb)
  replace HW := Lib.hid (HW.out.keep hb)
  replace HX := Lib.hid (HX.out.keep hb)
  replace HY := Lib.hid (HY.out.keep hb)
  replace HBL := Lib.hid (below_seq HBL.out hb)
  clear hb hU
  go_wp2_with fail
  refine (canR_t ws C e _ HW.out hl2).mono ?_
  rintro r w4 ⟨⟨V, cv, rfl, hV⟩, hb⟩
  have HV := Lib.hid hV
  replace BX := Lib.hid (BX.out.keep hb)
  replace HW := Lib.hid (HW.out.keep hb)
  replace HX := Lib.hid (HX.out.keep hb)
  replace HY := Lib.hid (HY.out.keep hb)
  replace HU := Lib.hid (HU.out.keep hb)
  replace HBL := Lib.hid (below_seq HBL.out hb)
  clear hb hV
  go_wp2_with fail
  refine (data_t HU.out HV.out).mono ?_
  rintro r w5 ⟨rfl, hb⟩
  replace BX := Lib.hid (BX.out.keep hb)
  replace HW := Lib.hid (HW.out.keep hb)
  replace HX := Lib.hid (HX.out.keep hb)
  replace HY := Lib.hid (HY.out.keep hb)
  replace HU := Lib.hid (HU.out.keep hb)
  replace HV := Lib.hid (HV.out.keep hb)
  replace HBL := Lib.hid (below_seq HBL.out hb)
  clear hb
  clear HU HV
  go_wp2_with fail
  refine (ints_t HX.out HY.out).mono ?_
  rintro r w6 ⟨rfl, hb⟩
  replace BX := Lib.hid (BX.out.keep hb)
  replace HW := Lib.hid (HW.out.keep hb)
  replace HX := Lib.hid (HX.out.keep hb)
  replace HY := Lib.hid (HY.out.keep hb)
  replace HBL := Lib.hid (below_seq HBL.out hb)
  clear hb
  clear HX HY
  go_wp2_with fail
  refine (awake_p _).mono ?_
  rintro r w7 ⟨rfl, hb⟩
  replace BX := Lib.hid (BX.out.keep hb)
  replace HW := Lib.hid (HW.out.keep hb)
  replace HBL := Lib.hid (below_seq HBL.out hb)
  clear hb
  go_wp2_with fail
  go_ret
  exact ⟨rfl, HBL.out⟩
theorem registerSymbols_walk (w : World) (A0 : Option Addr) (c0 : Nat) (x0 : Rg.Dw) (a1 a2 : Int) (r0 : Rd2 w A0 x0) (w0 : WfW x0) (_ : (Lit.int .i64 a1).wf = true) (_ : (Lit.int .i64 a2).wf = true) :
    Calls Try.prog 4 #[.slice A0 x0.length c0, .agg #[.int .i64 a1, .int .i64 a2]] w fun e w' => e = .returned (.bool true) ∧ Below w.heap.size w w' :=
  registerSymbols_core A0 c0 x0 a1 a2 w r0 w0
end Go.Proofs.Ytaoebjabdejpoaa
