/- The walk of the statement RegisterData. -/
import Derived.Test.YtaoebjabdejpoaaAwk
import Derived.Test.YtaoebjabdejpoaaLawR
namespace Go.Proofs.Ytaoebjabdejpoaa
open Go.RowKit

section
variable {w : World} {x a d : Int} {L : Rg.Dw} {ws : List Int} {A : Option Addr} {c : Nat}
theorem datP_e (hE : Rg.datX ws a d = (x, L)) (hR : Rd w A ws) :
    Calls Try.prog 21 #[.slice A ws.length c, .int .i64 a, .int .i64 d] w fun r w' => (∃ A c, r = .returned (.tuple #[.slice A L.length c, .int .i64 x]) ∧ Rd2 w' A L) ∧ Below w.heap.size w w' := by
  have h := datP_t ws a d A c w hR
  rw [hE] at h; exact h
theorem datR_e (hE : Rg.datX ws a d = (x, L)) (hR : Rd w A ws) :
    Calls Try.prog 22 #[.slice A ws.length c, .int .i64 a, .int .i64 d] w fun r w' => (∃ A c, r = .returned (.tuple #[.slice A L.length c, .int .i64 x]) ∧ Rd2 w' A L) ∧ Below w.heap.size w w' := by
  have h := datR_t ws a d A c w hR
  rw [hE] at h; exact h
end
set_option maxRecDepth 100000 in
set_option maxHeartbeats 8000000 in
theorem registerData_core (C : Option Addr) (e : Nat) (ws : List Int) (a d : Int) (w : World) (hW : Rd w C ws) :
    Calls Try.prog 5 #[.slice C ws.length e, .agg #[.int .i64 a, .int .i64 d]] w fun e w' => e = .returned (.bool true) ∧ Below w.heap.size w w' := by
  have ml := hW.1
  obtain ⟨x, L, hE⟩ : ∃ x L, Rg.datX ws a d = (x, L) := ⟨_, _, rfl⟩
  have HE := Lib.hid hE
  clear hE
  go_enter Try.func5, Try.ntmps5
  go_upto_region 1 with fail
  generalize hwb : World.alloc _ _ = w0
  have BX : Hid (Blk w0 w.heap.size 38 #[.int .i64 a, .int .i64 d]) := Lib.hid (by rw [← hwb]; exact Blk.new _ _ _)
  have HBL : Hid (Below w.heap.size w w0) := Lib.hid (by rw [← hwb]; exact (Below.refl _ _).alloc (Nat.le_refl _) _)
  clear hwb
  have HW := Lib.hid (hW.keep HBL.out)
  clear hW
  by_cases hl : (1100 : Int) < (ws.length : Int)
  · skip
    go_wp2_with fail
    refine (awake_p _).mono ?_
    rintro r wz ⟨rfl, hb⟩
    replace HBL := Lib.hid (below_seq HBL.out hb)
    go_wp2_with fail
    go_ret
    exact ⟨rfl, HBL.out⟩
  have n0 : w0.cell? ⟨w.heap.size, 0, none⟩ = some (.int .i64 a) := BX.out.cell 0
  have n1 : w0.cell? ⟨w.heap.size, 1, none⟩ = some (.int .i64 d) := BX.out.cell 1
  have e1 : (x == x) = true := beq_self_eq_true x
  have e2 : decide (x = x) = true := decide_eq_true rfl
  go_wp2_with fail
  refine (datP_e HE.out HW.out).mono ?_
  rintro r w1 ⟨⟨X, cx, rfl, hX⟩, hb⟩
  have HX := Lib.hid hX
  replace BX := Lib.hid (BX.out.keep hb)
  replace HW := Lib.hid (HW.out.keep hb)
  replace HBL := Lib.hid (below_seq HBL.out hb)
  clear hb hX
  clear n0 n1
  have n0 : w1.cell? ⟨w.heap.size, 0, none⟩ = some (.int .i64 a) := BX.out.cell 0
  have n1 : w1.cell? ⟨w.heap.size, 1, none⟩ = some (.int .i64 d) := BX.out.cell 1
  go_wp2_with fail
  refine (datR_e HE.out HW.out).mono ?_
  rintro r w2 ⟨⟨Y, cy, rfl, hY⟩, hb⟩
  have HY := Lib.hid hY
  replace BX := Lib.hid (BX.out.keep hb)
  replace HW := Lib.hid (HW.out.keep hb)
  replace HX := Lib.hid (HX.out.keep hb)
  replace HBL := Lib.hid (below_seq HBL.out hb)
  clear hb hY
  clear n0 n1
  go_wp2_with fail
  refine (data_t HX.out HY.out).mono ?_
  rintro r w3 ⟨rfl, hb⟩
  replace BX := Lib.hid (BX.out.keep hb)
  replace HW := Lib.hid (HW.out.keep hb)
  replace HX := Lib.hid (HX.out.keep hb)
  replace HY := Lib.hid (HY.out.keep hb)
  replace HBL := Lib.hid (below_seq HBL.out hb)
  clear hb
  clear HX HY
  go_wp2_with fail
  refine (awake_p _).mono ?_
  rintro r w4 ⟨rfl, hb⟩
  replace BX := Lib.hid (BX.out.keep hb)
  replace HW := Lib.hid (HW.out.keep hb)
  replace HBL := Lib.hid (below_seq HBL.out hb)
  clear hb
  go_wp2_with fail
  go_ret
  exact ⟨rfl, HBL.out⟩
theorem registerData_walk (w : World) (A0 : Option Addr) (c0 : Nat) (x0 : List Int) (a1 a2 : Int) (r0 : Rd w A0 x0) (_ : Wf .i64 x0) (_ : (Lit.int .i64 a1).wf = true) (_ : (Lit.int .i64 a2).wf = true) :
    Calls Try.prog 5 #[.slice A0 x0.length c0, .agg #[.int .i64 a1, .int .i64 a2]] w fun e w' => e = .returned (.bool true) ∧ Below w.heap.size w w' :=
  registerData_core A0 c0 x0 a1 a2 w r0
end Go.Proofs.Ytaoebjabdejpoaa
