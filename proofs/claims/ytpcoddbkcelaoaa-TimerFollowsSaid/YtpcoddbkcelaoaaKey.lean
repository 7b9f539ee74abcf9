/- The code's configurations as keys of a map. -/
import Derived.Test.YtpcoddbkcelaoaaReg
import Derived.Maps.Own
import Derived.Maps.OwnSet
import Derived.Maps.Views
import Derived.DeepKeys4
namespace Go.Proofs.Ytpcoddbkcelaoaa
open Go.RowKit

theorem pl_keyed : Maps.Keyed Try.prog 66 := Maps.Keyed.of_law (deep_law_laid (by kernel_rfl) (m := 20) (by omega) (of_decide_eq_true (by kernel_rfl)) (by kernel_rfl) (by kernel_rfl))
theorem key_ex (c : Tm.Cfg) (h : c.1 ≤ 9223372036854775807) : ∃ l, keyOf Try.prog 66 (.agg (pc c)) = some l := by
  have hk : Try.prog.keyType 66 = true := by kernel_rfl
  have hc : Try.prog.cellsOf 66 = 5 := by kernel_rfl
  have hc1 : Try.prog.cellsOf 3 = 1 := by kernel_rfl
  have hc2 : Try.prog.cellsOf 64 = 4 := by kernel_rfl
  have hc3 : Try.prog.cellsOf 4 = 1 := by kernel_rfl
  have hmin : IntKind.i64.min = -9223372036854775808 := by kernel_rfl
  have hmax : IntKind.i64.max = 9223372036854775807 := by kernel_rfl
  have hwf : (Lit.int .i64 (c.1 : Int)).wf = true := by
    show (decide (IntKind.i64.min ≤ (c.1 : Int)) && decide ((c.1 : Int) ≤ IntKind.i64.max)) = true
    rw [hmin, hmax, decide_eq_true (by omega), decide_eq_true (by omega)]; rfl
  have h3 : decide (3 ≤ Try.prog.types.size) = true := by kernel_rfl
  have h3' := of_decide_eq_true h3
  obtain ⟨d, hd⟩ : ∃ d, Try.prog.types.size = d + 3 := ⟨Try.prog.types.size - 3, by omega⟩
  clear h3 h3' hmin hmax
  unfold keyOf
  rw [Try.underlying66, hd]
  simp only [hk, Value.formed, Try.underlying66, hc, pc, Value.cells]
  simp [Program.keyLits, Try.underlying66, Try.underlying64, Try.underlying3, Try.underlying4, hc, hc1, hc2, hc3, hwf, List.range_succ]
/-- the key of a configuration -/
noncomputable def keyC (c : Tm.Cfg) : Lit := if h : c.1 ≤ 9223372036854775807 then (key_ex c h).choose else .bool false
theorem keyC_of {c : Tm.Cfg} (h : c.1 ≤ 9223372036854775807) : keyOf Try.prog 66 (.agg (pc c)) = some (keyC c) := by
  unfold keyC; rw [dif_pos h]; exact (key_ex c h).choose_spec
theorem list4 {a b : List Bool} (ha : a.length ≤ 4) (hl : a.length = b.length) (h0 : a.getD 0 false = b.getD 0 false) (h1 : a.getD 1 false = b.getD 1 false) (h2 : a.getD 2 false = b.getD 2 false) (h3 : a.getD 3 false = b.getD 3 false) : a = b := by
  apply List.ext_getElem hl
  intro i hi hj
  have key : a.getD i false = b.getD i false := by
    rcases i with _ | _ | _ | _ | i
    · exact h0
    · exact h1
    · exact h2
    · exact h3
    · omega
  rw [List.getD_eq_getElem?_getD, List.getD_eq_getElem?_getD, List.getElem?_eq_getElem hi, List.getElem?_eq_getElem hj] at key
  simpa using key
theorem keyC_inj {n T : Nat} {c d : Tm.Cfg} (hc : Tm.CfgOk n T c) (hd : Tm.CfgOk n T d) (hn : n ≤ 128) (hT : T ≤ 4) (e : keyC c = keyC d) : c = d := by
  have h1 := keyC_of (c := c) (by have := hc.1; omega)
  have h2 := keyC_of (c := d) (by have := hd.1; omega)
  rw [← e] at h2
  have h3 := pl_keyed.inj h1 h2
  have h4 : pc c = pc d := Value.agg.inj h3
  have g0 : (pc c)[0]? = (pc d)[0]? := by rw [h4]
  have g1 : (pc c)[1]? = (pc d)[1]? := by rw [h4]
  have g2 : (pc c)[2]? = (pc d)[2]? := by rw [h4]
  have g3 : (pc c)[3]? = (pc d)[3]? := by rw [h4]
  have g4 : (pc c)[4]? = (pc d)[4]? := by rw [h4]
  have s1 : (c.1 : Int) = (d.1 : Int) := by have := Option.some.inj g0; injection this
  have b0 : c.2.getD 0 false = d.2.getD 0 false := by have := Option.some.inj g1; injection this
  have b1 : c.2.getD 1 false = d.2.getD 1 false := by have := Option.some.inj g2; injection this
  have b2 : c.2.getD 2 false = d.2.getD 2 false := by have := Option.some.inj g3; injection this
  have b3 : c.2.getD 3 false = d.2.getD 3 false := by have := Option.some.inj g4; injection this
  clear h1 h2 h3
  have hl : c.2.length = d.2.length := by rw [hc.2, hd.2]
  exact Prod.ext (by omega) (list4 (by rw [hc.2]; exact hT) hl b0 b1 b2 b3)
end Go.Proofs.Ytpcoddbkcelaoaa
