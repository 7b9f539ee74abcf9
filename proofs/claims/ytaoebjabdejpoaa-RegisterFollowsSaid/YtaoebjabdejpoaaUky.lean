/- The code's states of the unfolding as keys of its map. -/
import Derived.Test.YtaoebjabdejpoaaUst
namespace Go.Proofs.Ytaoebjabdejpoaa
open Go.RowKit

theorem st_keyed : Maps.Keyed Try.prog 82 := Maps.Keyed.of_law (deep_law_laid (by kernel_rfl) (m := 20) (by omega) (of_decide_eq_true (by kernel_rfl)) (by kernel_rfl) (by kernel_rfl))
theorem uc_wf {m : Rg.M} {d : Nat} {c : Rg.Uc} (h : Rg.UcOk m d c) (hd : d ≤ 6) (i : Nat) : Wfi (c.2.1.getD i 0) := by
  rw [List.getD_eq_getElem?_getD]
  cases hg : c.2.1[i]? with
  | none => exact wf_small (n := 0) (by omega) (by omega)
  | some u => have := h.b u (List.mem_of_getElem? hg); exact wf_small (n := u) (by omega) (by omega)
theorem uc_key {m : Rg.M} {k s d : Nat} (hm : Rg.Ok m k s) (c : Rg.Uc) (h : Rg.UcOk m d c) (hd : d ≤ 6) : ∃ l, keyOf Try.prog 82 (.agg (ucs c)) = some l := by
  have hk : Try.prog.keyType 82 = true := by kernel_rfl
  have hc : Try.prog.cellsOf 82 = 6 := by kernel_rfl
  have hc1 : Try.prog.cellsOf 3 = 1 := by kernel_rfl
  have hc2 : Try.prog.cellsOf 66 = 4 := by kernel_rfl
  have hl := h.st.l
  have hn := h.n
  have hnb := hm.n128
  have w0 : (Lit.int .i64 (c.1 : Int)).wf = true := wf_small (by omega) (by omega)
  have w1 : (Lit.int .i64 (c.2.1.getD 0 0)).wf = true := uc_wf h hd 0
  have w2 : (Lit.int .i64 (c.2.1.getD 1 0)).wf = true := uc_wf h hd 1
  have w3 : (Lit.int .i64 (c.2.1.getD 2 0)).wf = true := uc_wf h hd 2
  have w4 : (Lit.int .i64 (c.2.1.getD 3 0)).wf = true := uc_wf h hd 3
  have w5 : (Lit.int .i64 (c.2.2 : Int)).wf = true := wf_small (by omega) (by omega)
  have h3 : decide (3 ≤ Try.prog.types.size) = true := by kernel_rfl
  have h3' := of_decide_eq_true h3
  obtain ⟨y, hy⟩ : ∃ y, Try.prog.types.size = y + 3 := ⟨Try.prog.types.size - 3, by omega⟩
  clear h3 h3' hl hn hnb
  unfold keyOf ucs
  generalize c.2.1.getD 0 0 = x0 at *
  generalize c.2.1.getD 1 0 = x1 at *
  generalize c.2.1.getD 2 0 = x2 at *
  generalize c.2.1.getD 3 0 = x3 at *
  rw [Try.underlying82, hy]
  simp only [hk, Value.formed, Try.underlying82, hc, Value.cells]
  simp [Program.keyLits, Try.underlying82, Try.underlying66, Try.underlying3, hc, hc1, hc2, w0, w1, w2, w3, w4, w5, List.range_succ]
theorem ints4 {a b : List Int} (ha : a.length ≤ 4) (hl : a.length = b.length) (h0 : a.getD 0 0 = b.getD 0 0) (h1 : a.getD 1 0 = b.getD 1 0) (h2 : a.getD 2 0 = b.getD 2 0) (h3 : a.getD 3 0 = b.getD 3 0) : a = b := by
  apply List.ext_getElem hl
  intro i hi hj
  have key : a.getD i 0 = b.getD i 0 := by
    rcases i with _ | _ | _ | _ | i
    · exact h0
    · exact h1
    · exact h2
    · exact h3
    · omega
  rw [List.getD_eq_getElem?_getD, List.getD_eq_getElem?_getD, List.getElem?_eq_getElem hi, List.getElem?_eq_getElem hj] at key
  simpa using key
theorem uc_kind {m : Rg.M} {k s d : Nat} (hm : Rg.Ok m k s) (hd : d ≤ 6) : KeyKind 82 84 (fun c => .agg (ucs c)) (Rg.UcOk m d) := by
  refine ⟨Try.underlying84, st_keyed, fun c hc => uc_key hm c hc hd, fun c e hc he h => ?_⟩
  have h4 : ucs c = ucs e := Value.agg.inj h
  have g0 : (ucs c)[0]? = (ucs e)[0]? := by rw [h4]
  have g1 : (ucs c)[1]? = (ucs e)[1]? := by rw [h4]
  have g2 : (ucs c)[2]? = (ucs e)[2]? := by rw [h4]
  have g3 : (ucs c)[3]? = (ucs e)[3]? := by rw [h4]
  have g4 : (ucs c)[4]? = (ucs e)[4]? := by rw [h4]
  have g5 : (ucs c)[5]? = (ucs e)[5]? := by rw [h4]
  have s0 : (c.1 : Int) = (e.1 : Int) := by have := Option.some.inj g0; injection this
  have s1 : c.2.1.getD 0 0 = e.2.1.getD 0 0 := by have := Option.some.inj g1; injection this
  have s2 : c.2.1.getD 1 0 = e.2.1.getD 1 0 := by have := Option.some.inj g2; injection this
  have s3 : c.2.1.getD 2 0 = e.2.1.getD 2 0 := by have := Option.some.inj g3; injection this
  have s4 : c.2.1.getD 3 0 = e.2.1.getD 3 0 := by have := Option.some.inj g4; injection this
  have s5 : (c.2.2 : Int) = (e.2.2 : Int) := by have := Option.some.inj g5; injection this
  have e1 : c.1 = e.1 := by omega
  have hl : c.2.1.length = e.2.1.length := by
    have a1 : (c.2.1.length : Int) = Rg.nr m c.1 := hc.st.r
    have a2 : (e.2.1.length : Int) = Rg.nr m e.1 := he.st.r
    rw [e1] at a1
    omega
  exact Prod.ext e1 (Prod.ext (ints4 (hc.st.r4 hm) hl s1 s2 s3 s4) (by omega))
end Go.Proofs.Ytaoebjabdejpoaa
