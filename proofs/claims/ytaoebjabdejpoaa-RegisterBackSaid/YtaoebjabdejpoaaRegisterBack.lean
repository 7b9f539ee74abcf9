/- The statement 'RegisterBackSaid': the walk 'registerBack_walk' carried to the given form. No condition of its own. -/
import Derived.Test.YtaoebjabdejpoaaRows
import Derived.Test.YtaoebjabdejpoaaOpenS
import Derived.Test.YtaoebjabdejpoaaOpenT
import Derived.Test.YtaoebjabdejpoaaLawB
namespace Go.Proofs.Ytaoebjabdejpoaa.registerBack
open Go.ChangeShapes Go.WideShapes Go.ChangeAt Go.RowKit
open Go.ChangeMaps (open_string shut_string)
set_option linter.unusedVariables false

theorem own : ownKnob Try.prog.godebug = none := by kernel_rfl
theorem laidOut : laidOutB Try.prog = true := by kernel_rfl

theorem len2 {α : Type} (l : List α) (h : l.length = 2) : ∃ x0 x1, l = [x0, x1] := by
  match l, h with
  | [x0, x1], _ => exact ⟨x0, x1, rfl⟩

set_option maxRecDepth 100000 in
set_option maxHeartbeats 1000000 in
theorem lifted (os : Os) (started : os.Started) (H : Type) (enc : TypeId × Value → H) :
    ReturnsInHanded {} Try.checked os 7 .any (Rows.registerBackSpec.pre6 enc Try.prog Try.f7 Rows.registerBackRow.domain false) (Rows.registerBackSpec.post enc Try.prog Try.f7 false true false false) := by
  refine returnsInHanded_of_change (C := Try.checked) own started (by kernel_rfl) Try.func7
    (ChangeSpec.witness6 (enc := enc) (C := Try.checked) false ⟨#[], #[.slice none 0 0, .agg #[.int .i64 0, .int .i64 0]], []⟩ 8 (by kernel_rfl) (by kernel_rfl) (by kernel_rfl) (by kernel_rfl)) ?_
  intro W base args ds gs before hval0 hW hcnd _
  have hval : ∀ (j : Nat) t v, Try.f7.params[j]? = some t → args[j]? = some v → Value.okWide Try.prog W .any base t v := hval0
  have hW' := hW
  obtain ⟨p, q, hA0, hV, rfl, hfz, hnd⟩ := hW
  have hA : DataW.TrodAll enc Try.prog W 0 (fun _ => true) true Try.f7.params.toList args.toList ds p := hA0
  rw [Try.params7] at hA hval
  obtain ⟨v0, vs0, d0, ds0, p0, q0, hargs, rfl, rfl, h0, r0⟩ := trodAll_cons hA
  obtain ⟨v1, vs1, d1, ds1, p1, q1, rfl, rfl, rfl, h1, r1⟩ := trodAll_cons r0
  obtain ⟨rfl, rfl, rfl⟩ := trodAll_nil r1
  obtain rfl : args = #[v0, v1] := by cases args; simp_all
  obtain ⟨rfl, rfl⟩ := trodVars_none hV
  have k0 := h0
  have lt0 : ∀ x ∈ p0, x.block < W.heap.size := by obtain ⟨m, hm⟩ := k0; exact DataW.trod_lt m _ _ _ hm
  have k1 := h1
  have lt1 : ∀ x ∈ p1, x.block < W.heap.size := by obtain ⟨m, hm⟩ := k1; exact DataW.trod_lt m _ _ _ hm
  obtain ⟨A0, c0, x0, rfl, r0_, w0⟩ := open_prs Try.underlying26 Try.underlying63 (by kernel_rfl) rfl rfl rfl rfl rfl rfl Try.underlying3 Try.underlying3 (by kernel_rfl) (by kernel_rfl) (hval 0 26 v0 rfl rfl) h0
  obtain ⟨cs1, rfl, hsz1⟩ := okWide_struct Try.underlying38 (hval 1 38 v1 rfl rfl)
  obtain ⟨l1⟩ := cs1
  have ck1 : Try.prog.cellsOf 38 = 2 := by kernel_rfl
  rw [ck1] at hsz1
  obtain ⟨c1_0, c1_1, rfl⟩ := len2 l1 hsz1
  obtain ⟨m1, hm1⟩ := h1
  have hm1' : DataW.trod enc Try.prog W 0 (fun _ => true) true m1 38 [c1_0, c1_1] = some (d1, p1) := hm1
  obtain ⟨ys1, n1, _, _, _, hl1, hf1⟩ := DataW.trod_struct Try.underlying38 hm1'
  have hl1' : ys1.length = 2 := hl1
  obtain ⟨y1_0, t1_0⟩ : ∃ y, DataW.trod enc Try.prog W 0 (fun _ => true) true n1 3 [c1_0] = some y := field_at hf1 0 _ 3 0 1 rfl rfl rfl (by kernel_rfl) (by omega)
  obtain ⟨a1, rfl, w1⟩ := leaf_int Try.underlying3 t1_0
  obtain ⟨y1_1, t1_1⟩ : ∃ y, DataW.trod enc Try.prog W 0 (fun _ => true) true n1 3 [c1_1] = some y := field_at hf1 1 _ 3 1 1 rfl rfl rfl (by kernel_rfl) (by omega)
  obtain ⟨a2, rfl, w2⟩ := leaf_int Try.underlying3 t1_1
  clear hA0 hval0
  refine (registerBack_walk W A0 c0 x0 a1 a2 r0_ w0 w1 w2).mono fun e W' ⟨he, bel⟩ => ?_
  subst he
  exact ⟨_, rfl, _, _, _, [], _, [], hW', trodAll_mk1 (shut_bool Try.underlying4 _), (trodAll_cons_mk (Below.trod laidOut (by kernel_rfl) (of_decide_eq_true (by kernel_rfl)) k0 bel lt0) (trodAll_cons_mk (Below.trod laidOut (by kernel_rfl) (of_decide_eq_true (by kernel_rfl)) k1 bel lt1) trodAll_mk0)), rfl, bel.frame _, fun h => by cases h⟩

theorem over : Rows.registerBackRow.holds Try.pinned (OpenSpec.ofChange Rows.registerBackSpec) :=
  OpenClaim.holds_of_wide 7 Try.f7 rfl rfl rfl rfl rfl rfl rfl ⟨rfl, rfl, rfl, rfl, rfl⟩ rfl rfl rfl rfl rfl (by kernel_rfl) Try.func7 (by kernel_rfl)
    (of_decide_eq_true (by kernel_rfl)) (by unfold Func.isWrapper; first | (rw [if_pos (by decide +kernel)]; kernel_rfl) | (rw [if_neg (by decide +kernel)]; exact ⟨rfl, rfl⟩))
    (fun os started H enc _ => lifted os started H enc)

theorem proved : Rows.RegisterBackSaid := over
#print axioms proved
end Go.Proofs.Ytaoebjabdejpoaa.registerBack

