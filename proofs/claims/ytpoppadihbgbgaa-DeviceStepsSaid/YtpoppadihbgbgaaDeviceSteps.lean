/- The statement 'DeviceStepsSaid': the walk 'deviceSteps_walk' carried to the given form. No condition of its own. -/
import Derived.Test.YtpoppadihbgbgaaRows
import Derived.Test.YtpoppadihbgbgaaOpenS
import Derived.Test.YtpoppadihbgbgaaDev27
namespace Go.Proofs.Ytpoppadihbgbgaa.deviceSteps
open Go.ChangeShapes Go.WideShapes Go.ChangeAt Go.RowKit
open Go.ChangeMaps (open_string shut_string)
set_option linter.unusedVariables false

theorem own : ownKnob Try.prog.godebug = none := by kernel_rfl
theorem laidOut : laidOutB Try.prog = true := by kernel_rfl

theorem len15 {α : Type} (l : List α) (h : l.length = 15) : ∃ x0 x1 x2 x3 x4 x5 x6 x7 x8 x9 x10 x11 x12 x13 x14, l = [x0, x1, x2, x3, x4, x5, x6, x7, x8, x9, x10, x11, x12, x13, x14] := by
  match l, h with
  | [x0, x1, x2, x3, x4, x5, x6, x7, x8, x9, x10, x11, x12, x13, x14], _ => exact ⟨x0, x1, x2, x3, x4, x5, x6, x7, x8, x9, x10, x11, x12, x13, x14, rfl⟩

set_option maxRecDepth 100000 in
set_option maxHeartbeats 1000000 in
theorem lifted (os : Os) (started : os.Started) (H : Type) (enc : TypeId × Value → H) :
    ReturnsInHanded {} Try.checked os 3 .any (Rows.deviceStepsSpec.pre6 enc Try.prog Try.f3 Rows.deviceStepsRow.domain false) (Rows.deviceStepsSpec.post enc Try.prog Try.f3 false true false false) := by
  refine returnsInHanded_of_change (C := Try.checked) own started (by kernel_rfl) Try.func3
    (ChangeSpec.witness6 (enc := enc) (C := Try.checked) false ⟨#[], #[.agg #[.int .i64 0, .int .i64 0, .slice none 0 0, .slice none 0 0, .int .i64 0, .bool false, .slice none 0 0, .int .i64 0, .int .i64 0, .int .i64 0, .int .i64 0, .int .u64 0, .int .i64 0, .int .i64 0, .int .i64 0], .slice none 0 0], []⟩ 8 (by kernel_rfl) (by kernel_rfl) (by kernel_rfl) (by kernel_rfl)) ?_
  intro W base args ds gs before hval0 hW hcnd _
  have hval : ∀ (j : Nat) t v, Try.f3.params[j]? = some t → args[j]? = some v → Value.okWide Try.prog W .any base t v := hval0
  have hW' := hW
  obtain ⟨p, q, hA0, hV, rfl, hfz, hnd⟩ := hW
  have hA : DataW.TrodAll enc Try.prog W 0 (fun _ => true) true Try.f3.params.toList args.toList ds p := hA0
  rw [Try.params3] at hA hval
  obtain ⟨v0, vs0, d0, ds0, p0, q0, hargs, rfl, rfl, h0, r0⟩ := trodAll_cons hA
  obtain ⟨v1, vs1, d1, ds1, p1, q1, rfl, rfl, rfl, h1, r1⟩ := trodAll_cons r0
  obtain ⟨rfl, rfl, rfl⟩ := trodAll_nil r1
  obtain rfl : args = #[v0, v1] := by cases args; simp_all
  obtain ⟨rfl, rfl⟩ := trodVars_none hV
  have k0 := h0
  have lt0 : ∀ x ∈ p0, x.block < W.heap.size := by obtain ⟨m, hm⟩ := k0; exact DataW.trod_lt m _ _ _ hm
  have k1 := h1
  have lt1 : ∀ x ∈ p1, x.block < W.heap.size := by obtain ⟨m, hm⟩ := k1; exact DataW.trod_lt m _ _ _ hm
  obtain ⟨cs0, rfl, hsz0⟩ := okWide_struct Try.underlying32 (hval 0 32 v0 rfl rfl)
  obtain ⟨l0⟩ := cs0
  have ck0 : Try.prog.cellsOf 32 = 15 := by kernel_rfl
  rw [ck0] at hsz0
  obtain ⟨c0_0, c0_1, c0_2, c0_3, c0_4, c0_5, c0_6, c0_7, c0_8, c0_9, c0_10, c0_11, c0_12, c0_13, c0_14, rfl⟩ := len15 l0 hsz0
  obtain ⟨m0, hm0⟩ := h0
  have hm0' : DataW.trod enc Try.prog W 0 (fun _ => true) true m0 32 [c0_0, c0_1, c0_2, c0_3, c0_4, c0_5, c0_6, c0_7, c0_8, c0_9, c0_10, c0_11, c0_12, c0_13, c0_14] = some (d0, p0) := hm0
  obtain ⟨ys0, n0, _, _, _, hl0, hf0⟩ := DataW.trod_struct Try.underlying32 hm0'
  have hl0' : ys0.length = 9 := hl0
  obtain ⟨y0_0, t0_0⟩ : ∃ y, DataW.trod enc Try.prog W 0 (fun _ => true) true n0 24 [c0_0, c0_1, c0_2, c0_3] = some y := field_at hf0 0 _ 24 0 4 rfl rfl rfl (by kernel_rfl) (by omega)
  obtain ⟨ys0_0, n0_0, _, _, _, hl0_0, hf0_0⟩ := DataW.trod_struct Try.underlying24 t0_0
  have hl0_0' : ys0_0.length = 4 := hl0_0
  obtain ⟨y0_0_0, t0_0_0⟩ : ∃ y, DataW.trod enc Try.prog W 0 (fun _ => true) true n0_0 3 [c0_0] = some y := field_at hf0_0 0 _ 3 0 1 rfl rfl rfl (by kernel_rfl) (by omega)
  obtain ⟨a0, rfl, w0⟩ := leaf_int Try.underlying3 t0_0_0
  obtain ⟨y0_0_1, t0_0_1⟩ : ∃ y, DataW.trod enc Try.prog W 0 (fun _ => true) true n0_0 3 [c0_1] = some y := field_at hf0_0 1 _ 3 1 1 rfl rfl rfl (by kernel_rfl) (by omega)
  obtain ⟨a1, rfl, w1⟩ := leaf_int Try.underlying3 t0_0_1
  obtain ⟨y0_0_2, t0_0_2⟩ : ∃ y, DataW.trod enc Try.prog W 0 (fun _ => true) true n0_0 22 [c0_2] = some y := field_at hf0_0 2 _ 22 2 1 rfl rfl rfl (by kernel_rfl) (by omega)
  obtain ⟨A2, c2, x2, rfl, r2_, w2⟩ := leaf_mat Try.underlying22 Try.underlying25 Try.underlying3 (by kernel_rfl) (by kernel_rfl) t0_0_2
  obtain ⟨y0_0_3, t0_0_3⟩ : ∃ y, DataW.trod enc Try.prog W 0 (fun _ => true) true n0_0 22 [c0_3] = some y := field_at hf0_0 3 _ 22 3 1 rfl rfl rfl (by kernel_rfl) (by omega)
  obtain ⟨A3, c3, x3, rfl, r3_, w3⟩ := leaf_mat Try.underlying22 Try.underlying25 Try.underlying3 (by kernel_rfl) (by kernel_rfl) t0_0_3
  obtain ⟨y0_1, t0_1⟩ : ∃ y, DataW.trod enc Try.prog W 0 (fun _ => true) true n0 3 [c0_4] = some y := field_at hf0 1 _ 3 4 1 rfl rfl rfl (by kernel_rfl) (by omega)
  obtain ⟨a4, rfl, w4⟩ := leaf_int Try.underlying3 t0_1
  obtain ⟨y0_2, t0_2⟩ : ∃ y, DataW.trod enc Try.prog W 0 (fun _ => true) true n0 4 [c0_5] = some y := field_at hf0 2 _ 4 5 1 rfl rfl rfl (by kernel_rfl) (by omega)
  obtain ⟨a5, rfl⟩ := leaf_bool Try.underlying4 t0_2
  obtain ⟨y0_3, t0_3⟩ : ∃ y, DataW.trod enc Try.prog W 0 (fun _ => true) true n0 27 [c0_6, c0_7] = some y := field_at hf0 3 _ 27 6 2 rfl rfl rfl (by kernel_rfl) (by omega)
  obtain ⟨ys0_3, n0_3, _, _, _, hl0_3, hf0_3⟩ := DataW.trod_struct Try.underlying27 t0_3
  have hl0_3' : ys0_3.length = 2 := hl0_3
  obtain ⟨y0_3_0, t0_3_0⟩ : ∃ y, DataW.trod enc Try.prog W 0 (fun _ => true) true n0_3 25 [c0_6] = some y := field_at hf0_3 0 _ 25 0 1 rfl rfl rfl (by kernel_rfl) (by omega)
  obtain ⟨A6, c6, x6, rfl, r6_, w6⟩ := leaf_sl Try.underlying25 Try.underlying3 (by kernel_rfl) (fun _ => rfl) t0_3_0
  obtain ⟨y0_3_1, t0_3_1⟩ : ∃ y, DataW.trod enc Try.prog W 0 (fun _ => true) true n0_3 3 [c0_7] = some y := field_at hf0_3 1 _ 3 1 1 rfl rfl rfl (by kernel_rfl) (by omega)
  obtain ⟨a7, rfl, w7⟩ := leaf_int Try.underlying3 t0_3_1
  obtain ⟨y0_4, t0_4⟩ : ∃ y, DataW.trod enc Try.prog W 0 (fun _ => true) true n0 29 [c0_8, c0_9, c0_10] = some y := field_at hf0 4 _ 29 8 3 rfl rfl rfl (by kernel_rfl) (by omega)
  obtain ⟨ys0_4, n0_4, _, _, _, hl0_4, hf0_4⟩ := DataW.trod_struct Try.underlying29 t0_4
  have hl0_4' : ys0_4.length = 3 := hl0_4
  obtain ⟨y0_4_0, t0_4_0⟩ : ∃ y, DataW.trod enc Try.prog W 0 (fun _ => true) true n0_4 3 [c0_8] = some y := field_at hf0_4 0 _ 3 0 1 rfl rfl rfl (by kernel_rfl) (by omega)
  obtain ⟨a8, rfl, w8⟩ := leaf_int Try.underlying3 t0_4_0
  obtain ⟨y0_4_1, t0_4_1⟩ : ∃ y, DataW.trod enc Try.prog W 0 (fun _ => true) true n0_4 3 [c0_9] = some y := field_at hf0_4 1 _ 3 1 1 rfl rfl rfl (by kernel_rfl) (by omega)
  obtain ⟨a9, rfl, w9⟩ := leaf_int Try.underlying3 t0_4_1
  obtain ⟨y0_4_2, t0_4_2⟩ : ∃ y, DataW.trod enc Try.prog W 0 (fun _ => true) true n0_4 3 [c0_10] = some y := field_at hf0_4 2 _ 3 2 1 rfl rfl rfl (by kernel_rfl) (by omega)
  obtain ⟨a10, rfl, w10⟩ := leaf_int Try.underlying3 t0_4_2
  obtain ⟨y0_5, t0_5⟩ : ∃ y, DataW.trod enc Try.prog W 0 (fun _ => true) true n0 30 [c0_11] = some y := field_at hf0 5 _ 30 11 1 rfl rfl rfl (by kernel_rfl) (by omega)
  obtain ⟨a11, rfl, w11⟩ := leaf_int Try.underlying30 t0_5
  obtain ⟨y0_6, t0_6⟩ : ∃ y, DataW.trod enc Try.prog W 0 (fun _ => true) true n0 3 [c0_12] = some y := field_at hf0 6 _ 3 12 1 rfl rfl rfl (by kernel_rfl) (by omega)
  obtain ⟨a12, rfl, w12⟩ := leaf_int Try.underlying3 t0_6
  obtain ⟨y0_7, t0_7⟩ : ∃ y, DataW.trod enc Try.prog W 0 (fun _ => true) true n0 3 [c0_13] = some y := field_at hf0 7 _ 3 13 1 rfl rfl rfl (by kernel_rfl) (by omega)
  obtain ⟨a13, rfl, w13⟩ := leaf_int Try.underlying3 t0_7
  obtain ⟨y0_8, t0_8⟩ : ∃ y, DataW.trod enc Try.prog W 0 (fun _ => true) true n0 3 [c0_14] = some y := field_at hf0 8 _ 3 14 1 rfl rfl rfl (by kernel_rfl) (by omega)
  obtain ⟨a14, rfl, w14⟩ := leaf_int Try.underlying3 t0_8
  obtain ⟨A15, c15, x15, rfl, r15_, w15⟩ := open_sl Try.underlying25 Try.underlying3 (by kernel_rfl) (fun _ => rfl) (hval 1 25 v1 rfl rfl) h1
  clear hA0 hval0
  refine (deviceSteps_walk W a0 a1 A2 c2 x2 A3 c3 x3 a4 a5 A6 c6 x6 a7 a8 a9 a10 a11 a12 a13 a14 A15 c15 x15 w0 w1 r2_ w2 r3_ w3 w4 r6_ w6 w7 w8 w9 w10 w11 w12 w13 w14 r15_ w15).mono fun e W' ⟨he, bel⟩ => ?_
  subst he
  exact ⟨_, rfl, _, _, _, [], _, [], hW', trodAll_mk1 (shut_bool Try.underlying4 _), (trodAll_cons_mk (Below.trod laidOut (by kernel_rfl) (of_decide_eq_true (by kernel_rfl)) k0 bel lt0) (trodAll_cons_mk (Below.trod laidOut (by kernel_rfl) (of_decide_eq_true (by kernel_rfl)) k1 bel lt1) trodAll_mk0)), rfl, bel.frame _, fun h => by cases h⟩

theorem over : Rows.deviceStepsRow.holds Try.pinned (OpenSpec.ofChange Rows.deviceStepsSpec) :=
  OpenClaim.holds_of_wide 3 Try.f3 rfl rfl rfl rfl rfl rfl rfl ⟨rfl, rfl, rfl, rfl, rfl⟩ rfl rfl rfl rfl rfl (by kernel_rfl) Try.func3 (by kernel_rfl)
    (of_decide_eq_true (by kernel_rfl)) (by unfold Func.isWrapper; first | (rw [if_pos (by decide +kernel)]; kernel_rfl) | (rw [if_neg (by decide +kernel)]; exact ⟨rfl, rfl⟩))
    (fun os started H enc _ => lifted os started H enc)

theorem proved : Rows.DeviceStepsSaid := over
#print axioms proved
end Go.Proofs.Ytpoppadihbgbgaa.deviceSteps

