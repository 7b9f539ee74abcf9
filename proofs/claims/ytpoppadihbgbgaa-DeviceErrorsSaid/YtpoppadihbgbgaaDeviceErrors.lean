/- The statement 'DeviceErrorsSaid': the walk 'deviceErrors_walk' carried to the given form. No condition of its own. -/
import Derived.Test.YtpoppadihbgbgaaRows
import Derived.Test.YtpoppadihbgbgaaOpenS
import Derived.Test.YtpoppadihbgbgaaDev35
namespace Go.Proofs.Ytpoppadihbgbgaa.deviceErrors
open Go.ChangeShapes Go.WideShapes Go.ChangeAt Go.RowKit
open Go.ChangeMaps (open_string shut_string)
set_option linter.unusedVariables false

theorem own : ownKnob Try.prog.godebug = none := by kernel_rfl
theorem laidOut : laidOutB Try.prog = true := by kernel_rfl

theorem len11 {α : Type} (l : List α) (h : l.length = 11) : ∃ x0 x1 x2 x3 x4 x5 x6 x7 x8 x9 x10, l = [x0, x1, x2, x3, x4, x5, x6, x7, x8, x9, x10] := by
  match l, h with
  | [x0, x1, x2, x3, x4, x5, x6, x7, x8, x9, x10], _ => exact ⟨x0, x1, x2, x3, x4, x5, x6, x7, x8, x9, x10, rfl⟩

set_option maxRecDepth 100000 in
set_option maxHeartbeats 1000000 in
theorem lifted (os : Os) (started : os.Started) (H : Type) (enc : TypeId × Value → H) :
    ReturnsInHanded {} Try.checked os 4 .any (Rows.deviceErrorsSpec.pre6 enc Try.prog Try.f4 Rows.deviceErrorsRow.domain false) (Rows.deviceErrorsSpec.post enc Try.prog Try.f4 false true false false) := by
  refine returnsInHanded_of_change (C := Try.checked) own started (by kernel_rfl) Try.func4
    (ChangeSpec.witness6 (enc := enc) (C := Try.checked) false ⟨#[], #[.agg #[.int .i64 0, .int .i64 0, .slice none 0 0, .slice none 0 0, .slice none 0 0, .int .i64 0, .int .i64 0, .int .i64 0, .int .i64 0, .int .u64 0, .slice none 0 0]], []⟩ 8 (by kernel_rfl) (by kernel_rfl) (by kernel_rfl) (by kernel_rfl)) ?_
  intro W base args ds gs before hval0 hW hcnd _
  have hval : ∀ (j : Nat) t v, Try.f4.params[j]? = some t → args[j]? = some v → Value.okWide Try.prog W .any base t v := hval0
  have hW' := hW
  obtain ⟨p, q, hA0, hV, rfl, hfz, hnd⟩ := hW
  have hA : DataW.TrodAll enc Try.prog W 0 (fun _ => true) true Try.f4.params.toList args.toList ds p := hA0
  rw [Try.params4] at hA hval
  obtain ⟨v0, vs0, d0, ds0, p0, q0, hargs, rfl, rfl, h0, r0⟩ := trodAll_cons hA
  obtain ⟨rfl, rfl, rfl⟩ := trodAll_nil r0
  obtain rfl : args = #[v0] := by cases args; simp_all
  obtain ⟨rfl, rfl⟩ := trodVars_none hV
  have k0 := h0
  have lt0 : ∀ x ∈ p0, x.block < W.heap.size := by obtain ⟨m, hm⟩ := k0; exact DataW.trod_lt m _ _ _ hm
  obtain ⟨cs0, rfl, hsz0⟩ := okWide_struct Try.underlying47 (hval 0 47 v0 rfl rfl)
  obtain ⟨l0⟩ := cs0
  have ck0 : Try.prog.cellsOf 47 = 11 := by kernel_rfl
  rw [ck0] at hsz0
  obtain ⟨c0_0, c0_1, c0_2, c0_3, c0_4, c0_5, c0_6, c0_7, c0_8, c0_9, c0_10, rfl⟩ := len11 l0 hsz0
  obtain ⟨m0, hm0⟩ := h0
  have hm0' : DataW.trod enc Try.prog W 0 (fun _ => true) true m0 47 [c0_0, c0_1, c0_2, c0_3, c0_4, c0_5, c0_6, c0_7, c0_8, c0_9, c0_10] = some (d0, p0) := hm0
  obtain ⟨ys0, n0, _, _, _, hl0, hf0⟩ := DataW.trod_struct Try.underlying47 hm0'
  have hl0' : ys0.length = 5 := hl0
  obtain ⟨y0_0, t0_0⟩ : ∃ y, DataW.trod enc Try.prog W 0 (fun _ => true) true n0 24 [c0_0, c0_1, c0_2, c0_3] = some y := field_at hf0 0 _ 24 0 4 rfl rfl rfl (by kernel_rfl) (by omega)
  obtain ⟨ys0_0, n0_0, _, _, _, hl0_0, hf0_0⟩ := DataW.trod_struct Try.underlying24 t0_0
  have hl0_0' : ys0_0.length = 4 := hl0_0
  obtain ⟨y0_0_0, t0_0_0⟩ : ∃ y, DataW.trod enc Try.prog W 0 (fun _ => true) true n0_0 3 [c0_0] = some y := field_at hf0_0 0 _ 3 0 1 rfl rfl rfl (by kernel_rfl) (by omega)
  obtain ⟨a0, rfl, w0⟩ := leaf_int Try.underlying3 t0_0_0
  obtain ⟨y0_0_1, t0_0_1⟩ : ∃ y, DataW.trod enc Try.prog W 0 (fun _ => true) true n0_0 3 [c0_1] = some y := field_at hf0_0 1 _ 3 1 1 rfl rfl rfl (by kernel_rfl) (by omega)
  obtain ⟨a1, rfl, w1⟩ := leaf_int Try.underlying3 t0_0_1
  obtain ⟨y0_0_2, t0_0_2⟩ : ∃ y, DataW.trod enc Try.prog W 0 (fun _ => true) true n0_0 22 [c0_2] = some y := field_at hf0_0 2 _ 22 2 1 rfl rfl rfl (by kernel_rfl) (by omega)
  obtain ⟨A2, c2, x2, rfl, r2_, w2⟩ := leaf_mat Try.underlying22 Try.underlying25 Try.underlying3 (by kernel_rfl) (by kernel_rfl) t0_0_2
  obtain ⟨y0_0_3, t0_0_3⟩ : ∃ y, DataW.trod enc Try.prog W 0 (fun _ => true) true n0_0 22 [c0_3] = some y := field_at hf0_0 3 _ 22 3 1 rfl rfl rfl (by kernel_rfl) (by omega)
  obtain ⟨A3, c3, x3, rfl, r3_, w3⟩ := leaf_mat Try.underlying22 Try.underlying25 Try.underlying3 (by kernel_rfl) (by kernel_rfl) t0_0_3
  obtain ⟨y0_1, t0_1⟩ : ∃ y, DataW.trod enc Try.prog W 0 (fun _ => true) true n0 27 [c0_4, c0_5] = some y := field_at hf0 1 _ 27 4 2 rfl rfl rfl (by kernel_rfl) (by omega)
  obtain ⟨ys0_1, n0_1, _, _, _, hl0_1, hf0_1⟩ := DataW.trod_struct Try.underlying27 t0_1
  have hl0_1' : ys0_1.length = 2 := hl0_1
  obtain ⟨y0_1_0, t0_1_0⟩ : ∃ y, DataW.trod enc Try.prog W 0 (fun _ => true) true n0_1 25 [c0_4] = some y := field_at hf0_1 0 _ 25 0 1 rfl rfl rfl (by kernel_rfl) (by omega)
  obtain ⟨A4, c4, x4, rfl, r4_, w4⟩ := leaf_sl Try.underlying25 Try.underlying3 (by kernel_rfl) (fun _ => rfl) t0_1_0
  obtain ⟨y0_1_1, t0_1_1⟩ : ∃ y, DataW.trod enc Try.prog W 0 (fun _ => true) true n0_1 3 [c0_5] = some y := field_at hf0_1 1 _ 3 1 1 rfl rfl rfl (by kernel_rfl) (by omega)
  obtain ⟨a5, rfl, w5⟩ := leaf_int Try.underlying3 t0_1_1
  obtain ⟨y0_2, t0_2⟩ : ∃ y, DataW.trod enc Try.prog W 0 (fun _ => true) true n0 29 [c0_6, c0_7, c0_8] = some y := field_at hf0 2 _ 29 6 3 rfl rfl rfl (by kernel_rfl) (by omega)
  obtain ⟨ys0_2, n0_2, _, _, _, hl0_2, hf0_2⟩ := DataW.trod_struct Try.underlying29 t0_2
  have hl0_2' : ys0_2.length = 3 := hl0_2
  obtain ⟨y0_2_0, t0_2_0⟩ : ∃ y, DataW.trod enc Try.prog W 0 (fun _ => true) true n0_2 3 [c0_6] = some y := field_at hf0_2 0 _ 3 0 1 rfl rfl rfl (by kernel_rfl) (by omega)
  obtain ⟨a6, rfl, w6⟩ := leaf_int Try.underlying3 t0_2_0
  obtain ⟨y0_2_1, t0_2_1⟩ : ∃ y, DataW.trod enc Try.prog W 0 (fun _ => true) true n0_2 3 [c0_7] = some y := field_at hf0_2 1 _ 3 1 1 rfl rfl rfl (by kernel_rfl) (by omega)
  obtain ⟨a7, rfl, w7⟩ := leaf_int Try.underlying3 t0_2_1
  obtain ⟨y0_2_2, t0_2_2⟩ : ∃ y, DataW.trod enc Try.prog W 0 (fun _ => true) true n0_2 3 [c0_8] = some y := field_at hf0_2 2 _ 3 2 1 rfl rfl rfl (by kernel_rfl) (by omega)
  obtain ⟨a8, rfl, w8⟩ := leaf_int Try.underlying3 t0_2_2
  obtain ⟨y0_3, t0_3⟩ : ∃ y, DataW.trod enc Try.prog W 0 (fun _ => true) true n0 30 [c0_9] = some y := field_at hf0 3 _ 30 9 1 rfl rfl rfl (by kernel_rfl) (by omega)
  obtain ⟨a9, rfl, w9⟩ := leaf_int Try.underlying30 t0_3
  obtain ⟨y0_4, t0_4⟩ : ∃ y, DataW.trod enc Try.prog W 0 (fun _ => true) true n0 25 [c0_10] = some y := field_at hf0 4 _ 25 10 1 rfl rfl rfl (by kernel_rfl) (by omega)
  obtain ⟨A10, c10, x10, rfl, r10_, w10⟩ := leaf_sl Try.underlying25 Try.underlying3 (by kernel_rfl) (fun _ => rfl) t0_4
  clear hA0 hval0
  refine (deviceErrors_walk W a0 a1 A2 c2 x2 A3 c3 x3 A4 c4 x4 a5 a6 a7 a8 a9 A10 c10 x10 w0 w1 r2_ w2 r3_ w3 r4_ w4 w5 w6 w7 w8 w9 r10_ w10).mono fun e W' ⟨he, bel⟩ => ?_
  subst he
  exact ⟨_, rfl, _, _, _, [], _, [], hW', trodAll_mk1 (shut_bool Try.underlying4 _), (trodAll_cons_mk (Below.trod laidOut (by kernel_rfl) (of_decide_eq_true (by kernel_rfl)) k0 bel lt0) trodAll_mk0), rfl, bel.frame _, fun h => by cases h⟩

theorem over : Rows.deviceErrorsRow.holds Try.pinned (OpenSpec.ofChange Rows.deviceErrorsSpec) :=
  OpenClaim.holds_of_wide 4 Try.f4 rfl rfl rfl rfl rfl rfl rfl ⟨rfl, rfl, rfl, rfl, rfl⟩ rfl rfl rfl rfl rfl (by kernel_rfl) Try.func4 (by kernel_rfl)
    (of_decide_eq_true (by kernel_rfl)) (by unfold Func.isWrapper; first | (rw [if_pos (by decide +kernel)]; kernel_rfl) | (rw [if_neg (by decide +kernel)]; exact ⟨rfl, rfl⟩))
    (fun os started H enc _ => lifted os started H enc)

theorem proved : Rows.DeviceErrorsSaid := over
#print axioms proved
end Go.Proofs.Ytpoppadihbgbgaa.deviceErrors

