/- The statement 'DeviceFaithfulSaid': the walk 'deviceFaithful_walk' carried to the given form. No condition of its own. -/
import Derived.Test.YtpoppadihbgbgaaRows
import Derived.Test.YtpoppadihbgbgaaOpenS
import Derived.Test.YtpoppadihbgbgaaDev31
namespace Go.Proofs.Ytpoppadihbgbgaa.deviceFaithful
open Go.ChangeShapes Go.WideShapes Go.ChangeAt Go.RowKit
open Go.ChangeMaps (open_string shut_string)
set_option linter.unusedVariables false

theorem own : ownKnob Try.prog.godebug = none := by kernel_rfl
theorem laidOut : laidOutB Try.prog = true := by kernel_rfl

theorem len9 {α : Type} (l : List α) (h : l.length = 9) : ∃ x0 x1 x2 x3 x4 x5 x6 x7 x8, l = [x0, x1, x2, x3, x4, x5, x6, x7, x8] := by
  match l, h with
  | [x0, x1, x2, x3, x4, x5, x6, x7, x8], _ => exact ⟨x0, x1, x2, x3, x4, x5, x6, x7, x8, rfl⟩

set_option maxRecDepth 100000 in
set_option maxHeartbeats 1000000 in
theorem lifted (os : Os) (started : os.Started) (H : Type) (enc : TypeId × Value → H) :
    ReturnsInHanded {} Try.checked os 7 .any (Rows.deviceFaithfulSpec.pre6 enc Try.prog Try.f7 Rows.deviceFaithfulRow.domain false) (Rows.deviceFaithfulSpec.post enc Try.prog Try.f7 false true false false) := by
  refine returnsInHanded_of_change (C := Try.checked) own started (by kernel_rfl) Try.func7
    (ChangeSpec.witness6 (enc := enc) (C := Try.checked) false ⟨#[], #[.agg #[.int .i64 0, .int .i64 0, .slice none 0 0, .slice none 0 0, .slice none 0 0, .int .i64 0, .int .u64 0, .slice none 0 0, .slice none 0 0]], []⟩ 8 (by kernel_rfl) (by kernel_rfl) (by kernel_rfl) (by kernel_rfl)) ?_
  intro W base args ds gs before hval0 hW hcnd _
  have hval : ∀ (j : Nat) t v, Try.f7.params[j]? = some t → args[j]? = some v → Value.okWide Try.prog W .any base t v := hval0
  have hW' := hW
  obtain ⟨p, q, hA0, hV, rfl, hfz, hnd⟩ := hW
  have hA : DataW.TrodAll enc Try.prog W 0 (fun _ => true) true Try.f7.params.toList args.toList ds p := hA0
  rw [Try.params7] at hA hval
  obtain ⟨v0, vs0, d0, ds0, p0, q0, hargs, rfl, rfl, h0, r0⟩ := trodAll_cons hA
  obtain ⟨rfl, rfl, rfl⟩ := trodAll_nil r0
  obtain rfl : args = #[v0] := by cases args; simp_all
  obtain ⟨rfl, rfl⟩ := trodVars_none hV
  have k0 := h0
  have lt0 : ∀ x ∈ p0, x.block < W.heap.size := by obtain ⟨m, hm⟩ := k0; exact DataW.trod_lt m _ _ _ hm
  obtain ⟨cs0, rfl, hsz0⟩ := okWide_struct Try.underlying66 (hval 0 66 v0 rfl rfl)
  obtain ⟨l0⟩ := cs0
  have ck0 : Try.prog.cellsOf 66 = 9 := by kernel_rfl
  rw [ck0] at hsz0
  obtain ⟨c0_0, c0_1, c0_2, c0_3, c0_4, c0_5, c0_6, c0_7, c0_8, rfl⟩ := len9 l0 hsz0
  obtain ⟨m0, hm0⟩ := h0
  have hm0' : DataW.trod enc Try.prog W 0 (fun _ => true) true m0 66 [c0_0, c0_1, c0_2, c0_3, c0_4, c0_5, c0_6, c0_7, c0_8] = some (d0, p0) := hm0
  obtain ⟨ys0, n0, _, _, _, hl0, hf0⟩ := DataW.trod_struct Try.underlying66 hm0'
  have hl0' : ys0.length = 5 := hl0
  obtain ⟨y0_0, t0_0⟩ : ∃ y, DataW.trod enc Try.prog W 0 (fun _ => true) true n0 24 [c0_0, c0_1, c0_2, c0_3] = some y := field_at hf0 0 _ 24 0 4 rfl rfl rfl (by kernel_rfl) (by omega)
  obtain ⟨ys0_0, n0_0, _, _, _, hl0_0, hf0_0⟩ := DataW.trod_struct Try.underlying24 t0_0
  have hl0_0' : ys0_0.length = 4 := hl0_0
  obtain ⟨y0_0_0, t0_0_0⟩ : ∃ y, DataW.trod enc Try.prog W 0 (fun _ => true) true n0_0 3 [c0_0] = some y := field_at hf0_0 0 _ 3 0 1 rfl rfl rfl (by kernel_rfl) (by omega)
  obtain ⟨a0, rfl, w0⟩ := leaf_int Try.underlying3 t0_0_0
  obtain ⟨y0_0_1, t0_0_1⟩ : ∃ y, DataW.trod enc Try.prog W 0 (fun _ => true) true n0_0 3 [c0_1] = some y := field_at hf0_0 1 _ 3 1 1 rfl rfl rfl (by kernel_rfl) (by omega)
  obtain ⟨a1, rfl, w1⟩ := leaf_int Try.underlying3 t0_0_1
  obtain ⟨y0_0_2, t0_0_2⟩ : ∃ y, DataW.trod enc Try.prog W 0 (fun _ => true) true n0_0 22 [c0_2] = some y := field_at hf0_0 2 _ 22 2 1 rfl rfl rfl (by kernel_rfl) (by omega)
  obtain ⟨A2, c2, x2, rfl, r2_, w2⟩ := leaf_mat Try.underlying22 Try.underlying25 Try.underlying3 (by kernel_rfl) (by kernel_rfl) t0_0_2
  obtain ⟨y0_0_3, t0_0_3⟩ : ∃ y, DataW.trod enc Try.prog W 0 (fun _ => true) true n0_0 22 [c0_3] = some y := field_at hf0_0 3 _ 22 3 1 rfl rfl rfl (by kernel_rfl) (by omega)
  obtain ⟨A3, c3, x3, rfl, r3_, w3⟩ := leaf_mat Try.underlying22 Try.underlying25 Try.underlying3 (by kernel_rfl) (by kernel_rfl) t0_0_3
  obtain ⟨y0_1, t0_1⟩ : ∃ y, DataW.trod enc Try.prog W 0 (fun _ => true) true n0 27 [c0_4, c0_5] = some y := field_at hf0 1 _ 27 4 2 rfl rfl rfl (by kernel_rfl) (by omega)
  obtain ⟨ys0_1, n0_1, _, _, _, hl0_1, hf0_1⟩ := DataW.trod_struct Try.underlying27 t0_1
  have hl0_1' : ys0_1.length = 2 := hl0_1
  obtain ⟨y0_1_0, t0_1_0⟩ : ∃ y, DataW.trod enc Try.prog W 0 (fun _ => true) true n0_1 25 [c0_4] = some y := field_at hf0_1 0 _ 25 0 1 rfl rfl rfl (by kernel_rfl) (by omega)
  obtain ⟨A4, c4, x4, rfl, r4_, w4⟩ := leaf_sl Try.underlying25 Try.underlying3 (by kernel_rfl) (fun _ => rfl) t0_1_0
  obtain ⟨y0_1_1, t0_1_1⟩ : ∃ y, DataW.trod enc Try.prog W 0 (fun _ => true) true n0_1 3 [c0_5] = some y := field_at hf0_1 1 _ 3 1 1 rfl rfl rfl (by kernel_rfl) (by omega)
  obtain ⟨a5, rfl, w5⟩ := leaf_int Try.underlying3 t0_1_1
  obtain ⟨y0_2, t0_2⟩ : ∃ y, DataW.trod enc Try.prog W 0 (fun _ => true) true n0 30 [c0_6] = some y := field_at hf0 2 _ 30 6 1 rfl rfl rfl (by kernel_rfl) (by omega)
  obtain ⟨a6, rfl, w6⟩ := leaf_int Try.underlying30 t0_2
  obtain ⟨y0_3, t0_3⟩ : ∃ y, DataW.trod enc Try.prog W 0 (fun _ => true) true n0 25 [c0_7] = some y := field_at hf0 3 _ 25 7 1 rfl rfl rfl (by kernel_rfl) (by omega)
  obtain ⟨A7, c7, x7, rfl, r7_, w7⟩ := leaf_sl Try.underlying25 Try.underlying3 (by kernel_rfl) (fun _ => rfl) t0_3
  obtain ⟨y0_4, t0_4⟩ : ∃ y, DataW.trod enc Try.prog W 0 (fun _ => true) true n0 25 [c0_8] = some y := field_at hf0 4 _ 25 8 1 rfl rfl rfl (by kernel_rfl) (by omega)
  obtain ⟨A8, c8, x8, rfl, r8_, w8⟩ := leaf_sl Try.underlying25 Try.underlying3 (by kernel_rfl) (fun _ => rfl) t0_4
  clear hA0 hval0
  refine (deviceFaithful_walk W a0 a1 A2 c2 x2 A3 c3 x3 A4 c4 x4 a5 a6 A7 c7 x7 A8 c8 x8 w0 w1 r2_ w2 r3_ w3 r4_ w4 w5 w6 r7_ w7 r8_ w8).mono fun e W' ⟨he, bel⟩ => ?_
  subst he
  exact ⟨_, rfl, _, _, _, [], _, [], hW', trodAll_mk1 (shut_bool Try.underlying4 _), (trodAll_cons_mk (Below.trod laidOut (by kernel_rfl) (of_decide_eq_true (by kernel_rfl)) k0 bel lt0) trodAll_mk0), rfl, bel.frame _, fun h => by cases h⟩

theorem over : Rows.deviceFaithfulRow.holds Try.pinned (OpenSpec.ofChange Rows.deviceFaithfulSpec) :=
  OpenClaim.holds_of_wide 7 Try.f7 rfl rfl rfl rfl rfl rfl rfl ⟨rfl, rfl, rfl, rfl, rfl⟩ rfl rfl rfl rfl rfl (by kernel_rfl) Try.func7 (by kernel_rfl)
    (of_decide_eq_true (by kernel_rfl)) (by unfold Func.isWrapper; first | (rw [if_pos (by decide +kernel)]; kernel_rfl) | (rw [if_neg (by decide +kernel)]; exact ⟨rfl, rfl⟩))
    (fun os started H enc _ => lifted os started H enc)

theorem proved : Rows.DeviceFaithfulSaid := over
#print axioms proved
end Go.Proofs.Ytpoppadihbgbgaa.deviceFaithful

