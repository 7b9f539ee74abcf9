/- The statement 'CodecSealsSaid': the walk 'codecSeals_walk' carried to the given form. No condition of its own. -/
import Derived.Test.YtepeamhoajlniaaRows
import Derived.Test.YtepeamhoajlniaaOpenS
import Derived.Test.YtepeamhoajlniaaLaw05f
namespace Go.Proofs.Ytepeamhoajlniaa.codecSeals
open Go.ChangeShapes Go.WideShapes Go.ChangeAt Go.RowKit
open Go.ChangeMaps (open_string shut_string)
set_option linter.unusedVariables false

theorem own : ownKnob Try.prog.godebug = none := by kernel_rfl
theorem laidOut : laidOutB Try.prog = true := by kernel_rfl

theorem len5 {α : Type} (l : List α) (h : l.length = 5) : ∃ x0 x1 x2 x3 x4, l = [x0, x1, x2, x3, x4] := by
  match l, h with
  | [x0, x1, x2, x3, x4], _ => exact ⟨x0, x1, x2, x3, x4, rfl⟩

set_option maxRecDepth 100000 in
set_option maxHeartbeats 1000000 in
theorem lifted (os : Os) (started : os.Started) (H : Type) (enc : TypeId × Value → H) :
    ReturnsInHanded {} Try.checked os 7 .any (Rows.codecSealsSpec.pre6 enc Try.prog Try.f7 Rows.codecSealsRow.domain false) (Rows.codecSealsSpec.post enc Try.prog Try.f7 false true false false) := by
  refine returnsInHanded_of_change (C := Try.checked) own started (by kernel_rfl) Try.func7
    (ChangeSpec.witness6 (enc := enc) (C := Try.checked) false ⟨#[], #[.agg #[.int .u8 0, .slice none 0 0, .slice none 0 0, .int .u16 0, .int .u8 0]], []⟩ 8 (by kernel_rfl) (by kernel_rfl) (by kernel_rfl) (by kernel_rfl)) ?_
  intro W base args ds gs before hval0 hW hcnd _
  have hval : ∀ (j : Nat) t v, Try.f7.params[j]? = some t → args[j]? = some v → Value.okWide Try.prog W .any base t v := hval0
  have hW' := hW
  obtain ⟨p, q, hA0, hV, rfl, hfz, hnd⟩ := hW
  have hA : DataW.TrodAll enc Try.prog W 0 (fun _ => true) true Try.f7.params.toList args.toList ds p := hA0
  rw [Try.params7] at hA hval
  obtain ⟨v0, vs0, d0, ds0, p0, q0, hargs, rfl, rfl, h0, r0⟩ := trodAll_cons hA
  obtain ⟨rfl, rfl, rfl⟩ := trodAll_nil r0
  obtain rfl : args = #[v0] := by cases args; simp_all
  obtain ⟨rfl, rfl⟩ := trodVars_none hV
  have k0 := h0
  have lt0 : ∀ x ∈ p0, x.block < W.heap.size := by obtain ⟨m, hm⟩ := k0; exact DataW.trod_lt m _ _ _ hm
  obtain ⟨cs0, rfl, hsz0⟩ := okWide_struct Try.underlying61 (hval 0 61 v0 rfl rfl)
  obtain ⟨l0⟩ := cs0
  have ck0 : Try.prog.cellsOf 61 = 5 := by kernel_rfl
  rw [ck0] at hsz0
  obtain ⟨c0_0, c0_1, c0_2, c0_3, c0_4, rfl⟩ := len5 l0 hsz0
  obtain ⟨m0, hm0⟩ := h0
  have hm0' : DataW.trod enc Try.prog W 0 (fun _ => true) true m0 61 [c0_0, c0_1, c0_2, c0_3, c0_4] = some (d0, p0) := hm0
  obtain ⟨ys0, n0, _, _, _, hl0, hf0⟩ := DataW.trod_struct Try.underlying61 hm0'
  have hl0' : ys0.length = 5 := hl0
  obtain ⟨y0_0, t0_0⟩ : ∃ y, DataW.trod enc Try.prog W 0 (fun _ => true) true n0 5 [c0_0] = some y := field_at hf0 0 _ 5 0 1 rfl rfl rfl (by kernel_rfl) (by omega)
  obtain ⟨a0, rfl, w0⟩ := leaf_int Try.underlying5 t0_0
  obtain ⟨y0_1, t0_1⟩ : ∃ y, DataW.trod enc Try.prog W 0 (fun _ => true) true n0 22 [c0_1] = some y := field_at hf0 1 _ 22 1 1 rfl rfl rfl (by kernel_rfl) (by omega)
  obtain ⟨A1, c1, x1, rfl, r1_, w1⟩ := leaf_by Try.underlying22 Try.underlying5 (by kernel_rfl) (fun _ => rfl) t0_1
  obtain ⟨y0_2, t0_2⟩ : ∃ y, DataW.trod enc Try.prog W 0 (fun _ => true) true n0 22 [c0_2] = some y := field_at hf0 2 _ 22 2 1 rfl rfl rfl (by kernel_rfl) (by omega)
  obtain ⟨A2, c2, x2, rfl, r2_, w2⟩ := leaf_by Try.underlying22 Try.underlying5 (by kernel_rfl) (fun _ => rfl) t0_2
  obtain ⟨y0_3, t0_3⟩ : ∃ y, DataW.trod enc Try.prog W 0 (fun _ => true) true n0 48 [c0_3] = some y := field_at hf0 3 _ 48 3 1 rfl rfl rfl (by kernel_rfl) (by omega)
  obtain ⟨a3, rfl, w3⟩ := leaf_int Try.underlying48 t0_3
  obtain ⟨y0_4, t0_4⟩ : ∃ y, DataW.trod enc Try.prog W 0 (fun _ => true) true n0 5 [c0_4] = some y := field_at hf0 4 _ 5 4 1 rfl rfl rfl (by kernel_rfl) (by omega)
  obtain ⟨a4, rfl, w4⟩ := leaf_int Try.underlying5 t0_4
  clear hA0 hval0
  refine (codecSeals_walk W a0 A1 c1 x1 A2 c2 x2 a3 a4 w0 r1_ w1 r2_ w2 w3 w4).mono fun e W' ⟨he, bel⟩ => ?_
  subst he
  exact ⟨_, rfl, _, _, _, [], _, [], hW', trodAll_mk1 (shut_bool Try.underlying4 _), (trodAll_cons_mk (Below.trod laidOut (by kernel_rfl) (of_decide_eq_true (by kernel_rfl)) k0 bel lt0) trodAll_mk0), rfl, bel.frame _, fun h => by cases h⟩

theorem over : Rows.codecSealsRow.holds Try.pinned (OpenSpec.ofChange Rows.codecSealsSpec) :=
  OpenClaim.holds_of_wide 7 Try.f7 rfl rfl rfl rfl rfl rfl rfl ⟨rfl, rfl, rfl, rfl, rfl⟩ rfl rfl rfl rfl rfl (by kernel_rfl) Try.func7 (by kernel_rfl)
    (of_decide_eq_true (by kernel_rfl)) (by unfold Func.isWrapper; first | (rw [if_pos (by decide +kernel)]; kernel_rfl) | (rw [if_neg (by decide +kernel)]; exact ⟨rfl, rfl⟩))
    (fun os started H enc _ => lifted os started H enc)

theorem proved : Rows.CodecSealsSaid := over
#print axioms proved
end Go.Proofs.Ytepeamhoajlniaa.codecSeals

