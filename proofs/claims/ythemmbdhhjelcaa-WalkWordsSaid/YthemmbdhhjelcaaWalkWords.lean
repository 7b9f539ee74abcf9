/- The statement 'WalkWordsSaid': the walk 'walkWords_walk' carried to the given form. No condition of its own. -/
import Derived.Test.YthemmbdhhjelcaaRows
import Derived.Test.YthemmbdhhjelcaaOpenS
import Derived.Test.YthemmbdhhjelcaaLaw32e
namespace Go.Proofs.Ythemmbdhhjelcaa.walkWords
open Go.ChangeShapes Go.WideShapes Go.ChangeAt Go.RowKit
open Go.ChangeMaps (open_string shut_string)
set_option linter.unusedVariables false

theorem own : ownKnob Try.prog.godebug = none := by kernel_rfl
theorem laidOut : laidOutB Try.prog = true := by kernel_rfl

theorem len3 {α : Type} (l : List α) (h : l.length = 3) : ∃ x0 x1 x2, l = [x0, x1, x2] := by
  match l, h with
  | [x0, x1, x2], _ => exact ⟨x0, x1, x2, rfl⟩

theorem len4 {α : Type} (l : List α) (h : l.length = 4) : ∃ x0 x1 x2 x3, l = [x0, x1, x2, x3] := by
  match l, h with
  | [x0, x1, x2, x3], _ => exact ⟨x0, x1, x2, x3, rfl⟩

set_option maxRecDepth 100000 in
set_option maxHeartbeats 1000000 in
theorem lifted (os : Os) (started : os.Started) (H : Type) (enc : TypeId × Value → H) :
    ReturnsInHanded {} Try.checked os 13 .any (Rows.walkWordsSpec.pre6 enc Try.prog Try.f13 Rows.walkWordsRow.domain false) (Rows.walkWordsSpec.post enc Try.prog Try.f13 false true false false) := by
  refine returnsInHanded_of_change (C := Try.checked) own started (by kernel_rfl) Try.func13
    (ChangeSpec.witness6 (enc := enc) (C := Try.checked) false ⟨#[], #[.agg #[.int .i64 0, .int .i64 0, .slice none 0 0, .slice none 0 0], .agg #[.int .u64 0, .int .i64 0, .int .i64 0]], []⟩ 8 (by kernel_rfl) (by kernel_rfl) (by kernel_rfl) (by kernel_rfl)) ?_
  intro W base args ds gs before hval0 hW hcnd _
  have hval : ∀ (j : Nat) t v, Try.f13.params[j]? = some t → args[j]? = some v → Value.okWide Try.prog W .any base t v := hval0
  have hW' := hW
  obtain ⟨p, q, hA0, hV, rfl, hfz, hnd⟩ := hW
  have hA : DataW.TrodAll enc Try.prog W 0 (fun _ => true) true Try.f13.params.toList args.toList ds p := hA0
  rw [Try.params13] at hA hval
  obtain ⟨v0, vs0, d0, ds0, p0, q0, hargs, rfl, rfl, h0, r0⟩ := trodAll_cons hA
  obtain ⟨v1, vs1, d1, ds1, p1, q1, rfl, rfl, rfl, h1, r1⟩ := trodAll_cons r0
  obtain ⟨rfl, rfl, rfl⟩ := trodAll_nil r1
  obtain rfl : args = #[v0, v1] := by cases args; simp_all
  obtain ⟨rfl, rfl⟩ := trodVars_none hV
  have k0 := h0
  have lt0 : ∀ x ∈ p0, x.block < W.heap.size := by obtain ⟨m, hm⟩ := k0; exact DataW.trod_lt m _ _ _ hm
  have k1 := h1
  have lt1 : ∀ x ∈ p1, x.block < W.heap.size := by obtain ⟨m, hm⟩ := k1; exact DataW.trod_lt m _ _ _ hm
  obtain ⟨cs0, rfl, hsz0⟩ := okWide_struct Try.underlying62 (hval 0 62 v0 rfl rfl)
  obtain ⟨l0⟩ := cs0
  have ck0 : Try.prog.cellsOf 62 = 4 := by kernel_rfl
  rw [ck0] at hsz0
  obtain ⟨c0_0, c0_1, c0_2, c0_3, rfl⟩ := len4 l0 hsz0
  obtain ⟨m0, hm0⟩ := h0
  have hm0' : DataW.trod enc Try.prog W 0 (fun _ => true) true m0 62 [c0_0, c0_1, c0_2, c0_3] = some (d0, p0) := hm0
  obtain ⟨ys0, n0, _, _, _, hl0, hf0⟩ := DataW.trod_struct Try.underlying62 hm0'
  have hl0' : ys0.length = 4 := hl0
  obtain ⟨y0_0, t0_0⟩ : ∃ y, DataW.trod enc Try.prog W 0 (fun _ => true) true n0 3 [c0_0] = some y := field_at hf0 0 _ 3 0 1 rfl rfl rfl (by kernel_rfl) (by omega)
  obtain ⟨a0, rfl, w0⟩ := leaf_int Try.underlying3 t0_0
  obtain ⟨y0_1, t0_1⟩ : ∃ y, DataW.trod enc Try.prog W 0 (fun _ => true) true n0 3 [c0_1] = some y := field_at hf0 1 _ 3 1 1 rfl rfl rfl (by kernel_rfl) (by omega)
  obtain ⟨a1, rfl, w1⟩ := leaf_int Try.underlying3 t0_1
  obtain ⟨y0_2, t0_2⟩ : ∃ y, DataW.trod enc Try.prog W 0 (fun _ => true) true n0 50 [c0_2] = some y := field_at hf0 2 _ 50 2 1 rfl rfl rfl (by kernel_rfl) (by omega)
  obtain ⟨A2, c2, x2, rfl, r2_, w2⟩ := leaf_mat Try.underlying50 Try.underlying32 Try.underlying3 (by kernel_rfl) (by kernel_rfl) t0_2
  obtain ⟨y0_3, t0_3⟩ : ∃ y, DataW.trod enc Try.prog W 0 (fun _ => true) true n0 50 [c0_3] = some y := field_at hf0 3 _ 50 3 1 rfl rfl rfl (by kernel_rfl) (by omega)
  obtain ⟨A3, c3, x3, rfl, r3_, w3⟩ := leaf_mat Try.underlying50 Try.underlying32 Try.underlying3 (by kernel_rfl) (by kernel_rfl) t0_3
  obtain ⟨cs1, rfl, hsz1⟩ := okWide_struct Try.underlying53 (hval 1 53 v1 rfl rfl)
  obtain ⟨l1⟩ := cs1
  have ck1 : Try.prog.cellsOf 53 = 3 := by kernel_rfl
  rw [ck1] at hsz1
  obtain ⟨c1_0, c1_1, c1_2, rfl⟩ := len3 l1 hsz1
  obtain ⟨m1, hm1⟩ := h1
  have hm1' : DataW.trod enc Try.prog W 0 (fun _ => true) true m1 53 [c1_0, c1_1, c1_2] = some (d1, p1) := hm1
  obtain ⟨ys1, n1, _, _, _, hl1, hf1⟩ := DataW.trod_struct Try.underlying53 hm1'
  have hl1' : ys1.length = 3 := hl1
  obtain ⟨y1_0, t1_0⟩ : ∃ y, DataW.trod enc Try.prog W 0 (fun _ => true) true n1 22 [c1_0] = some y := field_at hf1 0 _ 22 0 1 rfl rfl rfl (by kernel_rfl) (by omega)
  obtain ⟨a4, rfl, w4⟩ := leaf_int Try.underlying22 t1_0
  obtain ⟨y1_1, t1_1⟩ : ∃ y, DataW.trod enc Try.prog W 0 (fun _ => true) true n1 3 [c1_1] = some y := field_at hf1 1 _ 3 1 1 rfl rfl rfl (by kernel_rfl) (by omega)
  obtain ⟨a5, rfl, w5⟩ := leaf_int Try.underlying3 t1_1
  obtain ⟨y1_2, t1_2⟩ : ∃ y, DataW.trod enc Try.prog W 0 (fun _ => true) true n1 3 [c1_2] = some y := field_at hf1 2 _ 3 2 1 rfl rfl rfl (by kernel_rfl) (by omega)
  obtain ⟨a6, rfl, w6⟩ := leaf_int Try.underlying3 t1_2
  clear hA0 hval0
  refine (walkWords_walk W a0 a1 A2 c2 x2 A3 c3 x3 a4 a5 a6 w0 w1 r2_ w2 r3_ w3 w4 w5 w6).mono fun e W' ⟨he, bel⟩ => ?_
  subst he
  exact ⟨_, rfl, _, _, _, [], _, [], hW', trodAll_mk1 (shut_bool Try.underlying4 _), (trodAll_cons_mk (Below.trod laidOut (by kernel_rfl) (of_decide_eq_true (by kernel_rfl)) k0 bel lt0) (trodAll_cons_mk (Below.trod laidOut (by kernel_rfl) (of_decide_eq_true (by kernel_rfl)) k1 bel lt1) trodAll_mk0)), rfl, bel.frame _, fun h => by cases h⟩

theorem over : Rows.walkWordsRow.holds Try.pinned (OpenSpec.ofChange Rows.walkWordsSpec) :=
  OpenClaim.holds_of_wide 13 Try.f13 rfl rfl rfl rfl rfl rfl rfl ⟨rfl, rfl, rfl, rfl, rfl⟩ rfl rfl rfl rfl rfl (by kernel_rfl) Try.func13 (by kernel_rfl)
    (of_decide_eq_true (by kernel_rfl)) (by unfold Func.isWrapper; first | (rw [if_pos (by decide +kernel)]; kernel_rfl) | (rw [if_neg (by decide +kernel)]; exact ⟨rfl, rfl⟩))
    (fun os started H enc _ => lifted os started H enc)

theorem proved : Rows.WalkWordsSaid := over
#print axioms proved
end Go.Proofs.Ythemmbdhhjelcaa.walkWords

