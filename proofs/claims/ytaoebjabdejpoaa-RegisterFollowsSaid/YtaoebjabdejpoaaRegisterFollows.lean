/- The statement 'RegisterFollowsSaid': the walk 'registerFollows_walk' carried to the given form. No condition of its own. -/
import Derived.Test.YtaoebjabdejpoaaRows
import Derived.Test.YtaoebjabdejpoaaOpenS
import Derived.Test.YtaoebjabdejpoaaOpenT
import Derived.Test.YtaoebjabdejpoaaLawF
namespace Go.Proofs.Ytaoebjabdejpoaa.registerFollows
open Go.ChangeShapes Go.WideShapes Go.ChangeAt Go.RowKit
open Go.ChangeMaps (open_string shut_string)
set_option linter.unusedVariables false

theorem own : ownKnob Try.prog.godebug = none := by kernel_rfl
theorem laidOut : laidOutB Try.prog = true := by kernel_rfl

theorem len4 {α : Type} (l : List α) (h : l.length = 4) : ∃ x0 x1 x2 x3, l = [x0, x1, x2, x3] := by
  match l, h with
  | [x0, x1, x2, x3], _ => exact ⟨x0, x1, x2, x3, rfl⟩

set_option maxRecDepth 100000 in
set_option maxHeartbeats 1000000 in
theorem lifted (os : Os) (started : os.Started) (H : Type) (enc : TypeId × Value → H) :
    ReturnsInHanded {} Try.checked os 9 .any (Rows.registerFollowsSpec.pre6 enc Try.prog Try.f9 Rows.registerFollowsRow.domain false) (Rows.registerFollowsSpec.post enc Try.prog Try.f9 false true false false) := by
  refine returnsInHanded_of_change (C := Try.checked) own started (by kernel_rfl) Try.func9
    (ChangeSpec.witness6 (enc := enc) (C := Try.checked) false ⟨#[], #[.agg #[.int .i64 0, .int .i64 0, .slice none 0 0, .slice none 0 0], .int .i64 0, .slice none 0 0], []⟩ 8 (by kernel_rfl) (by kernel_rfl) (by kernel_rfl) (by kernel_rfl)) ?_
  intro W base args ds gs before hval0 hW hcnd _
  have hval : ∀ (j : Nat) t v, Try.f9.params[j]? = some t → args[j]? = some v → Value.okWide Try.prog W .any base t v := hval0
  have hW' := hW
  obtain ⟨p, q, hA0, hV, rfl, hfz, hnd⟩ := hW
  have hA : DataW.TrodAll enc Try.prog W 0 (fun _ => true) true Try.f9.params.toList args.toList ds p := hA0
  rw [Try.params9] at hA hval
  obtain ⟨v0, vs0, d0, ds0, p0, q0, hargs, rfl, rfl, h0, r0⟩ := trodAll_cons hA
  obtain ⟨v1, vs1, d1, ds1, p1, q1, rfl, rfl, rfl, h1, r1⟩ := trodAll_cons r0
  obtain ⟨v2, vs2, d2, ds2, p2, q2, rfl, rfl, rfl, h2, r2⟩ := trodAll_cons r1
  obtain ⟨rfl, rfl, rfl⟩ := trodAll_nil r2
  obtain rfl : args = #[v0, v1, v2] := by cases args; simp_all
  obtain ⟨rfl, rfl⟩ := trodVars_none hV
  have k0 := h0
  have lt0 : ∀ x ∈ p0, x.block < W.heap.size := by obtain ⟨m, hm⟩ := k0; exact DataW.trod_lt m _ _ _ hm
  have k1 := h1
  have lt1 : ∀ x ∈ p1, x.block < W.heap.size := by obtain ⟨m, hm⟩ := k1; exact DataW.trod_lt m _ _ _ hm
  have k2 := h2
  have lt2 : ∀ x ∈ p2, x.block < W.heap.size := by obtain ⟨m, hm⟩ := k2; exact DataW.trod_lt m _ _ _ hm
  obtain ⟨cs0, rfl, hsz0⟩ := okWide_struct Try.underlying25 (hval 0 25 v0 rfl rfl)
  obtain ⟨l0⟩ := cs0
  have ck0 : Try.prog.cellsOf 25 = 4 := by kernel_rfl
  rw [ck0] at hsz0
  obtain ⟨c0_0, c0_1, c0_2, c0_3, rfl⟩ := len4 l0 hsz0
  obtain ⟨m0, hm0⟩ := h0
  have hm0' : DataW.trod enc Try.prog W 0 (fun _ => true) true m0 25 [c0_0, c0_1, c0_2, c0_3] = some (d0, p0) := hm0
  obtain ⟨ys0, n0, _, _, _, hl0, hf0⟩ := DataW.trod_struct Try.underlying25 hm0'
  have hl0' : ys0.length = 4 := hl0
  obtain ⟨y0_0, t0_0⟩ : ∃ y, DataW.trod enc Try.prog W 0 (fun _ => true) true n0 3 [c0_0] = some y := field_at hf0 0 _ 3 0 1 rfl rfl rfl (by kernel_rfl) (by omega)
  obtain ⟨a0, rfl, w0⟩ := leaf_int Try.underlying3 t0_0
  obtain ⟨y0_1, t0_1⟩ : ∃ y, DataW.trod enc Try.prog W 0 (fun _ => true) true n0 3 [c0_1] = some y := field_at hf0 1 _ 3 1 1 rfl rfl rfl (by kernel_rfl) (by omega)
  obtain ⟨a1, rfl, w1⟩ := leaf_int Try.underlying3 t0_1
  obtain ⟨y0_2, t0_2⟩ : ∃ y, DataW.trod enc Try.prog W 0 (fun _ => true) true n0 22 [c0_2] = some y := field_at hf0 2 _ 22 2 1 rfl rfl rfl (by kernel_rfl) (by omega)
  obtain ⟨A2, c2, x2, rfl, r2_, w2⟩ := leaf_sl Try.underlying22 Try.underlying3 (by kernel_rfl) (fun _ => rfl) t0_2
  obtain ⟨y0_3, t0_3⟩ : ∃ y, DataW.trod enc Try.prog W 0 (fun _ => true) true n0 23 [c0_3] = some y := field_at hf0 3 _ 23 3 1 rfl rfl rfl (by kernel_rfl) (by omega)
  obtain ⟨A3, c3, x3, rfl, r3_⟩ := leaf_trm Try.underlying23 (by kernel_rfl) Try.underlying96 (by kernel_rfl) Try.underlying95 (by kernel_rfl) Try.underlying94 rfl rfl rfl rfl rfl rfl rfl rfl rfl Try.underlying3 Try.underlying22 Try.underlying3 (by kernel_rfl) (by kernel_rfl) (by kernel_rfl) (fun _ => rfl) t0_3
  obtain ⟨a4, rfl, rfl, rfl, w4⟩ := open_int Try.underlying3 (hval 1 3 v1 rfl rfl) h1
  obtain ⟨A5, c5, x5, rfl, r5_, w5⟩ := open_prs Try.underlying26 Try.underlying63 (by kernel_rfl) rfl rfl rfl rfl rfl rfl Try.underlying3 Try.underlying3 (by kernel_rfl) (by kernel_rfl) (hval 2 26 v2 rfl rfl) h2
  clear hA0 hval0
  refine (registerFollows_walk W a0 a1 A2 c2 x2 A3 c3 x3 a4 A5 c5 x5 w0 w1 r2_ w2 r3_ w4 r5_ w5).mono fun e W' ⟨he, bel⟩ => ?_
  subst he
  exact ⟨_, rfl, _, _, _, [], _, [], hW', trodAll_mk1 (shut_bool Try.underlying4 _), (trodAll_cons_mk (Below.trod laidOut (by kernel_rfl) (of_decide_eq_true (by kernel_rfl)) k0 bel lt0) (trodAll_cons_mk (Below.trod laidOut (by kernel_rfl) (of_decide_eq_true (by kernel_rfl)) k1 bel lt1) (trodAll_cons_mk (Below.trod laidOut (by kernel_rfl) (of_decide_eq_true (by kernel_rfl)) k2 bel lt2) trodAll_mk0))), rfl, bel.frame _, fun h => by cases h⟩

theorem over : Rows.registerFollowsRow.holds Try.pinned (OpenSpec.ofChange Rows.registerFollowsSpec) :=
  OpenClaim.holds_of_wide 9 Try.f9 rfl rfl rfl rfl rfl rfl rfl ⟨rfl, rfl, rfl, rfl, rfl⟩ rfl rfl rfl rfl rfl (by kernel_rfl) Try.func9 (by kernel_rfl)
    (of_decide_eq_true (by kernel_rfl)) (by unfold Func.isWrapper; first | (rw [if_pos (by decide +kernel)]; kernel_rfl) | (rw [if_neg (by decide +kernel)]; exact ⟨rfl, rfl⟩))
    (fun os started H enc _ => lifted os started H enc)

theorem proved : Rows.RegisterFollowsSaid := over
#print axioms proved
end Go.Proofs.Ytaoebjabdejpoaa.registerFollows

