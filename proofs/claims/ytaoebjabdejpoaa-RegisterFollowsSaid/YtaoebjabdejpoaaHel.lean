/- Drawn regions whose loads are taken first although a later operation of the region overwrites what they read: what is said of the world is said until one of the late operations has come up. -/
import Derived.Test.YtaoebjabdejpoaaReg
namespace Go.Proofs.Ytaoebjabdejpoaa
open Go.RowKit

section
variable {P : Program} {ops : Array Oper} {Q : Exit → Act → World → Prop} {md : Region.Mode} {late : List Nat} {Y : World → Prop}
/-- Y holds, as long as none of the late operations has come up -/
def Till (late : List Nat) (Y : World → Prop) (up : Array Bool) (w : World) : Prop := (∀ d ∈ late, up.getD d true = false) → Y w
/-- in whatever order: and what is said of the world holds behind each operation -/
def wpAnyL (P : Program) (md : Region.Mode) (ops : Array Oper) (Q : Exit → Act → World → Prop) (late : List Nat) (Y : World → Prop) : Nat → Array Bool → Act → World → Prop
  | 0, up, a, w => Region.ready md ops up = [] ∧ Q .normal a w
  | n + 1, up, a, w => (Region.ready md ops up = [] → Q .normal a w) ∧
    ∀ i ∈ Region.ready md ops up, wpOp P ops Q i (fun b x => Till late Y (up.setIfInBounds i true) x ∧ wpAnyL P md ops Q late Y n (up.setIfInBounds i true) b x) a w
theorem wpAnyL_any : ∀ (n : Nat) (up : Array Bool) (a : Act) (w : World), wpAnyL P md ops Q late Y n up a w → wpAny P md ops Q n up a w := by
  intro n
  induction n with
  | zero => exact fun _ _ _ h => h
  | succ n ih => exact fun _ _ _ h => ⟨h.1, fun i hi => wpOp_mono (fun _ _ k => ih _ _ _ k.2) (h.2 i hi)⟩
theorem getD_setOther {up : Array Bool} {i d : Nat} (h : d ≠ i) : (up.setIfInBounds i true).getD d true = up.getD d true := by
  simp [Ne.symm h]
theorem wpAnyL_first {i : Nat} {oi : Oper} {v : Value} (hi : ops[i]? = some oi) (hsel : ∀ (j : Nat) (o : Oper) cs b, ops[j]? = some o → o.op ≠ .select cs b) (hQ : ∀ c a w, Q (.panic c) (a.put oi.dst v) w → Q (.panic c) a w)
    (hil : i ∉ late) (hlt : ∀ j oj, ops[j]? = some oj → (∀ e ∈ oj.after, Region.binds md e = true → e.on ≠ i) → j ∉ late) : ∀ (n : Nat) (up : Array Bool) (a : Act) (w : World),
      (∀ j oj, ops[j]? = some oj → j ≠ i → up.getD j true = false → (∀ e ∈ oj.after, Region.binds md e = true → e.on ≠ i) → oi.apart ops oj = true) →
      i ∈ Region.ready md ops up → YieldsIf P ops Y oi v a → Y w → (∀ d ∈ late, up.getD d true = false) →
      wpAnyL P md ops Q late Y n (up.setIfInBounds i true) (a.put oi.dst v) w → wpAnyL P md ops Q late Y (n + 1) up a w := by
  intro n
  induction n with
  | zero =>
    intro up a w _ hr hy hY _ H
    refine ⟨fun h => (by rw [h] at hr; cases hr), fun j hj => ?_⟩
    by_cases hne : j = i
    · subst hne
      exact hy.wpOp hi hY ⟨fun _ => hY, H⟩
    · have h1 := ready_mono hj hne
      rw [H.1] at h1; cases h1
  | succ n ih =>
    intro up a w hfree hr hy hY hlate H
    refine ⟨fun h => (by rw [h] at hr; cases hr), fun j hj => ?_⟩
    by_cases hne : j = i
    · subst hne
      exact hy.wpOp hi hY ⟨fun _ => hY, H⟩
    have hup : up.getD i true = false := (mem_ready.1 hr).1
    obtain ⟨hju, oj, hoj, hall⟩ := mem_ready.1 hj
    have hno : ∀ e ∈ oj.after, Region.binds md e = true → e.on ≠ i := by
      intro e he hb heq
      have h1 := hall e he hb
      rw [heq] at h1
      rcases Nat.lt_or_ge i up.size with hl | hl
      · simp [hl] at hup h1; rw [hup] at h1; cases h1
      · simp [Array.getElem?_eq_none hl] at h1
    have hjl : j ∉ late := hlt j oj hoj hno
    have hlate' : ∀ d ∈ late, (up.setIfInBounds j true).getD d true = false := fun d hd => by
      rw [getD_setOther (by rintro rfl; exact hjl hd)]; exact hlate d hd
    have step := wpOp_putIf hoj (hfree j oj hoj hne hju hno) (fun cs b => hsel i oi cs b hi) (fun cs b => hsel j oj cs b hoj) hQ hy (H.2 j (ready_mono hj hne))
    refine wpOp_mono (fun b x k => ?_) step
    obtain ⟨k1, k2, k3⟩ := k
    have hYx : Y x := k2 fun d hd => by
      rw [getD_setOther (by rintro rfl; exact hjl hd), getD_setOther (by rintro rfl; exact hil hd)]; exact hlate d hd
    rw [Array.setIfInBounds_comm _ _ (Ne.symm hne)] at k3
    refine ⟨fun _ => hYx, ih _ _ _ (fun l ol hl hli hlu hln => hfree l ol hl hli ?_ hln) (ready_mono hr (Ne.symm hne)) k1 hYx hlate' k3⟩
    by_cases hjk : l = j
    · subst hjk; exact hju
    · rwa [getD_setOther hjk] at hlu
/-- every late operation waits for i -/
def waitsFor (md : Region.Mode) (ops : Array Oper) (late : List Nat) (i : Nat) : Bool :=
  !late.contains i && late.all fun d => match ops[d]? with | some o => o.after.any (fun e => Region.binds md e && e.on == i) | none => true
theorem waitsFor_spec {i : Nat} (h : waitsFor md ops late i = true) : i ∉ late ∧ ∀ j oj, ops[j]? = some oj → (∀ e ∈ oj.after, Region.binds md e = true → e.on ≠ i) → j ∉ late := by
  unfold waitsFor at h
  simp only [Bool.and_eq_true, Bool.not_eq_true', List.all_eq_true] at h
  refine ⟨fun hm => ?_, fun j oj hj hn hm => ?_⟩
  · have := h.1; rw [List.contains_iff_mem.2 hm] at this; cases this
  · have h2 := h.2 j hm
    rw [hj] at h2
    simp only [Array.any_eq_true', Bool.and_eq_true, beq_iff_eq] at h2
    obtain ⟨e, he, hb, hon⟩ := h2
    exact hn e he hb hon
theorem takeL {i : Nat} {oi : Oper} {v : Value} {d : Option Tmp} {fuel : Nat} {up : Array Bool} {a : Act} {w : World} (hi : ops[i]? = some oi) (hd : oi.dst = d)
    (hs : Region.noSelect ops = true) (hf : Region.free md ops up i = true) (hr : (Region.ready md ops up).contains i = true) (hw : waitsFor md ops late i = true) (hl : late.all (fun d => up.getD d true == false) = true)
    (hQ : ∀ c a w, Q (.panic c) (a.put d v) w → Q (.panic c) a w) (hy : YieldsIf P ops Y oi v a) (hY : Y w)
    (h : wpAnyL P md ops Q late Y fuel (up.setIfInBounds i true) (a.put d v) w) : wpAnyL P md ops Q late Y (fuel + 1) up a w := by
  subst hd
  obtain ⟨h1, h2⟩ := waitsFor_spec hw
  exact wpAnyL_first hi (Region.noSelect_spec hs) hQ h1 h2 fuel up a w (Region.free_spec hi hf) (by simpa using hr) hy hY (fun d hd => by have := List.all_eq_true.1 hl d hd; simpa using this) h
/-- an operation that yields in every world: at any time -/
def AllL (P : Program) (md : Region.Mode) (ops : Array Oper) (Q : Exit → Act → World → Prop) (late : List Nat) (Y : World → Prop) (fuel : Nat) (up : Array Bool) (a : Act) (w : World) (rs : List Nat) : Prop :=
  ∀ i ∈ rs, wpOp P ops Q i (fun b x => Till late Y (up.setIfInBounds i true) x ∧ wpAnyL P md ops Q late Y fuel (up.setIfInBounds i true) b x) a w
section
variable {fuel : Nat} {up : Array Bool} {a : Act} {w : World} {i : Nat} {o : Oper} {rs : List Nat}
theorem AllL.nil : AllL P md ops Q late Y fuel up a w [] := fun _ h => by cases h
theorem AllL.cons (ho : ops[i]? = some o)
    (h : ∀ K : Act → World → Prop, Hid (∀ b x, Till late Y (up.setIfInBounds i true) x → wpAnyL P md ops Q late Y fuel (up.setIfInBounds i true) b x → K b x) → if Region.wanted o (yielded ops a.tmps) = true then Oper.wp P o a w K Q else K (a.put o.dst undef) w)
    (hs : AllL P md ops Q late Y fuel up a w rs) : AllL P md ops Q late Y fuel up a w (i :: rs) := fun j hj => by
  rcases List.mem_cons.1 hj with rfl | hj
  · exact wpOp_step ho fun K hK => h K (Lib.hid fun b x h1 h2 => hK b x ⟨h1, h2⟩)
  · exact hs j hj
theorem wpAnyL_ready (hr : Region.ready md ops up = rs) (hne : rs ≠ []) (h : AllL P md ops Q late Y fuel up a w rs) : wpAnyL P md ops Q late Y (fuel + 1) up a w :=
  ⟨fun h0 => absurd (hr ▸ h0) hne, hr ▸ h⟩
theorem wpAnyL_done (hr : Region.ready md ops up = []) (h : Q .normal a w) : ∀ fuel, wpAnyL P md ops Q late Y fuel up a w
  | 0 => ⟨hr, h⟩
  | _ + 1 => ⟨fun _ => h, by rw [hr]; simp⟩
theorem wp_region_L {id : Nat} (hm : P.follows .mixedOrders = true) (hY : Y w.drew) (h : Y w.drew → wpAnyL P .any ops Q late Y ops.size (Array.replicate ops.size false) a w.drew) : (Code.region id ops true).wp P Q a w :=
  wp_region_any hm (wpAnyL_any _ _ _ _ (h hY))
end
end
section
variable {P : Program} {ops : Array Oper} {rest : List Oper} {o : Oper} {a : Act} {w : World} {Q : Exit → Act → World → Prop}
theorem wp_app_run {K : Act → World → Prop} (s x : Operand) (t : TypeId) (ho : o.op = .call { callee := .builtin .append, args := #[s, x], argTypes := #[t, t] }) {v' : Value} {w' : World} (hr : (Builtin.append_ #[t, t] o.type #[a.eval s, a.eval x]).run P w = .ok v' w')
    (h : K (a.put o.dst v') w') : o.wp P a w K Q := by
  unfold Oper.wp execOp
  simp only [ho, resolve, invoke, builtin, Sem.run_bind, Sem.run_pure, Result.andThen_ok, List.map_toArray, List.map_cons, List.map_nil, hr]
  exact h
theorem wpList_app_run (hgd : o.guard = none) (s x : Operand) (t : TypeId) (ho : o.op = .call { callee := .builtin .append, args := #[s, x], argTypes := #[t, t] }) {v' : Value} {w' : World} (hr : (Builtin.append_ #[t, t] o.type #[a.eval s, a.eval x]).run P w = .ok v' w')
    (h : wpList P ops Q rest (a.put o.dst v') w') : wpList P ops Q (o :: rest) a w :=
  wpList_plain hgd fun _ hK => wp_app_run s x t ho hr (hK _ _ h)
end
end Go.Proofs.Ytaoebjabdejpoaa
