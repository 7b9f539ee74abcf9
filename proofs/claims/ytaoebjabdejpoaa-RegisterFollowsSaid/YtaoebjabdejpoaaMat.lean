/- Slices of slices that the call has made: kept, read, appended to. -/
import Derived.Test.YtaoebjabdejpoaaApp
namespace Go.Proofs.Ytaoebjabdejpoaa
open Go.RowKit

theorem own_ne {w : World} {b1 e1 s1 n1 b2 e2 s2 n2 : Nat} {v u : Value} {xs ys : List Value} (h : w.ownsRow b1 e1 s1 v n1 xs) (k : w.ownsRow b2 e2 s2 u n2 ys) (hne : e1 ≠ e2) : v.ownBlock = none ∨ v.ownBlock ≠ u.ownBlock := by
  rcases h.2 with ⟨rfl, _⟩ | ⟨g, cap, cur, rfl, _, hh, _⟩
  · exact .inl rfl
  · right
    rcases k.2 with ⟨rfl, _⟩ | ⟨g', cap', cur', rfl, _, hh', _⟩
    · simp [Value.ownBlock]
    · intro e
      have : g = g' := by simpa [Value.ownBlock] using e
      subst this
      rw [hh] at hh'
      injection hh' with hh'
      injection hh' with _ ht
      exact hne ht

/-- a slice of slices of ints, the call's own: e1 the outer row's element type, e2 the inner rows' -/
def OwnM (w : World) (base e1 e2 : Nat) (v : Value) (xss : List (List Int)) : Prop :=
  ∃ ys, w.ownsRow base e1 1 v xss.length ys ∧ ∀ i, i < xss.length → ∃ B c, ys[i]? = some (.slice B (xss.getD i []).length c) ∧ w.ownsRow base e2 1 (.slice B (xss.getD i []).length c) (xss.getD i []).length ((xss.getD i []).map (.int .i64))
theorem OwnM.nil (w : World) (base e1 e2 : Nat) : OwnM w base e1 e2 (.slice none 0 0) [] := ⟨[], World.ownsRow_nil _ _ _ _, fun i hi => by simp at hi⟩
theorem OwnM.keep {w w' : World} {base e1 e2 : Nat} {v : Value} {xss : List (List Int)} (h : OwnM w base e1 e2 v xss) (hb : Below w.heap.size w w') : OwnM w' base e1 e2 v xss := by
  obtain ⟨ys, h1, h2⟩ := h
  refine ⟨ys, own_keep h1 hb, fun i hi => ?_⟩
  obtain ⟨B, c, h3, h4⟩ := h2 i hi
  exact ⟨B, c, h3, own_keep h4 hb⟩
theorem OwnM.mono {w : World} {base base' e1 e2 : Nat} {v : Value} {xss : List (List Int)} (h : OwnM w base e1 e2 v xss) (hb : base' ≤ base) : OwnM w base' e1 e2 v xss := by
  obtain ⟨ys, h1, h2⟩ := h
  refine ⟨ys, own_mono h1 hb, fun i hi => ?_⟩
  obtain ⟨B, c, h3, h4⟩ := h2 i hi
  exact ⟨B, c, h3, own_mono h4 hb⟩
theorem OwnM.slice {w : World} {base e1 e2 : Nat} {v : Value} {xss : List (List Int)} (h : OwnM w base e1 e2 v xss) : ∃ A c, v = .slice A xss.length c := by
  obtain ⟨ys, h1, _⟩ := h
  exact own_slice h1
theorem OwnM.rd {w : World} {base e1 e2 : Nat} {A : Option Addr} {c : Nat} {xss : List (List Int)} (h : OwnM w base e1 e2 (.slice A xss.length c) xss) (hn : xss.length ≤ 1152921504606846976) (hm : ∀ i, i < xss.length → (xss.getD i []).length ≤ 1152921504606846976) : RdM .i64 w A xss := by
  obtain ⟨ys, h1, h2⟩ := h
  obtain ⟨hl, hr⟩ := own_rdv h1 hn
  refine ⟨by omega, fun hp => ?_⟩
  obtain ⟨ad, e, hc⟩ := hr.2 (by omega)
  refine ⟨ad, e, fun i hi => ?_⟩
  obtain ⟨B, d, h3, h4⟩ := h2 i hi
  exact ⟨B, d, hc i _ h3, (own_rd h4 (hm i hi)).2⟩

section
variable {P : Program} {ops : Array Oper} {rest : List Oper} {o : Oper} {a : Act} {Q : Exit → Act → World → Prop}
/-- append of one row, which the translation has laid in a box of its own -/
theorem appM (hgd : o.guard = none) (s x : Operand) (t e1 e2 : TypeId) (ho : o.op = .call { callee := .builtin .append, args := #[s, x], argTypes := #[t, t] })
    (ht : P.underlying t = some (.slice e1)) (hinfo : (P.info? e1).map (fun i => (i.zero, i.size, i.bytes)) = some (some (.slice none 0 0), 1, 24)) (hne : e1 ≠ e2)
    {W : World} {base : Nat} {v : Value} {xss : List (List Int)} {B : Option Addr} {m c : Nat} {xs : List Int} (hs : a.eval s = v) (hx : a.eval x = .slice (some ⟨W.heap.size, 0, none⟩) 1 1) (hown : OwnM W base e1 e2 v xss) (hl : xs.length = m)
    (hrow : W.ownsRow base e2 1 (.slice B m c) m (xs.map (.int .i64)))
    (hn : xss.length ≤ 1099511627776) (hbase : base ≤ W.heap.size)
    (h : ∀ v' w', OwnM w' base e1 e2 v' (xss ++ [xs]) → (∀ (b : Nat) (w0 : World), b ≤ base → Below b w0 W → Below b w0 w') → base ≤ w'.heap.size → wpList P ops Q rest (a.put o.dst v') w') :
    wpList P ops Q (o :: rest) a (W.alloc (.cells #[.slice B m c] e1)) := by
  obtain ⟨i0, hi, hz0, hz1', hz2⟩ := info_parts hinfo
  obtain ⟨ys, h1, h2⟩ := hown
  have hyl : ys.length = xss.length := by have := h1.1; simpa using this
  refine wpList_append_own _ hgd s x t ho base e1 i0 _ 1 24 ht hi hz0 hz1' hz2 rfl (by decide) v xss.length ys hs (h1.alloc _) ⟨W.heap.size, 0, none⟩ 1 1 [.slice B m c] hx rfl (cell_one_new _ _ _) (by intro u hu; simp at hu; subst hu; rfl) (by unfold maxLen; omega) (by omega) (by simp; omega) ?_
  intro v' w' g1 g2 _
  refine h v' w' ⟨_, by simpa using g1, fun i hi => ?_⟩ (fun b w0 hB hb => grown_below (h1.alloc _) (by simp; omega) g2 hB (hb.alloc (by omega) _)) ?_
  · by_cases hix : i < xss.length
    · obtain ⟨C, d, h3, h4⟩ := h2 i hix
      have e : (xss ++ [xs]).getD i [] = xss.getD i [] := by
        rw [List.getD_eq_getElem?_getD, List.getD_eq_getElem?_getD, List.getElem?_append_left hix]
      rw [e]
      refine ⟨C, d, by rw [List.getElem?_append_left (by omega)]; exact h3, ?_⟩
      exact (h4.alloc _).kept g2 (own_ne h4 h1 (Ne.symm hne))
    · have hi' : i = xss.length := by simp at hi; omega
      subst hi'
      have e : (xss ++ [xs]).getD xss.length [] = xs := by
        rw [List.getD_eq_getElem?_getD, List.getElem?_append_right (by omega)]; simp
      rw [e, hl]
      refine ⟨B, c, by rw [List.getElem?_append_right (by omega), hyl]; simp, ?_⟩
      exact (hrow.alloc _).kept g2 (own_ne hrow h1 (Ne.symm hne))
  · have := g2.size; simp at this; omega
end
end Go.Proofs.Ytaoebjabdejpoaa
