/- append of a slice (nil, empty or not) onto a row of the call's own; matrices: slices of slices that read as lists of lists. -/
import Derived.Test.YtaoebjabdejpoaaLib
import Derived.Laws.AppendOwnNone
namespace Go.Proofs.Ytaoebjabdejpoaa
open Go.RowKit

section
variable {P : Program}
theorem run_app_nil {w : World} (base : Nat) (t ty e : TypeId) (i : TypeInfo) (size : Nat) (ht : P.underlying t = some (.slice e)) (hi : P.info? e = some i)
    (v : Value) (n : Nat) (xs : List Value) (hown : w.ownsRow base e size v n xs) (c : Nat) : (Builtin.append_ #[t, t] ty #[v, .slice none 0 c]).run P w = .ok v w := by
  rcases hown.2 with ⟨rfl, rfl⟩ | ⟨g, cap, cur, rfl, _, _, hnc, _⟩
  · simp [Builtin.append_, run_underlying ht, sizeOf, typeInfo, hi, Builtin.lenOf, Builtin.firstCells]
  · simp [Builtin.append_, run_underlying ht, sizeOf, typeInfo, hi, Builtin.lenOf, Builtin.firstCells, hnc, storeCells]

variable {ops : Array Oper} {rest : List Oper} {o : Oper} {a : Act} {Q : Exit → Act → World → Prop}
theorem wpList_app_nil {w : World} (hgd : o.guard = none) (s x : Operand) (t : TypeId) (ho : o.op = .call { callee := .builtin .append, args := #[s, x], argTypes := #[t, t] })
    (base : Nat) (e : TypeId) (i : TypeInfo) (size : Nat) (ht : P.underlying t = some (.slice e)) (hi : P.info? e = some i)
    (v : Value) (n : Nat) (xs : List Value) (hs : a.eval s = v) (hown : w.ownsRow base e size v n xs) (c : Nat) (hx : a.eval x = .slice none 0 c)
    (h : wpList P ops Q rest (a.put o.dst v) w) : wpList P ops Q (o :: rest) a w := by
  refine wpList_plain hgd fun K hK => ?_
  have hrun := run_app_nil (P := P) (w := w) base t o.type e i size ht hi v n xs hown c
  unfold Oper.wp
  simp [execOp, ho, resolve, invoke, builtin, hs, hx, hrun, Result.andThen]
  exact hK _ _ h

/-- append(v, x...) -/
theorem appN (hgd : o.guard = none) (s x : Operand) (t e : TypeId) (z : Value) (bytes : Nat) (ho : o.op = .call { callee := .builtin .append, args := #[s, x], argTypes := #[t, t] })
    (ht : P.underlying t = some (.slice e)) (hinfo : (P.info? e).map (fun i => (i.zero, i.size, i.bytes)) = some (some z, 1, bytes)) (hz1 : z.cells.size = 1) (hby : bytes ≤ 64)
    {W : World} {base : Nat} {v : Value} {n : Nat} {ys : List Value} {A : Option Addr} {m c : Nat} {zs : List Value} (hs : a.eval s = v) (hx : a.eval x = .slice A m c) (hm : zs.length = m) (hown : W.ownsRow base e 1 v n ys) (hr : RdV W A zs) (h1 : ∀ u ∈ zs, u.oneCell' = true)
    (hn : n + m ≤ 1099511627776) (hbase : base ≤ W.heap.size)
    (h : ∀ v' w', w'.ownsRow base e 1 v' (n + m) (ys ++ zs) → (∀ (B : Nat) (w0 : World), B ≤ base → Below B w0 W → Below B w0 w') → base ≤ w'.heap.size → wpList P ops Q rest (a.put o.dst v') w') :
    wpList P ops Q (o :: rest) a W := by
  obtain ⟨i0, hi, hz0, hz1', hz2⟩ := info_parts hinfo
  rcases A with _ | ad
  · have h0 : zs.length = 0 := by
      rcases Nat.eq_zero_or_pos zs.length with h0 | h0
      · exact h0
      · obtain ⟨ad, h, _⟩ := hr.2 h0; cases h
    have hz : zs = [] := List.eq_nil_of_length_eq_zero h0
    have hm0 : m = 0 := by omega
    subst hm0
    subst hz
    refine wpList_app_nil hgd s x t ho base e i0 1 ht hi v n ys hs hown c hx ?_
    exact h v W (by simpa using hown) (fun _ _ _ hb => hb) hbase
  · have hcells : ∀ j u, zs[j]? = some u → W.cell? (ad.add j) = some u := by
      intro j u hu
      have hp : 0 < zs.length := by
        rcases Nat.eq_zero_or_pos zs.length with h0 | h0
        · rw [List.eq_nil_of_length_eq_zero h0] at hu; simp at hu
        · exact h0
      obtain ⟨ad', e', hc⟩ := hr.2 hp
      cases e'
      exact hc j u hu
    refine wpList_append_own _ hgd s x t ho base e i0 z 1 bytes ht hi hz0 hz1' hz2 hz1 (by decide) v n ys hs hown ad m c zs hx (by omega) hcells h1 (by unfold maxLen; omega) ?_ hbase ?_
    · have : (n + m) * bytes ≤ (n + m) * 64 := Nat.mul_le_mul_left _ hby
      omega
    · intro v' w' h1 h2 _
      refine h v' w' h1 (fun B w0 hB hb => grown_below hown hbase h2 hB hb) ?_
      have := h2.size; omega
end

/-! ### slices of slices -/
def RdM (k : IntKind) (w : World) (A : Option Addr) (xss : List (List Int)) : Prop :=
  xss.length ≤ 9223372036854775807 ∧ (0 < xss.length → ∃ ad, A = some ad ∧ ∀ i, i < xss.length → ∃ B c, w.cell? (ad.add i) = some (.slice B (xss.getD i []).length c) ∧ RdK k w B (xss.getD i []))
theorem RdM.at_ {k : IntKind} {w : World} {A : Option Addr} {xss : List (List Int)} (h : RdM k w A xss) {i : Nat} (hi : i < xss.length) :
    ∃ ad B c xs, A = some ad ∧ xss.getD i [] = xs ∧ w.cell? (ad.add i) = some (.slice B xs.length c) ∧ RdK k w B xs := by
  obtain ⟨ad, e, hc⟩ := h.2 (by omega)
  obtain ⟨B, c, h1, h2⟩ := hc i hi
  exact ⟨ad, B, c, _, e, rfl, h1, h2⟩
theorem RdM.keep {k : IntKind} {w w' : World} {A : Option Addr} {xss : List (List Int)} (h : RdM k w A xss) (hb : Below w.heap.size w w') : RdM k w' A xss := by
  refine ⟨h.1, fun hp => ?_⟩
  obtain ⟨ad, e, hc⟩ := h.2 hp
  refine ⟨ad, e, fun i hi => ?_⟩
  obtain ⟨B, c, h1, h2⟩ := hc i hi
  exact ⟨B, c, by rw [hb.cell (World.block_lt_of_cell? _ _ h1)]; exact h1, h2.keep hb⟩
theorem RdM.nil {k : IntKind} {w : World} {A : Option Addr} : RdM k w A [] := ⟨by simp, fun h => absurd h (by simp)⟩
theorem RdK.vals {k : IntKind} {w : World} {A : Option Addr} {xs : List Int} (h : RdK k w A xs) : RdV w A (xs.map (.int k)) := by
  refine ⟨by simpa using h.1, fun hp => ?_⟩
  obtain ⟨ad, e, hc⟩ := h.2 (by simpa using hp)
  refine ⟨ad, e, fun i u hu => ?_⟩
  by_cases hi : i < xs.length
  · rw [hc i hi]
    rw [List.getElem?_map, List.getElem?_eq_getElem hi] at hu
    rw [List.getD_eq_getElem?_getD, List.getElem?_eq_getElem hi]
    simpa using hu
  · rw [List.getElem?_eq_none (by simp; omega)] at hu; cases hu
theorem ints_one (k : IntKind) (xs : List Int) : ∀ u ∈ xs.map (Value.int k), u.oneCell' = true := ints_oneCell k xs
end Go.Proofs.Ytaoebjabdejpoaa
