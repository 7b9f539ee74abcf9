/- Lists of structs that the call has made: what lies where; append. -/
import Derived.Test.YtaoebjabdejpoaaReg
import Derived.Maps.AppendAt
namespace Go.Proofs.Ytaoebjabdejpoaa
open Go.RowKit

theorem asize (w : World) (o : Obj) : (w.alloc o).heap.size = w.heap.size + 1 := by simp
theorem flat_len {α : Type} {el : α → List Value} {size : Nat} (hel : ∀ x, (el x).length = size) (q : List α) : (q.flatMap el).length = q.length * size := by
  induction q with
  | nil => simp
  | cons x q ih => rw [List.flatMap_cons, List.length_append, ih, hel, List.length_cons, Nat.add_mul]; omega
theorem flat_get {α : Type} {el : α → List Value} {size : Nat} (hel : ∀ x, (el x).length = size) (q : List α) {i j : Nat} {x : α} (hi : q[i]? = some x) (hj : j < size) : (q.flatMap el)[i * size + j]? = (el x)[j]? := by
  induction q generalizing i with
  | nil => simp at hi
  | cons y q ih =>
    rw [List.flatMap_cons]
    cases i with
    | zero =>
      simp at hi; subst hi
      rw [List.getElem?_append_left (by rw [hel]; omega)]; congr 1; omega
    | succ i =>
      have hi' : q[i]? = some x := by simpa using hi
      rw [List.getElem?_append_right (by rw [hel, Nat.add_mul]; omega), hel, show (i + 1) * size + j - size = i * size + j by rw [Nat.add_mul]; omega]
      exact ih hi'
/-- a slice of structs reads as a list -/
def RdL {α : Type} (el : α → List Value) (size : Nat) (w : World) (A : Option Addr) (q : List α) : Prop :=
  q.length ≤ 9223372036854775807 ∧ (0 < q.length → ∃ ad, A = some ad ∧ ∀ i x, q[i]? = some x → ∀ j u, (el x)[j]? = some u → w.cell? (ad.add (i * size + j)) = some u)
theorem RdL.at_ {α : Type} {el : α → List Value} {size : Nat} {w : World} {A : Option Addr} {q : List α} (h : RdL el size w A q) {i : Nat} {x : α} (hi : q[i]? = some x) : ∃ ad, A = some ad ∧ ∀ j u, (el x)[j]? = some u → w.cell? (ad.add (i * size + j)) = some u := by
  have hl : i < q.length := (List.getElem?_eq_some_iff.1 hi).1
  obtain ⟨ad, e, hc⟩ := h.2 (by omega)
  exact ⟨ad, e, hc i x hi⟩
theorem RdL.keep {α : Type} {el : α → List Value} {size : Nat} {w w' : World} {A : Option Addr} {q : List α} (h : RdL el size w A q) (hb : Below w.heap.size w w') : RdL el size w' A q := by
  refine ⟨h.1, fun hp => ?_⟩
  obtain ⟨ad, e, hc⟩ := h.2 hp
  exact ⟨ad, e, fun i x hi j u hu => keep_cell hb (hc i x hi j u hu)⟩
/-- the cells of an element, as a whole is loaded -/
theorem RdL.whole {α : Type} {el : α → List Value} {size : Nat} {w : World} {ad : Addr} {i : Nat} {x : α} (h : ∀ j u, (el x)[j]? = some u → w.cell? (ad.add (i * size + j)) = some u) : ∀ j u, (el x)[j]? = some u → w.cell? ((ad.add (i * size)).add j) = some u :=
  fun j u hu => by rw [ad_add]; exact h j u hu
/-- a list of structs that the call has made -/
abbrev OwnL {α : Type} (el : α → List Value) (size : Nat) (w : World) (base e : Nat) (v : Value) (q : List α) : Prop := w.ownsRow base e size v q.length (q.flatMap el)
theorem OwnL.rd {α : Type} {el : α → List Value} {size : Nat} (hel : ∀ x, (el x).length = size) {w : World} {base e : Nat} {A : Option Addr} {n c : Nat} {q : List α} (h : OwnL el size w base e (.slice A n c) q) (hn : q.length ≤ 1152921504606846976) : n = q.length ∧ RdL el size w A q := by
  rcases h.2 with ⟨hv, h0⟩ | ⟨g, cap, cur, hv, _⟩
  · injection hv with h1 h2 h3
    have hq : q = [] := List.eq_nil_of_length_eq_zero h0
    subst hq
    exact ⟨by simpa using h2, by simp, fun hp => by simp at hp⟩
  · injection hv with h1 h2 h3
    subst h1
    refine ⟨h2, by omega, fun hp => ⟨_, rfl, fun i x hi j u hu => ?_⟩⟩
    have hj : j < size := by
      rw [← hel x]; exact (List.getElem?_eq_some_iff.1 hu).1
    exact h.cells (g := g) rfl _ u (by rw [flat_get hel q hi hj]; exact hu)
theorem OwnL.form {α : Type} {el : α → List Value} {size : Nat} {w : World} {base e : Nat} {v : Value} {q : List α} (h : OwnL el size w base e v q) : ∃ A c, v = .slice A q.length c := own_slice h
section
variable {P : Program} {ops : Array Oper} {rest : List Oper} {o : Oper} {a : Act} {Q : Exit → Act → World → Prop}
/-- append of one struct that the translation has laid in a box of its own -/
theorem appL {α : Type} {el : α → List Value} {size : Nat} (hel : ∀ x, (el x).length = size) (hsz : 0 < size) (hgd : o.guard = none) (s x : Operand) (t e : TypeId) (z : Value) (bytes : Nat) (ho : o.op = .call { callee := .builtin .append, args := #[s, x], argTypes := #[t, t] })
    (ht : P.underlying t = some (.slice e)) (hinfo : (P.info? e).map (fun i => (i.zero, i.size, i.bytes)) = some (some z, size, bytes)) (hz1 : z.cells.size = size) (hby : bytes ≤ 64)
    {W : World} {base nb : Nat} {v : Value} {q : List α} {y : α} {cells : Array Value} (hc : cells.toList = el y) (hs : a.eval s = v) (hx : a.eval x = .slice (some ⟨nb, 0, none⟩) 1 1) (hnb : nb = W.heap.size) (hown : OwnL el size W base e v q) (hy : ∀ u ∈ el y, u.oneCell' = true)
    (hn : q.length ≤ 1099511627776) (hbase : base ≤ W.heap.size)
    (h : ∀ v' w', OwnL el size w' base e v' (q ++ [y]) → (W.alloc (.cells cells e)).grownBy w' v.ownBlock → (v'.ownBlock = v.ownBlock ∨ v'.ownBlock = some (W.heap.size + 1)) → (∀ (B : Nat) (w0 : World), B ≤ base → Below B w0 W → Below B w0 w') → base ≤ w'.heap.size → wpList P ops Q rest (a.put o.dst v') w') :
    wpList P ops Q (o :: rest) a (W.alloc (.cells cells e)) := by
  obtain ⟨i0, hi, hz0, hz1', hz2⟩ := info_parts hinfo
  subst hnb
  have hcl : (el y).length = size := hel y
  refine wpList_append_own_at _ hgd s x t ho base e i0 z size bytes ht hi hz0 hz1' hz2 hz1 hsz v q.length (q.flatMap el) hs (hown.alloc _) ⟨W.heap.size, 0, none⟩ 1 1 (el y) hx (by omega) ?_ hy (by unfold maxLen; omega) ?_ (by simp; omega) ?_
  · intro j u hu
    have e1 : (⟨W.heap.size, 0, none⟩ : Addr).add j = ⟨W.heap.size, j, none⟩ := by unfold Addr.add; split <;> simp_all
    rw [e1, (Blk.new W e cells).cell, ← hu, ← hc]
    simp
  · have : (q.length + 1) * bytes ≤ (q.length + 1) * 64 := Nat.mul_le_mul_left _ hby
    omega
  · intro v' w' h1 h2 _ h4
    have hsz' := h2.size
    rw [asize] at hsz' h4
    refine h v' w' ?_ h2 h4 (fun B w0 hB hb => grown_below (hown.alloc _) (by simp; omega) h2 hB (hb.alloc (by omega) _)) (by omega)
    show w'.ownsRow base e size v' (q ++ [y]).length ((q ++ [y]).flatMap el)
    rw [List.flatMap_append, List.length_append]
    simpa using h1
end
end Go.Proofs.Ytaoebjabdejpoaa
