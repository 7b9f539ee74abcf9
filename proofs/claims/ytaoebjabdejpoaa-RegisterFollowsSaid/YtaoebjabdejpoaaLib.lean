/- General lemmas on worlds, slices that read as lists, rows that the call owns, and append: nothing of the program but what is said of a program that is a variable. -/
import Derived.WalkKit
import Derived.WalkSpells
import Derived.WalkLawsBesides
import Derived.Lib.Hide
import Derived.Laws.Bits64
import Derived.Laws.BitsAllLaws
import Derived.Deep.QuietTactic
import Derived.BigQuiet
import Derived.Deep.LoopGhost
import Derived.Deep.OwnRows
import Derived.Deep.AppendLies
import Derived.Maps.AppendAt
import Derived.OwnWalk
namespace Go.Proofs.Ytaoebjabdejpoaa
open Go.RowKit

theorem ret_i {k : IntKind} {a b : Int} (h : a = b) : Ending.returned (.int k a) = .returned (.int k b) := by rw [h]
theorem ret_b {a b : Bool} (h : a = b) : Ending.returned (.bool a) = .returned (.bool b) := by rw [h]
theorem ret2i {j k : IntKind} {a b c d : Int} (h : a = c) (g : b = d) : Ending.returned (.tuple #[.int j a, .int k b]) = .returned (.tuple #[.int j c, .int k d]) := by rw [h, g]
theorem ret3i {j k l : IntKind} {a b c d x y : Int} (h : a = c) (g : b = d) (f : x = y) : Ending.returned (.tuple #[.int j a, .int k b, .int l x]) = .returned (.tuple #[.int j c, .int k d, .int l y]) := by rw [h, g, f]
theorem ret3v {v : Value} {k l : IntKind} {c d x y : Int} (g : c = d) (f : x = y) : Ending.returned (.tuple #[v, .int k c, .int l x]) = .returned (.tuple #[v, .int k d, .int l y]) := by rw [g, f]
theorem ret2v {v : Value} {k : IntKind} {c d : Int} (g : c = d) : Ending.returned (.tuple #[v, .int k c]) = .returned (.tuple #[v, .int k d]) := by rw [g]
theorem dd (w : World) (a b : Nat) : ∃ m, (w.drewN a).drewN b = w.drewN m := ⟨a + b, World.drewN_drewN ..⟩
theorem below_drewN' {B : Nat} {a w : World} (h : Below B a w) (n : Nat) : Below B a (w.drewN n) := ⟨h.os, h.tape, h.output, h.size, h.block⟩
theorem below_of_drewN {B : Nat} {a w : World} {n : Nat} (h : Below B (a.drewN n) w) : Below B a w := ⟨h.os, h.tape, h.output, h.size, h.block⟩
/-- what was there is there, behind a call that keeps all old blocks -/
theorem bcell {W w1 : World} (hb : Below W.heap.size W w1) : (∀ b o, b < W.heap.size → w1.cell? ⟨b, o, none⟩ = W.cell? ⟨b, o, none⟩) ∧ (∀ b o, b < W.heap.size → w1.frozen? ⟨b, o, none⟩ = W.frozen? ⟨b, o, none⟩) :=
  ⟨fun b o h => hb.cell (p := ⟨b, o, none⟩) h, fun b o h => hb.frozen (p := ⟨b, o, none⟩) h⟩
theorem below_seq {a b c : World} (h : Below a.heap.size a b) (k : Below b.heap.size b c) : Below a.heap.size a c := h.trans (k.mono h.size)
theorem below_seqB {B : Nat} {a b c : World} (h : Below B a b) (hB : B ≤ a.heap.size) (k : Below b.heap.size b c) : Below B a c := h.trans (k.mono (Nat.le_trans hB h.size))

/-- a slice value's length, for measures -/
def lenOf : Value → Nat
  | .slice _ n _ => n
  | _ => 0
/-! ### a slice that reads as a list: of cells; of ints; of bytes -/
def RdV (w : World) (A : Option Addr) (xs : List Value) : Prop :=
  xs.length ≤ 9223372036854775807 ∧ (0 < xs.length → ∃ ad, A = some ad ∧ ∀ i u, xs[i]? = some u → w.cell? (ad.add i) = some u)
/-- integers of a kind -/
def RdK (k : IntKind) (w : World) (A : Option Addr) (xs : List Int) : Prop :=
  xs.length ≤ 9223372036854775807 ∧ (0 < xs.length → ∃ ad, A = some ad ∧ ∀ i, i < xs.length → w.cell? (ad.add i) = some (.int k (xs.getD i 0)))
abbrev Rd (w : World) (A : Option Addr) (xs : List Int) : Prop := RdK .i64 w A xs
section
variable {k : IntKind} {w w' : World} {A : Option Addr} {xs : List Int}
theorem RdK.at_ (h : RdK k w A xs) {i : Nat} (hi : i < xs.length) : ∃ ad x, A = some ad ∧ xs.getD i 0 = x ∧ w.cell? (ad.add i) = some (.int k x) := by
  obtain ⟨ad, e, hc⟩ := h.2 (by omega)
  exact ⟨ad, _, e, rfl, hc i hi⟩
theorem RdK.keep (h : RdK k w A xs) (hb : Below w.heap.size w w') : RdK k w' A xs := by
  refine ⟨h.1, fun hp => ?_⟩
  obtain ⟨ad, e, hc⟩ := h.2 hp
  refine ⟨ad, e, fun i hi => ?_⟩
  rw [hb.cell (World.block_lt_of_cell? _ _ (hc i hi))]; exact hc i hi
theorem RdK.drewN (h : RdK k w A xs) (n : Nat) : RdK k (w.drewN n) A xs := h
theorem RdK.nil : RdK k w A [] := ⟨by simp, fun h => absurd h (by simp)⟩
theorem RdV.keep {ys : List Value} (h : RdV w A ys) (hb : Below w.heap.size w w') : RdV w' A ys := by
  refine ⟨h.1, fun hp => ?_⟩
  obtain ⟨ad, e, hc⟩ := h.2 hp
  refine ⟨ad, e, fun i u hu => ?_⟩
  rw [hb.cell (World.block_lt_of_cell? _ _ (hc i u hu))]; exact hc i u hu
end

theorem range_get {α : Type} {n i : Nat} {f : Nat → α} {u : α} (h : ((List.range n).map f)[i]? = some u) : i < n ∧ f i = u := by
  by_cases hi : i < n
  · rw [List.getElem?_map, List.getElem?_range hi] at h
    exact ⟨hi, by simpa using h⟩
  · rw [List.getElem?_eq_none (by simp; omega)] at h; cases h
/-! ### rows of the call's own -/
theorem row_own {w : World} {b n : Nat} {t : TypeId} {f : Nat → Value} {base : Nat} (h : w.rowIs b t n f) (hb : base ≤ b) (hn : n ≤ 1152921504606846976) : w.ownsRow base t 1 (.slice (some ⟨b, 0, none⟩) n n) n ((List.range n).map f) := by
  obtain ⟨c, hc, hs, hf⟩ := h
  refine ⟨by simp, .inr ⟨b, n, c, rfl, hb, hc, Nat.le_refl _, by unfold maxLen; omega, by simpa using hs, ?_⟩⟩
  apply List.ext_getElem?
  intro i
  rw [Nat.mul_one, List.getElem?_take]
  by_cases hi : i < n
  · rw [if_pos hi]; simp [hf i hi, hi]
  · rw [if_neg hi, List.getElem?_eq_none (by simp; omega)]
theorem row_own_of {w : World} {b n : Nat} {t : TypeId} {f : Nat → Value} {base : Nat} {ys : List Value} (h : w.rowIs b t n f) (hb : base ≤ b) (hn : n ≤ 1152921504606846976) (hl : ys.length = n) (hf : ∀ i u, ys[i]? = some u → f i = u) : w.ownsRow base t 1 (.slice (some ⟨b, 0, none⟩) n n) n ys := by
  have e : (List.range n).map f = ys := by
    apply List.ext_getElem?
    intro i
    by_cases hi : i < n
    · have := hf i (ys[i]'(by omega)) (List.getElem?_eq_getElem (by omega))
      rw [List.getElem?_map, List.getElem?_range hi, List.getElem?_eq_getElem (by omega)]
      simp [this]
    · rw [List.getElem?_eq_none (by simp; omega), List.getElem?_eq_none (by omega)]
  rw [← e]; exact row_own h hb hn
theorem own_rdv {w : World} {base n e : Nat} {A : Option Addr} {c : Nat} {ys : List Value} (h : w.ownsRow base e 1 (.slice A n c) n ys) (hn : n ≤ 1152921504606846976) : ys.length = n ∧ RdV w A ys := by
  have hl : ys.length = n := by have := h.1; simpa using this
  refine ⟨hl, by omega, fun hp => ?_⟩
  rcases h.2 with ⟨_, h0⟩ | ⟨g, cap, cur, hv, _⟩
  · omega
  · injection hv with hA _ _
    subst hA
    exact ⟨_, rfl, fun i u hu => h.cells (g := g) rfl i u hu⟩
theorem rdv_rd {k : IntKind} {w : World} {A : Option Addr} {xs : List Int} (h : RdV w A (xs.map (.int k))) : RdK k w A xs := by
  refine ⟨by simpa using h.1, fun hp => ?_⟩
  obtain ⟨ad, e, hc⟩ := h.2 (by simpa using hp)
  exact ⟨ad, e, fun i hi => hc i _ (by simp [hi])⟩
theorem own_rd {k : IntKind} {w : World} {base n e : Nat} {A : Option Addr} {c : Nat} {xs : List Int} (h : w.ownsRow base e 1 (.slice A n c) n (xs.map (.int k))) (hn : n ≤ 1152921504606846976) : xs.length = n ∧ RdK k w A xs := by
  obtain ⟨h1, h2⟩ := own_rdv h hn
  exact ⟨by simpa using h1, rdv_rd h2⟩
theorem own_slice {w : World} {base n e size : Nat} {v : Value} {ys : List Value} (h : w.ownsRow base e size v n ys) : ∃ A c, v = .slice A n c := by
  rcases h.2 with ⟨rfl, rfl⟩ | ⟨g, cap, cur, rfl, _⟩
  · exact ⟨_, _, rfl⟩
  · exact ⟨_, _, rfl⟩
theorem own_keep {w w' : World} {base e size n : Nat} {v : Value} {ys : List Value} (h : w.ownsRow base e size v n ys) (hb : Below w.heap.size w w') : w'.ownsRow base e size v n ys := by
  refine ⟨h.1, ?_⟩
  rcases h.2 with h0 | ⟨g, cap, cur, hv, hg, hh, hr⟩
  · exact .inl h0
  · refine .inr ⟨g, cap, cur, hv, hg, ?_, hr⟩
    rw [hb.block g (by rcases Nat.lt_or_ge g w.heap.size with hlt | hge; exact hlt; rw [Array.getElem?_eq_none hge] at hh; cases hh)]; exact hh
theorem own_mono {w : World} {base base' e size n : Nat} {v : Value} {ys : List Value} (h : w.ownsRow base e size v n ys) (hb : base' ≤ base) : w.ownsRow base' e size v n ys := by
  refine ⟨h.1, ?_⟩
  rcases h.2 with h0 | ⟨g, cap, cur, hv, hg, hr⟩
  · exact .inl h0
  · exact .inr ⟨g, cap, cur, hv, Nat.le_trans hb hg, hr⟩
theorem own_drewN {w : World} {base e size n : Nat} {v : Value} {ys : List Value} (h : w.ownsRow base e size v n ys) (k : Nat) : (w.drewN k).ownsRow base e size v n ys := h

/-- what behind an append may be said of all blocks below the row's base -/
theorem grown_below {w w' : World} {base e size n : Nat} {v : Value} {ys : List Value} (h : w.ownsRow base e size v n ys) (hbase : base ≤ w.heap.size) (hg : w.grownBy w' v.ownBlock) {B : Nat} {w0 : World} (hB : B ≤ base) (hb : Below B w0 w) : Below B w0 w' :=
  hb.grown hg (Nat.le_trans hB hbase) fun k hk => Nat.le_trans hB (h.lt k hk).1

section
variable {P : Program} {ops : Array Oper} {rest : List Oper} {o : Oper} {a : Act} {Q : Exit → Act → World → Prop}
/-- append of one element that the translation has laid in a box of its own -/
theorem app1 (hgd : o.guard = none) (s x : Operand) (t e : TypeId) (z : Value) (bytes : Nat) (ho : o.op = .call { callee := .builtin .append, args := #[s, x], argTypes := #[t, t] })
    (ht : P.underlying t = some (.slice e)) (hinfo : (P.info? e).map (fun i => (i.zero, i.size, i.bytes)) = some (some z, 1, bytes)) (hz1 : z.cells.size = 1) (hby : bytes ≤ 64)
    {W : World} {base : Nat} {v : Value} {n : Nat} {ys : List Value} {y : Value} (hs : a.eval s = v) (hx : a.eval x = .slice (some ⟨W.heap.size, 0, none⟩) 1 1) (hown : W.ownsRow base e 1 v n ys) (hy : y.oneCell' = true)
    (hn : n ≤ 1099511627776) (hbase : base ≤ W.heap.size)
    (h : ∀ v' w', w'.ownsRow base e 1 v' (n + 1) (ys ++ [y]) → (∀ (B : Nat) (w0 : World), B ≤ base → Below B w0 W → Below B w0 w') → base ≤ w'.heap.size → wpList P ops Q rest (a.put o.dst v') w') :
    wpList P ops Q (o :: rest) a (W.alloc (.cells #[y] e)) := by
  obtain ⟨i0, hi, hz0, hz1', hz2⟩ := info_parts hinfo
  refine wpList_append_own _ hgd s x t ho base e i0 z 1 bytes ht hi hz0 hz1' hz2 hz1 (by decide) v n ys hs (hown.alloc _) ⟨W.heap.size, 0, none⟩ 1 1 [y] hx rfl (cell_one_new _ _ _) (by simpa using hy) (by unfold maxLen; omega) ?_ (by simp; omega) ?_
  · have : (n + 1) * bytes ≤ (n + 1) * 64 := Nat.mul_le_mul_left _ hby
    omega
  · intro v' w' h1 h2 _
    refine h v' w' h1 (fun B w0 hB hb => grown_below (hown.alloc _) (by simp; omega) h2 hB (hb.alloc (by omega) _)) ?_
    have := h2.size; simp at this; omega
end
end Go.Proofs.Ytaoebjabdejpoaa
