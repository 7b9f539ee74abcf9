/- The reference's list of states of the unfolding as the call's own: each state's registers in a row of the call's own, apart from two lists that grow. -/
import Derived.Test.YtaoebjabdejpoaaPlc
namespace Go.Proofs.Ytaoebjabdejpoaa
open Go.RowKit

/-- the slice of a state's registers -/
abbrev rowV (p : Ps) : Value := .slice p.2.1 p.1.2.1.length p.2.2
structure OwnS (w : World) (base : Nat) (v vns vos : Value) (q : List Ps) : Prop where
  own : OwnL elS 3 w base 70 v q
  row : ∀ (i : Nat) p, q[i]? = some p → OwnL elI 1 w base 3 (rowV p) p.1.2.1
  ne : ∀ (i : Nat) p, q[i]? = some p → ∀ g, (rowV p).ownBlock = some g → vns.ownBlock ≠ some g ∧ vos.ownBlock ≠ some g
section
variable {w w' : World} {base : Nat} {v v' vns vns' vos vos' : Value} {q : List Ps}
theorem OwnS.keep (h : OwnS w base v vns vos q) (hb : Below w.heap.size w w') : OwnS w' base v vns vos q :=
  ⟨own_keep h.own hb, fun i p hp => own_keep (h.row i p hp) hb, h.ne⟩
theorem OwnS.kt {bad : Obj → Prop} (h : OwnS w base v vns vos q) (hk : Kt bad w w') (h1 : ∀ cs p, ¬ bad (.cells cs 70 p)) (h2 : ∀ cs p, ¬ bad (.cells cs 3 p)) : OwnS w' base v vns vos q :=
  ⟨own_kt h.own hk h1, fun i p hp => own_kt (h.row i p hp) hk h2, h.ne⟩
/-- two new lists -/
theorem OwnS.fresh (h : OwnS w base v vns vos q) : OwnS w base v (.slice none 0 0) (.slice none 0 0) q :=
  ⟨h.own, h.row, fun i p hp g hg => ⟨by simp [Value.ownBlock], by simp [Value.ownBlock]⟩⟩
theorem OwnS.rd (h : OwnS w base v vns vos q) {A : Option Addr} {n c : Nat} (hv : v = .slice A n c) (hq : q.length ≤ 1000000) (hr : ∀ (i : Nat) p, q[i]? = some p → p.1.2.1.length ≤ 4) : n = q.length ∧ RdC w A q := by
  subst hv
  have h1 := OwnL.rd elS_len h.own (by omega)
  exact ⟨h1.1, h1.2, fun i p hp => (own_rdi (h.row i p hp) (by have := hr i p hp; omega)).2⟩
/-- one of the two lists grows -/
theorem OwnS.growN (h : OwnS w base v vns vos q) {o : Obj} (hg : (w.alloc o).grownBy w' vns.ownBlock) (hl : vns'.ownBlock = vns.ownBlock ∨ vns'.ownBlock = some (w.heap.size + 1)) (hb : ∀ (g : Nat) (o' : Obj), vns.ownBlock = some g → (w.alloc o).heap[g]? = some o' → isT 3 o') : OwnS w' base v vns' vos q := by
  have al : Below w.heap.size w (w.alloc o) := (Below.refl _ _).alloc (Nat.le_refl _) _
  have hk : Kt (isT 3) w w' := (Kt.below al).trans (Kt.grown hg hb)
  refine ⟨own_kt h.own hk (isT_ne (by decide)), fun i p hp => ?_, fun i p hp g hgv => ?_⟩
  · refine World.ownsRow.kept (own_keep (h.row i p hp) al) hg ?_
    by_cases e : (rowV p).ownBlock = none
    · exact .inl e
    · refine .inr fun e2 => ?_
      cases hv : (rowV p).ownBlock with
      | none => exact e hv
      | some g => exact (h.ne i p hp g hv).1 (e2.symm.trans hv)
  · refine ⟨?_, (h.ne i p hp g hgv).2⟩
    rcases hl with hl | hl
    · rw [hl]; exact (h.ne i p hp g hgv).1
    · intro e
      have := (World.ownsRow.lt (h.row i p hp) g hgv).2
      rw [hl] at e
      injection e with e
      omega
theorem OwnS.symm (h : OwnS w base v vns vos q) : OwnS w base v vos vns q := ⟨h.own, h.row, fun i p hp g hg => ⟨(h.ne i p hp g hg).2, (h.ne i p hp g hg).1⟩⟩
theorem OwnS.growO (h : OwnS w base v vns vos q) {o : Obj} (hg : (w.alloc o).grownBy w' vos.ownBlock) (hl : vos'.ownBlock = vos.ownBlock ∨ vos'.ownBlock = some (w.heap.size + 1)) (hb : ∀ (g : Nat) (o' : Obj), vos.ownBlock = some g → (w.alloc o).heap[g]? = some o' → isT 3 o') : OwnS w' base v vns vos' q :=
  (h.symm.growN hg hl hb).symm
/-- a new state -/
theorem OwnS.push (h : OwnS w base v vns vos q) {p : Ps} (ho : OwnL elS 3 w' base 70 v' (q ++ [p])) (hk : Kt (isT 70) w w') (hrow : OwnL elI 1 w base 3 (rowV p) p.1.2.1) (hne : ∀ g, (rowV p).ownBlock = some g → vns.ownBlock ≠ some g ∧ vos.ownBlock ≠ some g) : OwnS w' base v' vns vos (q ++ [p]) := by
  refine ⟨ho, fun i p' hp => ?_, fun i p' hp => ?_⟩
  · rcases Nat.lt_or_ge i q.length with hi | hi
    · rw [List.getElem?_append_left hi] at hp
      exact own_kt (h.row i p' hp) hk (isT_ne (by decide))
    · rw [List.getElem?_append_right hi] at hp
      have hp2 : p = p' := by
        cases hd : i - q.length with
        | zero => rw [hd] at hp; simpa using hp
        | succ n => rw [hd] at hp; simp at hp
      subst hp2
      exact own_kt hrow hk (isT_ne (by decide))
  · rcases Nat.lt_or_ge i q.length with hi | hi
    · rw [List.getElem?_append_left hi] at hp
      exact h.ne i p' hp
    · rw [List.getElem?_append_right hi] at hp
      have hp2 : p = p' := by
        cases hd : i - q.length with
        | zero => rw [hd] at hp; simpa using hp
        | succ n => rw [hd] at hp; simp at hp
      subst hp2
      exact hne
end
end Go.Proofs.Ytaoebjabdejpoaa
