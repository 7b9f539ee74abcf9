/- Append of one number to an own row, with what it leaves as it was. -/
import Derived.Test.YtpoppadihbgbgaaDev30
import Derived.Test.YtpoppadihbgbgaaDev26
namespace Go.Proofs.Ytpoppadihbgbgaa
open Go.RowKit
section
variable {P : Program} {ops : Array Oper} {rest : List Oper} {o : Oper} {a : Act} {Q : Exit → Act → World → Prop}
theorem app1g (hgd : o.guard = none) (s x : Operand) (t e : TypeId) (z : Value) (bytes : Nat) (ho : o.op = .call { callee := .builtin .append, args := #[s, x], argTypes := #[t, t] })
    (ht : P.underlying t = some (.slice e)) (hinfo : (P.info? e).map (fun i => (i.zero, i.size, i.bytes)) = some (some z, 1, bytes)) (hz1 : z.cells.size = 1) (hby : bytes ≤ 64)
    {W : World} {base : Nat} {v : Value} {n : Nat} {ys : List Value} {y : Value} (hs : a.eval s = v) (hx : a.eval x = .slice (some ⟨W.heap.size, 0, none⟩) 1 1) (hown : W.ownsRow base e 1 v n ys) (hy : y.oneCell' = true)
    (hn : n ≤ 1099511627776) (hbase : base ≤ W.heap.size)
    (h : ∀ v' w', w'.ownsRow base e 1 v' (n + 1) (ys ++ [y]) → (∀ (B : Nat) (w0 : World), B ≤ base → Below B w0 W → Below B w0 w') → base ≤ w'.heap.size → (W.alloc (.cells #[y] e)).grownBy w' v.ownBlock → wpList P ops Q rest (a.put o.dst v') w') :
    wpList P ops Q (o :: rest) a (W.alloc (.cells #[y] e)) := by
  obtain ⟨i0, hi, hz0, hz1', hz2⟩ := info_parts hinfo
  refine wpList_append_own _ hgd s x t ho base e i0 z 1 bytes ht hi hz0 hz1' hz2 hz1 (by decide) v n ys hs (hown.alloc _) ⟨W.heap.size, 0, none⟩ 1 1 [y] hx rfl (cell_one_new _ _ _) (by simpa using hy) (by unfold maxLen; omega) ?_ (by simp; omega) ?_
  · have : (n + 1) * bytes ≤ (n + 1) * 64 := Nat.mul_le_mul_left _ hby
    omega
  · intro v' w' h1 h2 _
    refine h v' w' h1 (fun B w0 hB hb => grown_below (hown.alloc _) (by simp; omega) h2 hB (hb.alloc (by omega) _)) ?_ h2
    have := h2.size; simp at this; omega
end
/-- an own row of ints does not lie in a device's block -/
theorem own_row_ne {w : World} {base n k : Nat} {v : Value} {xs : List Value} {x : Dv} {A B C : Option Addr} {c d e : Nat} (h : w.ownsRow base 3 1 v n xs) (hr : RowD w k 32 x A c B d C e) : some k ≠ v.ownBlock := by
  rcases h.2 with ⟨rfl, _⟩ | ⟨b, cap, cur, rfl, _, hh, _⟩
  · simp [Value.ownBlock]
  · intro he
    have hb : k = b := by simpa [Value.ownBlock] using he
    subst hb
    unfold RowD at hr
    rw [hh] at hr
    injection hr with hr
    injection hr with _ ht
    exact absurd ht (by decide)
theorem RowD.grown {w w' : World} {k t : Nat} {row : Option Nat} {x : Dv} {A B C : Option Addr} {c d e : Nat} (h : RowD w k t x A c B d C e) (hg : w.grownBy w' row) (hne : some k ≠ row) : RowD w' k t x A c B d C e := (hg.block k h.lt hne).trans h
theorem RdS.grown {w w' : World} {P : Nat → Prop} {row : Option Nat} {A B C : Option Addr} {x : Dv} (h : RdS w P A B C x) (hg : w.grownBy w' row) (hP : ∀ g, some g = row → P g) : RdS w' P A B C x :=
  fun wz hk => h wz fun g h1 h2 => (hk g h1 (Nat.lt_of_lt_of_le h2 hg.size)).trans (hg.block g h2 (fun he => h1 (hP g he)))
end Go.Proofs.Ytpoppadihbgbgaa
