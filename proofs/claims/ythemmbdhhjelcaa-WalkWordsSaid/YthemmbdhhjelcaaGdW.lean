/- What a guided walk's own memory holds: a slice of slices made block by block, its cells by the transitions taken. -/
import Derived.Test.YthemmbdhhjelcaaGd
import Derived.Test.YthemmbdhhjelcaaMat
namespace Go.Proofs.Ythemmbdhhjelcaa
open Go.RowKit

def ptr (b k : Nat) : Value := .slice (some ⟨b, 0, none⟩) k k
/-- j rows have been made, each filled with f -/
structure WM (e1 e2 : TypeId) (f : Value) (w1 wr : World) (N n k j : Nat) : Prop where
  size : wr.heap.size = N + 1 + j
  top : wr.rowIs N e1 n (fun i => if i < j then ptr (N + 1 + i) k else .slice none 0 0)
  row : ∀ i, i < j → wr.rowIs (N + 1 + i) e2 k (fun _ => f)
  low : Below N w1 wr
/-- row j has been made, and a of its cells filled -/
structure WI (e1 e2 : TypeId) (z f : Value) (w1 wr : World) (N n k j a : Nat) : Prop where
  size : wr.heap.size = N + 1 + (j + 1)
  top : wr.rowIs N e1 n (fun i => if i < j + 1 then ptr (N + 1 + i) k else .slice none 0 0)
  row : ∀ i, i < j → wr.rowIs (N + 1 + i) e2 k (fun _ => f)
  now : wr.rowIs (N + 1 + j) e2 k (fun b => if b < a then f else z)
  low : Below N w1 wr
structure WS (e1 e2 : TypeId) (val : Bool → Value) (w1 wr : World) (N n k : Nat) (T : Nat → Nat → Bool) : Prop where
  size : N + 1 + n ≤ wr.heap.size
  top : wr.rowIs N e1 n (fun i => ptr (N + 1 + i) k)
  row : ∀ i, i < n → wr.rowIs (N + 1 + i) e2 k (fun a => val (T i a))
  low : Below N w1 wr
section
variable {e1 e2 : TypeId} {z f : Value} {val : Bool → Value} {w1 wr : World} {N n k j a : Nat} {T : Nat → Nat → Bool}
theorem WM.start (hN : w1.heap.size = N) : WM e1 e2 f w1 (w1.alloc (.cells (madeCells #[.slice none 0 0] n) e1)) N n k 0 := by
  subst hN
  exact ⟨by simp, (World.rowIs_made w1 _ n e1).congr fun i _ => by simp, fun i hi => by omega, (Below.refl _ _).alloc (Nat.le_refl _) _⟩
theorem WM.make (h : WM e1 e2 f w1 wr N n k j) (hj : j < n) :
    WI e1 e2 z f w1 ((wr.alloc (.cells (madeCells #[z] k) e2)).setCell ⟨N, j, none⟩ (.slice (some ⟨wr.heap.size, 0, none⟩) k k)) N n k j 0 := by
  have hs := h.size
  refine ⟨by simp; omega, ((h.top.alloc _).set j _).congr fun i hi => ?_, fun i hi => ((h.row i hi).alloc _).setOther (by simp; omega) _, ?_, ?_⟩
  · by_cases e : i = j
    · subst e
      rw [if_pos rfl, if_pos (by omega), hs]; rfl
    · have : i < j ↔ i < j + 1 := by omega
      rw [if_neg e]; simp [this]
  · have h1 := (World.rowIs_made wr z k e2).congr (g := fun b => if b < 0 then f else z) (fun i _ => by simp)
    rw [hs] at h1
    exact h1.setOther (by simp; omega) _
  · exact (h.low.alloc (by omega) _).setCell (Nat.le_refl _) _
theorem WM.make1 (h : WM e1 e2 f w1 wr N n k j) (hj : j < n) :
    WM e1 e2 f w1 ((wr.alloc (.cells (madeCells #[f] k) e2)).setCell ⟨N, j, none⟩ (.slice (some ⟨wr.heap.size, 0, none⟩) k k)) N n k (j + 1) := by
  have hi := h.make (z := f) hj
  refine ⟨hi.size, hi.top, fun i hi' => ?_, hi.low⟩
  by_cases e : i = j
  · subst e; exact hi.now.congr fun b hb => by split <;> rfl
  · exact hi.row i (by omega)
theorem WI.store (h : WI e1 e2 z f w1 wr N n k j a) : WI e1 e2 z f w1 (wr.setCell ⟨N + 1 + j, a, none⟩ f) N n k j (a + 1) := by
  refine ⟨by simpa using h.size, h.top.setOther (by simp; omega) _, fun i hi => (h.row i hi).setOther (by simp; omega) _, (h.now.set a f).congr fun b hb => ?_, h.low.setCell (by simp; omega) _⟩
  by_cases e : b = a
  · subst e; simp
  · have : b < a ↔ b < a + 1 := by omega
    rw [if_neg e]; simp [this]
theorem WI.done (h : WI e1 e2 z f w1 wr N n k j a) (ha : k ≤ a) : WM e1 e2 f w1 wr N n k (j + 1) := by
  refine ⟨h.size, h.top, fun i hi => ?_, h.low⟩
  by_cases e : i = j
  · subst e; exact h.now.congr fun b hb => by rw [if_pos (by omega)]
  · exact h.row i (by omega)
theorem WM.full (h : WM e1 e2 (val false) w1 wr N n k n) : WS e1 e2 val w1 wr N n k (fun _ _ => false) :=
  ⟨by have := h.size; omega, h.top.congr fun i hi => by rw [if_pos hi], fun i hi => h.row i hi, h.low⟩
theorem WS.keep {w' : World} (h : WS e1 e2 val w1 wr N n k T) (hb : Below (N + 1 + n) wr w') : WS e1 e2 val w1 w' N n k T :=
  ⟨Nat.le_trans h.size hb.size, h.top.of_block (hb.block _ (by omega)), fun i hi => (h.row i hi).of_block (hb.block _ (by omega)), h.low.trans (hb.mono (by omega))⟩
theorem WS.store (h : WS e1 e2 val w1 wr N n k T) {s : Nat} (hs : s < n) (a : Nat) : WS e1 e2 val w1 (wr.setCell ⟨N + 1 + s, a, none⟩ (val true)) N n k (Gd.upd T s a) := by
  refine ⟨by simpa using h.size, h.top.setOther (by simp; omega) _, fun i hi => ?_, h.low.setCell (by simp; omega) _⟩
  by_cases e : i = s
  · subst e
    refine ((h.row i hi).set a _).congr fun b hb => ?_
    unfold Gd.upd
    by_cases e2 : b = a
    · subst e2; simp
    · simp [e2]
  · refine ((h.row i hi).setOther (by simp; omega) _).congr fun b hb => ?_
    unfold Gd.upd
    simp [e]
/-- the weights of a state, as a list -/
theorem WS.rd (h : WS e1 e2 (fun b => .int .i64 (if b = true then 1 else 8)) w1 wr N n k T) {s : Nat} (hs : s < n) (hk : k ≤ 1000) : Rd wr (some ⟨N + 1 + s, 0, none⟩) (Gd.ws T s k) := by
  have hr := h.row s hs
  refine ⟨by rw [Gd.ws_len]; omega, fun _ => ⟨_, rfl, fun i hi => ?_⟩⟩
  rw [Gd.ws_len] at hi
  have : (⟨N + 1 + s, 0, none⟩ : Addr).add i = ⟨N + 1 + s, i, none⟩ := by unfold Addr.add; split <;> simp_all
  rw [this, hr.cell hi, Gd.ws_get _ _ _ hi]
end

section
variable {P : Program} {ops : Array Oper} {rest : List Oper} {o : Oper} {a : Act} {Q : Exit → Act → World → Prop}
/-- append of one element, the box's number spelled otherwise -/
theorem app1' (hgd : o.guard = none) (s x : Operand) (t e : TypeId) (z : Value) (bytes : Nat) (ho : o.op = .call { callee := .builtin .append, args := #[s, x], argTypes := #[t, t] })
    (ht : P.underlying t = some (.slice e)) (hinfo : (P.info? e).map (fun i => (i.zero, i.size, i.bytes)) = some (some z, 1, bytes)) (hz1 : z.cells.size = 1) (hby : bytes ≤ 64)
    {W : World} {base nb : Nat} {v : Value} {n : Nat} {ys : List Value} {y : Value} (hs : a.eval s = v) (hx : a.eval x = .slice (some ⟨nb, 0, none⟩) 1 1) (hnb : nb = W.heap.size) (hown : W.ownsRow base e 1 v n ys) (hy : y.oneCell' = true)
    (hn : n ≤ 1099511627776) (hbase : base ≤ W.heap.size)
    (h : ∀ v' w', w'.ownsRow base e 1 v' (n + 1) (ys ++ [y]) → (∀ (B : Nat) (w0 : World), B ≤ base → Below B w0 W → Below B w0 w') → base ≤ w'.heap.size → wpList P ops Q rest (a.put o.dst v') w') :
    wpList P ops Q (o :: rest) a (W.alloc (.cells #[y] e)) := by
  subst hnb
  exact app1 hgd s x t e z bytes ho ht hinfo hz1 hby hs hx hown hy hn hbase h
end
/-! what lies between two block numbers has not turned -/
def Mid (B C : Nat) (a b : World) : Prop := ∀ x, B ≤ x → x < C → b.heap[x]? = a.heap[x]?
theorem Mid.refl (B C : Nat) (a : World) : Mid B C a a := fun _ _ _ => rfl
theorem Mid.of_below {B C : Nat} {a b : World} (h : Below C a b) : Mid B C a b := fun x _ hx => h.block x hx
theorem Mid.trans {B C : Nat} {a b c : World} (h : Mid B C a b) (k : Mid B C b c) : Mid B C a c := fun x h1 h2 => (k x h1 h2).trans (h x h1 h2)
theorem Mid.setCell {B C : Nat} {a b : World} (h : Mid B C a b) {p : Addr} (hp : p.block < B) (u : Value) : Mid B C a (b.setCell p u) := fun x h1 h2 => (Below.heap_setCell b p u x (by omega)).trans (h x h1 h2)
theorem own_mid {w w' : World} {base C e size n : Nat} {v : Value} {ys : List Value} (h : w.ownsRow base e size v n ys) (hC : w.heap.size ≤ C) (hb : Mid base C w w') : w'.ownsRow base e size v n ys := by
  refine ⟨h.1, ?_⟩
  rcases h.2 with h0 | ⟨g, cap, cur, hv, hg, hh, hr⟩
  · exact .inl h0
  · refine .inr ⟨g, cap, cur, hv, hg, ?_, hr⟩
    rw [hb g hg (Nat.lt_of_lt_of_le (by rcases Nat.lt_or_ge g w.heap.size with hlt | hge; exact hlt; rw [Array.getElem?_eq_none hge] at hh; cases hh) hC)]; exact hh
theorem OwnM.mid {w w' : World} {base C e1 e2 : Nat} {v : Value} {xss : List (List Int)} (h : OwnM w base e1 e2 v xss) (hC : w.heap.size ≤ C) (hb : Mid base C w w') : OwnM w' base e1 e2 v xss := by
  obtain ⟨ys, h1, h2⟩ := h
  refine ⟨ys, own_mid h1 hC hb, fun i hi => ?_⟩
  obtain ⟨B, c, h3, h4⟩ := h2 i hi
  exact ⟨B, c, h3, own_mid h4 hC hb⟩
end Go.Proofs.Ythemmbdhhjelcaa
