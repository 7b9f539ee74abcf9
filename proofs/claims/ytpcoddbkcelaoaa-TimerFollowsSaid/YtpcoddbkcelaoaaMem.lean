/- The memory of a machine with timers: slices of pairs, tables of pairs; blocks that are known whole. -/
import Derived.Test.YtpcoddbkcelaoaaTim4
import Derived.Test.YtpcoddbkcelaoaaMat
import Derived.Test.YtpcoddbkcelaoaaProg
import Derived.Deep.MidRow
import Derived.Deep.AppendLies
import Derived.Deep.RegionHeld3
import Derived.Deep.DeepCutAuto
import Derived.StillTailTactics
namespace Go.Proofs.Ytpcoddbkcelaoaa
open Go.RowKit

theorem ad_add (a : Addr) (i j : Nat) : (a.add i).add j = a.add (i + j) := by
  unfold Addr.add
  by_cases hi : i = 0 <;> by_cases hj : j = 0 <;> simp [hi, hj, Nat.add_assoc]
theorem keep_cell {w w' : World} {a : Addr} {v : Value} (hb : Below w.heap.size w w') (h : w.cell? a = some v) : w'.cell? a = some v := (hb.cell (World.block_lt_of_cell? _ _ h)).trans h
theorem ad_zero (a : Addr) : a.add 0 = a := by unfold Addr.add; simp

/-! ### a slice of pairs of ints -/
def Rd2 (w : World) (A : Option Addr) (xs : List (Int × Int)) : Prop :=
  xs.length ≤ 9223372036854775807 ∧ (0 < xs.length → ∃ ad, A = some ad ∧ ∀ i, i < xs.length → w.cell? (ad.add (i * 2)) = some (.int .i64 (xs.getD i (0, 0)).1) ∧ w.cell? (ad.add (i * 2 + 1)) = some (.int .i64 (xs.getD i (0, 0)).2))
theorem Rd2.at_ {w : World} {A : Option Addr} {xs : List (Int × Int)} (h : Rd2 w A xs) {i : Nat} (hi : i < xs.length) : ∃ ad a b, A = some ad ∧ xs.getD i (0, 0) = (a, b) ∧ w.cell? (ad.add (i * 2)) = some (.int .i64 a) ∧ w.cell? (ad.add (i * 2 + 1)) = some (.int .i64 b) := by
  obtain ⟨ad, e, hc⟩ := h.2 (by omega)
  exact ⟨ad, _, _, e, rfl, (hc i hi).1, (hc i hi).2⟩
theorem Rd2.keep {w w' : World} {A : Option Addr} {xs : List (Int × Int)} (h : Rd2 w A xs) (hb : Below w.heap.size w w') : Rd2 w' A xs := by
  refine ⟨h.1, fun hp => ?_⟩
  obtain ⟨ad, e, hc⟩ := h.2 hp
  refine ⟨ad, e, fun i hi => ?_⟩
  obtain ⟨h1, h2⟩ := hc i hi
  exact ⟨by rw [hb.cell (World.block_lt_of_cell? _ _ h1)]; exact h1, by rw [hb.cell (World.block_lt_of_cell? _ _ h2)]; exact h2⟩
theorem Rd2.nil {w : World} {A : Option Addr} : Rd2 w A [] := ⟨by simp, fun h => absurd h (by simp)⟩
/-- a slice of slices of pairs -/
def RdP (w : World) (A : Option Addr) (xss : List (List (Int × Int))) : Prop :=
  xss.length ≤ 9223372036854775807 ∧ (0 < xss.length → ∃ ad, A = some ad ∧ ∀ i, i < xss.length → ∃ B c, w.cell? (ad.add i) = some (.slice B (xss.getD i []).length c) ∧ Rd2 w B (xss.getD i []))
theorem RdP.at_ {w : World} {A : Option Addr} {xss : List (List (Int × Int))} (h : RdP w A xss) {i : Nat} (hi : i < xss.length) :
    ∃ ad B c xs, A = some ad ∧ xss.getD i [] = xs ∧ w.cell? (ad.add i) = some (.slice B xs.length c) ∧ Rd2 w B xs := by
  obtain ⟨ad, e, hc⟩ := h.2 (by omega)
  obtain ⟨B, c, h1, h2⟩ := hc i hi
  exact ⟨ad, B, c, _, e, rfl, h1, h2⟩
theorem RdP.keep {w w' : World} {A : Option Addr} {xss : List (List (Int × Int))} (h : RdP w A xss) (hb : Below w.heap.size w w') : RdP w' A xss := by
  refine ⟨h.1, fun hp => ?_⟩
  obtain ⟨ad, e, hc⟩ := h.2 hp
  refine ⟨ad, e, fun i hi => ?_⟩
  obtain ⟨B, c, h1, h2⟩ := hc i hi
  exact ⟨B, c, by rw [hb.cell (World.block_lt_of_cell? _ _ h1)]; exact h1, h2.keep hb⟩
theorem RdP.nil {w : World} {A : Option Addr} : RdP w A [] := ⟨by simp, fun h => absurd h (by simp)⟩
/-- the tables of a machine -/
structure RdT (w : World) (A B C : Option Addr) (m : Tm.M) : Prop where
  nx : RdM .i64 w A m.nx
  out : RdM .i64 w B m.out
  set : RdP w C m.set
theorem RdT.keep {w w' : World} {A B C : Option Addr} {m : Tm.M} (h : RdT w A B C m) (hb : Below w.heap.size w w') : RdT w' A B C m := ⟨h.nx.keep hb, h.out.keep hb, h.set.keep hb⟩
/-! ### a struct that is loaded from wherever it lies -/
section
variable {P : Program} {ops : Array Oper} {rest : List Oper} {o : Oper} {a : Act} {w : World} {Q : Exit → Act → World → Prop}
theorem run_load_any (w : World) (ad : Addr) (ty : TypeId) (cs : List Value) (d : TypeDesc) (hc : ∀ j v, cs[j]? = some v → w.cell? (ad.add j) = some v)
    (hu : P.underlying ty = some d) (hd : d.isRow = true) (hi : (P.info? ty).map (·.size) = some cs.length) : (loadVar ty ad).run P w = .ok (.agg cs.toArray) w := by
  have hl : (loadCells ad cs.length).run P w = .ok cs.toArray w := run_loadCells_list (P := P) w ad cs hc
  cases hq : P.info? ty with
  | none => simp [hq] at hi
  | some i =>
    have hs : i.size = cs.length := by simpa [hq] using hi
    have hagg : (isAgg ty).run P w = .ok true w := by
      unfold isAgg
      rw [Sem.run_bind, run_underlying hu w]
      cases d <;> simp_all
    simp [loadVar, Sem.run_bind, hagg, sizeOf, typeInfo, hq, hs, hl]
theorem wpList_load_any (hgd : o.guard = none) (ty : TypeId) (x : Operand) (ho : o.op = .load ty x) (ad : Addr) (hx : a.eval x = .pointer (some ad)) (cs : List Value) (d : TypeDesc) (hc : ∀ j v, cs[j]? = some v → w.cell? (ad.add j) = some v)
    (hu : P.underlying ty = some d) (hd : d.isRow = true) (hi : (P.info? ty).map (·.size) = some cs.length) (h : wpList P ops Q rest (a.put o.dst (.agg cs.toArray)) w) : wpList P ops Q (o :: rest) a w :=
  wpList_plain hgd fun _ hK => by
    unfold Oper.wp execOp
    simp only [ho, hx, Instr.loadAt, Instr.sureAddr, Sem.run_bind, Sem.run_pure, Result.andThen_ok, run_load_any w ad ty cs d hc hu hd hi]
    exact hK _ _ h
theorem cells2 {w : World} {ad : Addr} {u v : Value} (h0 : w.cell? ad = some u) (h1 : w.cell? (ad.add 1) = some v) : ∀ j x, [u, v][j]? = some x → w.cell? (ad.add j) = some x := by
  intro j x hx
  match j with
  | 0 => simp at hx; subst hx; rw [ad_zero]; exact h0
  | 1 => simp at hx; subst hx; exact h1
  | j + 2 => simp at hx
theorem cells2' {w : World} {ad : Addr} {i : Nat} {u v : Value} (h0 : w.cell? (ad.add (i * 2)) = some u) (h1 : w.cell? (ad.add (i * 2 + 1)) = some v) : ∀ j x, [u, v][j]? = some x → w.cell? ((ad.add (i * 2)).add j) = some x :=
  cells2 h0 (by rw [ad_add]; exact h1)
end
/-! ### blocks that are known whole -/
def Blk (w : World) (g : Nat) (t : TypeId) (cs : Array Value) : Prop := w.heap[g]? = some (.cells cs t (0, 0))
section
variable {w w' : World} {g : Nat} {t : TypeId} {cs : Array Value}
theorem Blk.lt (h : Blk w g t cs) : g < w.heap.size := by
  rcases Nat.lt_or_ge g w.heap.size with hlt | hge
  · exact hlt
  · unfold Blk at h; rw [Array.getElem?_eq_none hge] at h; cases h
theorem Blk.cell (h : Blk w g t cs) (i : Nat) : w.cell? ⟨g, i, none⟩ = cs[i]? := cell_of_row w g i cs t (0, 0) h
theorem Blk.frozen (h : Blk w g t cs) (i : Nat) : w.frozen? ⟨g, i, none⟩ = false := by
  unfold Blk at h
  simp [World.frozen?, h]
theorem Blk.new (w : World) (t : TypeId) (cs : Array Value) : Blk (w.alloc (.cells cs t)) w.heap.size t cs := heap_alloc_new w _
theorem Blk.alloc (h : Blk w g t cs) (o : Obj) : Blk (w.alloc o) g t cs := (Below.heap_alloc w o g h.lt).trans h
theorem Blk.set_ (h : Blk w g t cs) (i : Nat) (u : Value) : Blk (w.setCell ⟨g, i, none⟩ u) g t (cs.setIfInBounds i u) := by
  unfold Blk at h ⊢
  simp [World.setCell, Array.getElem?_modify, h]
theorem Blk.far (h : Blk w g t cs) {p : Addr} (hp : g ≠ p.block) (u : Value) : Blk (w.setCell p u) g t cs := (Below.heap_setCell w p u g hp).trans h
theorem Blk.below {B : Nat} (h : Blk w g t cs) (hb : Below B w w') (hg : g < B) : Blk w' g t cs := (hb.block g hg).trans h
theorem Blk.keep (h : Blk w g t cs) (hb : Below w.heap.size w w') : Blk w' g t cs := h.below hb h.lt
theorem Blk.grown {row : Option Nat} (h : Blk w g t cs) (hb : w.grownBy w' row) (hg : some g ≠ row) : Blk w' g t cs := (hb.block g h.lt hg).trans h
theorem Blk.ne_ {g' : Nat} {t' : TypeId} {cs' : Array Value} (h : Blk w g t cs) (h' : Blk w g' t' cs') (hne : t ≠ t') : g ≠ g' := by
  rintro rfl
  unfold Blk at h h'
  rw [h] at h'
  injection h' with h'
  injection h' with _ ht
  exact hne ht
theorem own_blk_ne {base : Nat} {e : TypeId} {size n : Nat} {v : Value} {xs : List Value} (h : w.ownsRow base e size v n xs) (hg : Blk w g t cs) (hne : e ≠ t) : v.ownBlock ≠ some g := by
  rcases h.2 with ⟨rfl, _⟩ | ⟨g', cap, cur, rfl, _, hh, _⟩
  · simp [Value.ownBlock]
  · intro he
    have : g' = g := by simpa [Value.ownBlock] using he
    subst this
    exact Blk.ne_ (t := e) hh hg hne rfl
end
theorem below_set {B : Nat} {w w' : World} (h : Below B w w') {p : Addr} (hp : B ≤ p.block) (u : Value) : Below B w (w'.setCell p u) := h.setCell hp u
theorem set_row_blk {w : World} {g : Nat} {t : TypeId} {cs cs' : Array Value} (h : Blk w g t cs) : Blk (w.setRow g cs') g t cs' := by
  unfold Blk at h ⊢
  simp [World.setRow, Array.getElem?_modify, h]
theorem far_row_blk {w : World} {g g' : Nat} {t : TypeId} {cs cs' : Array Value} (h : Blk w g t cs) (hne : g ≠ g') : Blk (w.setRow g' cs') g t cs := by
  unfold Blk at h ⊢
  simp only [World.setRow, Array.getElem?_modify]
  rw [if_neg (Ne.symm hne)]; exact h
theorem below_row {B : Nat} {w w' : World} (h : Below B w w') {g : Nat} (hp : B ≤ g) (cs : Array Value) : Below B w (w'.setRow g cs) := by
  refine ⟨h.os, h.tape, h.output, by simp [World.setRow]; exact h.size, fun i hi => ?_⟩
  simp only [World.setRow, Array.getElem?_modify]
  rw [if_neg (by omega)]; exact h.block i hi
/-- the cells of a machine -/
abbrev tc (m : Tm.M) (A : Option Addr) (c : Nat) (B : Option Addr) (d : Nat) (C : Option Addr) (e : Nat) : Array Value := #[.int .i64 m.I, .int .i64 m.T, .int .i64 m.S, .slice A m.nx.length c, .slice B m.out.length d, .slice C m.set.length e]
/-- what is known of a machine's box -/
structure BoxT (w : World) (g : Nat) (m : Tm.M) (A : Option Addr) (c : Nat) (B : Option Addr) (d : Nat) (C : Option Addr) (e : Nat) : Prop where
  blk : Blk w g 25 (tc m A c B d C e)
  c0 : w.cell? ⟨g, 0, none⟩ = some (.int .i64 m.I)
  c1 : w.cell? ⟨g, 1, none⟩ = some (.int .i64 m.T)
  c2 : w.cell? ⟨g, 2, none⟩ = some (.int .i64 m.S)
  c3 : w.cell? ⟨g, 3, none⟩ = some (.slice A m.nx.length c)
  c4 : w.cell? ⟨g, 4, none⟩ = some (.slice B m.out.length d)
  c5 : w.cell? ⟨g, 5, none⟩ = some (.slice C m.set.length e)
theorem boxT {w : World} {g : Nat} {m : Tm.M} {A : Option Addr} {c : Nat} {B : Option Addr} {d : Nat} {C : Option Addr} {e : Nat} (h : Blk w g 25 (tc m A c B d C e)) : BoxT w g m A c B d C e :=
  ⟨h, h.cell 0, h.cell 1, h.cell 2, h.cell 3, h.cell 4, h.cell 5⟩
theorem BoxT.keep {w w' : World} {g : Nat} {m : Tm.M} {A : Option Addr} {c : Nat} {B : Option Addr} {d : Nat} {C : Option Addr} {e : Nat} (h : BoxT w g m A c B d C e) (hb : Below w.heap.size w w') : BoxT w' g m A c B d C e := boxT (h.blk.keep hb)
end Go.Proofs.Ytpcoddbkcelaoaa
