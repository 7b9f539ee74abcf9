/- The memory of a register automaton: slices of pairs, of transitions; blocks that are known whole. -/
import Derived.Test.YtaoebjabdejpoaaRg2
import Derived.Test.YtaoebjabdejpoaaMat
import Derived.Test.YtaoebjabdejpoaaProg
import Derived.Deep.MidRow
import Derived.Deep.AppendLies
import Derived.Deep.RegionHeld3
import Derived.Deep.DeepCutAuto
import Derived.StillTailTactics
namespace Go.Proofs.Ytaoebjabdejpoaa
open Go.RowKit

theorem ad_add (a : Addr) (i j : Nat) : (a.add i).add j = a.add (i + j) := by
  unfold Addr.add
  by_cases hi : i = 0 <;> by_cases hj : j = 0 <;> simp [hi, hj, Nat.add_assoc]
theorem keep_cell {w w' : World} {a : Addr} {v : Value} (hb : Below w.heap.size w w') (h : w.cell? a = some v) : w'.cell? a = some v := (hb.cell (World.block_lt_of_cell? _ _ h)).trans h
theorem ad_zero (a : Addr) : a.add 0 = a := by unfold Addr.add; simp

/-! ### a slice of pairs of ints -/
def Rd2 (w : World) (A : Option Addr) (xs : List (Int × Int)) : Prop :=
  xs.length ≤ 9223372036854775807 ∧ (0 < xs.length → ∃ ad, A = some ad ∧ ∀ i, i < xs.length → w.cell? (ad.add (i * 2)) = some (.int .i64 (xs.getD i (0, 0)).1) ∧ w.cell? (ad.add (i * 2 + 1)) = some (.int .i64 (xs.getD i (0, 0)).2))
theorem Rd2.at_ {w : World} {A : Option Addr} {xs : List (Int × Int)} (h : Rd2 w A xs) {i : Nat} (hi : i < xs.length) : ∃ ad a b, A = some ad ∧ xs.getD i (0, 0) = (a, b) ∧ w.cell? (ad.add (i * 2)) = some (.int .i64 a) ∧ w.cell? (ad.add (i * 2 + 1)) = some (.int .i64 b) := by
  obtain ⟨ad, e, hc⟩ := h.2 (by omega)
  exact ⟨ad, _, _, e, rfl, (hc i hi).1, (hc i hi).2⟩
theorem Rd2.keep {w w' : World} {A : Option Addr} {xs : List (Int × Int)} (h : Rd2 w A xs) (hb : Below w.heap.size w w') : Rd2 w' A xs := by
  refine ⟨h.1, fun hp => ?_⟩
  obtain ⟨ad, e, hc⟩ := h.2 hp
  refine ⟨ad, e, fun i hi => ?_⟩
  obtain ⟨h1, h2⟩ := hc i hi
  exact ⟨by rw [hb.cell (World.block_lt_of_cell? _ _ h1)]; exact h1, by rw [hb.cell (World.block_lt_of_cell? _ _ h2)]; exact h2⟩
theorem Rd2.nil {w : World} {A : Option Addr} : Rd2 w A [] := ⟨by simp, fun h => absurd h (by simp)⟩
/-! ### the tables of an automaton -/
def RdT (w : World) (A : Option Addr) (ts : List Rg.T) : Prop :=
  ts.length ≤ 9223372036854775807 ∧ (0 < ts.length → ∃ ad, A = some ad ∧ ∀ i, i < ts.length → ∃ B c, w.cell? (ad.add (i * 3)) = some (.int .i64 (ts.getD i Rg.t0).to) ∧ w.cell? (ad.add (i * 3 + 1)) = some (.int .i64 (ts.getD i Rg.t0).out) ∧ w.cell? (ad.add (i * 3 + 2)) = some (.slice B (ts.getD i Rg.t0).asg.length c) ∧ Rd w B (ts.getD i Rg.t0).asg)
theorem RdT.at_ {w : World} {A : Option Addr} {ts : List Rg.T} (h : RdT w A ts) {i : Nat} (hi : i < ts.length) :
    ∃ ad B c x y zs, A = some ad ∧ ts.getD i Rg.t0 = ⟨x, y, zs⟩ ∧ w.cell? (ad.add (i * 3)) = some (.int .i64 x) ∧ w.cell? (ad.add (i * 3 + 1)) = some (.int .i64 y) ∧ w.cell? (ad.add (i * 3 + 2)) = some (.slice B zs.length c) ∧ Rd w B zs := by
  obtain ⟨ad, e, hc⟩ := h.2 (by omega)
  obtain ⟨B, c, h1, h2, h3, h4⟩ := hc i hi
  exact ⟨ad, B, c, _, _, _, e, rfl, h1, h2, h3, h4⟩
theorem RdT.keep {w w' : World} {A : Option Addr} {ts : List Rg.T} (h : RdT w A ts) (hb : Below w.heap.size w w') : RdT w' A ts := by
  refine ⟨h.1, fun hp => ?_⟩
  obtain ⟨ad, e, hc⟩ := h.2 hp
  refine ⟨ad, e, fun i hi => ?_⟩
  obtain ⟨B, c, h1, h2, h3, h4⟩ := hc i hi
  exact ⟨B, c, keep_cell hb h1, keep_cell hb h2, keep_cell hb h3, h4.keep hb⟩
theorem RdT.nil {w : World} {A : Option Addr} : RdT w A [] := ⟨by simp, fun h => absurd h (by simp)⟩
/-- a slice of slices: what it says of the rows is a parameter -/
def RdS {α : Type} (R : World → Option Addr → List α → Prop) (w : World) (A : Option Addr) (xss : List (List α)) : Prop :=
  xss.length ≤ 9223372036854775807 ∧ (0 < xss.length → ∃ ad, A = some ad ∧ ∀ i, i < xss.length → ∃ B c, w.cell? (ad.add i) = some (.slice B (xss.getD i []).length c) ∧ R w B (xss.getD i []))
theorem RdS.at_ {α : Type} {R : World → Option Addr → List α → Prop} {w : World} {A : Option Addr} {xss : List (List α)} (h : RdS R w A xss) {i : Nat} (hi : i < xss.length) :
    ∃ ad B c xs, A = some ad ∧ xss.getD i [] = xs ∧ w.cell? (ad.add i) = some (.slice B xs.length c) ∧ R w B xs := by
  obtain ⟨ad, e, hc⟩ := h.2 (by omega)
  obtain ⟨B, c, h1, h2⟩ := hc i hi
  exact ⟨ad, B, c, _, e, rfl, h1, h2⟩
theorem RdS.keep {α : Type} {R : World → Option Addr → List α → Prop} (hR : ∀ {w w' : World} {A : Option Addr} {xs : List α}, R w A xs → Below w.heap.size w w' → R w' A xs) {w w' : World} {A : Option Addr} {xss : List (List α)} (h : RdS R w A xss) (hb : Below w.heap.size w w') : RdS R w' A xss := by
  refine ⟨h.1, fun hp => ?_⟩
  obtain ⟨ad, e, hc⟩ := h.2 hp
  refine ⟨ad, e, fun i hi => ?_⟩
  obtain ⟨B, c, h1, h2⟩ := hc i hi
  exact ⟨B, c, keep_cell hb h1, hR h2 hb⟩
/-- what an automaton's slices read -/
structure RdA (w : World) (A B : Option Addr) (m : Rg.M) : Prop where
  rg : Rd w A m.rg
  tr : RdS (RdS RdT) w B m.tr
theorem RdA.keep {w w' : World} {A B : Option Addr} {m : Rg.M} (h : RdA w A B m) (hb : Below w.heap.size w w') : RdA w' A B m :=
  ⟨h.rg.keep hb, h.tr.keep (fun h1 b1 => h1.keep (fun h2 b2 => h2.keep b2) b1) hb⟩
/-! ### a struct that is loaded from wherever it lies -/
section
variable {P : Program} {ops : Array Oper} {rest : List Oper} {o : Oper} {a : Act} {w : World} {Q : Exit → Act → World → Prop}
theorem run_load_any (w : World) (ad : Addr) (ty : TypeId) (cs : List Value) (d : TypeDesc) (hc : ∀ j v, cs[j]? = some v → w.cell? (ad.add j) = some v)
    (hu : P.underlying ty = some d) (hd : d.isRow = true) (hi : (P.info? ty).map (·.size) = some cs.length) : (loadVar ty ad).run P w = .ok (.agg cs.toArray) w := by
  have hl : (loadCells ad cs.length).run P w = .ok cs.toArray w := run_loadCells_list (P := P) w ad cs hc
  cases hq : P.info? ty with
  | none => simp [hq] at hi
  | some i =>
    have hs : i.size = cs.length := by simpa [hq] using hi
    have hagg : (isAgg ty).run P w = .ok true w := by
      unfold isAgg
      rw [Sem.run_bind, run_underlying hu w]
      cases d <;> simp_all
    simp [loadVar, Sem.run_bind, hagg, sizeOf, typeInfo, hq, hs, hl]
theorem wpList_load_any (hgd : o.guard = none) (ty : TypeId) (x : Operand) (ho : o.op = .load ty x) (ad : Addr) (hx : a.eval x = .pointer (some ad)) (cs : List Value) (d : TypeDesc) (hc : ∀ j v, cs[j]? = some v → w.cell? (ad.add j) = some v)
    (hu : P.underlying ty = some d) (hd : d.isRow = true) (hi : (P.info? ty).map (·.size) = some cs.length) (h : wpList P ops Q rest (a.put o.dst (.agg cs.toArray)) w) : wpList P ops Q (o :: rest) a w :=
  wpList_plain hgd fun _ hK => by
    unfold Oper.wp execOp
    simp only [ho, hx, Instr.loadAt, Instr.sureAddr, Sem.run_bind, Sem.run_pure, Result.andThen_ok, run_load_any w ad ty cs d hc hu hd hi]
    exact hK _ _ h
theorem cells2 {w : World} {ad : Addr} {u v : Value} (h0 : w.cell? ad = some u) (h1 : w.cell? (ad.add 1) = some v) : ∀ j x, [u, v][j]? = some x → w.cell? (ad.add j) = some x := by
  intro j x hx
  match j with
  | 0 => simp at hx; subst hx; rw [ad_zero]; exact h0
  | 1 => simp at hx; subst hx; exact h1
  | j + 2 => simp at hx
theorem cells2' {w : World} {ad : Addr} {i : Nat} {u v : Value} (h0 : w.cell? (ad.add (i * 2)) = some u) (h1 : w.cell? (ad.add (i * 2 + 1)) = some v) : ∀ j x, [u, v][j]? = some x → w.cell? ((ad.add (i * 2)).add j) = some x :=
  cells2 h0 (by rw [ad_add]; exact h1)
end
/-! ### blocks that are known whole -/
def Blk (w : World) (g : Nat) (t : TypeId) (cs : Array Value) : Prop := w.heap[g]? = some (.cells cs t (0, 0))
section
variable {w w' : World} {g : Nat} {t : TypeId} {cs : Array Value}
theorem Blk.lt (h : Blk w g t cs) : g < w.heap.size := by
  rcases Nat.lt_or_ge g w.heap.size with hlt | hge
  · exact hlt
  · unfold Blk at h; rw [Array.getElem?_eq_none hge] at h; cases h
theorem Blk.cell (h : Blk w g t cs) (i : Nat) : w.cell? ⟨g, i, none⟩ = cs[i]? := cell_of_row w g i cs t (0, 0) h
theorem Blk.frozen (h : Blk w g t cs) (i : Nat) : w.frozen? ⟨g, i, none⟩ = false := by
  unfold Blk at h
  simp [World.frozen?, h]
theorem Blk.new (w : World) (t : TypeId) (cs : Array Value) : Blk (w.alloc (.cells cs t)) w.heap.size t cs := heap_alloc_new w _
theorem Blk.alloc (h : Blk w g t cs) (o : Obj) : Blk (w.alloc o) g t cs := (Below.heap_alloc w o g h.lt).trans h
theorem Blk.set_ (h : Blk w g t cs) (i : Nat) (u : Value) : Blk (w.setCell ⟨g, i, none⟩ u) g t (cs.setIfInBounds i u) := by
  unfold Blk at h ⊢
  simp [World.setCell, Array.getElem?_modify, h]
theorem Blk.far (h : Blk w g t cs) {p : Addr} (hp : g ≠ p.block) (u : Value) : Blk (w.setCell p u) g t cs := (Below.heap_setCell w p u g hp).trans h
theorem Blk.below {B : Nat} (h : Blk w g t cs) (hb : Below B w w') (hg : g < B) : Blk w' g t cs := (hb.block g hg).trans h
theorem Blk.keep (h : Blk w g t cs) (hb : Below w.heap.size w w') : Blk w' g t cs := h.below hb h.lt
theorem Blk.grown {row : Option Nat} (h : Blk w g t cs) (hb : w.grownBy w' row) (hg : some g ≠ row) : Blk w' g t cs := (hb.block g h.lt hg).trans h
theorem Blk.ne_ {g' : Nat} {t' : TypeId} {cs' : Array Value} (h : Blk w g t cs) (h' : Blk w g' t' cs') (hne : t ≠ t') : g ≠ g' := by
  rintro rfl
  unfold Blk at h h'
  rw [h] at h'
  injection h' with h'
  injection h' with _ ht
  exact hne ht
theorem own_blk_ne {base : Nat} {e : TypeId} {size n : Nat} {v : Value} {xs : List Value} (h : w.ownsRow base e size v n xs) (hg : Blk w g t cs) (hne : e ≠ t) : v.ownBlock ≠ some g := by
  rcases h.2 with ⟨rfl, _⟩ | ⟨g', cap, cur, rfl, _, hh, _⟩
  · simp [Value.ownBlock]
  · intro he
    have : g' = g := by simpa [Value.ownBlock] using he
    subst this
    exact Blk.ne_ (t := e) hh hg hne rfl
end
theorem below_set {B : Nat} {w w' : World} (h : Below B w w') {p : Addr} (hp : B ≤ p.block) (u : Value) : Below B w (w'.setCell p u) := h.setCell hp u
theorem set_row_blk {w : World} {g : Nat} {t : TypeId} {cs cs' : Array Value} (h : Blk w g t cs) : Blk (w.setRow g cs') g t cs' := by
  unfold Blk at h ⊢
  simp [World.setRow, Array.getElem?_modify, h]
theorem far_row_blk {w : World} {g g' : Nat} {t : TypeId} {cs cs' : Array Value} (h : Blk w g t cs) (hne : g ≠ g') : Blk (w.setRow g' cs') g t cs := by
  unfold Blk at h ⊢
  simp only [World.setRow, Array.getElem?_modify]
  rw [if_neg (Ne.symm hne)]; exact h
theorem below_row {B : Nat} {w w' : World} (h : Below B w w') {g : Nat} (hp : B ≤ g) (cs : Array Value) : Below B w (w'.setRow g cs) := by
  refine ⟨h.os, h.tape, h.output, by simp [World.setRow]; exact h.size, fun i hi => ?_⟩
  simp only [World.setRow, Array.getElem?_modify]
  rw [if_neg (by omega)]; exact h.block i hi
/-- the cells of an automaton -/
abbrev tc (m : Rg.M) (A : Option Addr) (c : Nat) (B : Option Addr) (d : Nat) : Array Value := #[.int .i64 m.I, .int .i64 m.S, .slice A m.rg.length c, .slice B m.tr.length d]
/-- what is known of an automaton's box -/
structure BoxT (w : World) (g : Nat) (m : Rg.M) (A : Option Addr) (c : Nat) (B : Option Addr) (d : Nat) : Prop where
  blk : Blk w g 25 (tc m A c B d)
  c0 : w.cell? ⟨g, 0, none⟩ = some (.int .i64 m.I)
  c1 : w.cell? ⟨g, 1, none⟩ = some (.int .i64 m.S)
  c2 : w.cell? ⟨g, 2, none⟩ = some (.slice A m.rg.length c)
  c3 : w.cell? ⟨g, 3, none⟩ = some (.slice B m.tr.length d)
theorem boxT {w : World} {g : Nat} {m : Rg.M} {A : Option Addr} {c : Nat} {B : Option Addr} {d : Nat} (h : Blk w g 25 (tc m A c B d)) : BoxT w g m A c B d :=
  ⟨h, h.cell 0, h.cell 1, h.cell 2, h.cell 3⟩
theorem BoxT.keep {w w' : World} {g : Nat} {m : Rg.M} {A : Option Addr} {c : Nat} {B : Option Addr} {d : Nat} (h : BoxT w g m A c B d) (hb : Below w.heap.size w w') : BoxT w' g m A c B d := boxT (h.blk.keep hb)
theorem cells3 {w : World} {ad : Addr} {i : Nat} {u v x : Value} (h0 : w.cell? (ad.add (i * 3)) = some u) (h1 : w.cell? (ad.add (i * 3 + 1)) = some v) (h2 : w.cell? (ad.add (i * 3 + 2)) = some x) : ∀ j y, [u, v, x][j]? = some y → w.cell? ((ad.add (i * 3)).add j) = some y := by
  intro j y hy
  rw [ad_add]
  match j with
  | 0 => simp at hy; subst hy; exact h0
  | 1 => simp at hy; subst hy; exact h1
  | 2 => simp at hy; subst hy; exact h2
  | j + 3 => simp at hy
theorem cell_fld {w : World} {ad : Addr} {i k : Nat} {v : Value} (h : w.cell? (ad.add (i + k)) = some v) (hk : 0 < k) : w.cell? ⟨(ad.add i).block, (ad.add i).off + k, none⟩ = some v := by
  have e : (⟨(ad.add i).block, (ad.add i).off + k, none⟩ : Addr) = ad.add (i + k) := by
    rw [← ad_add]
    generalize ad.add i = b
    unfold Addr.add
    rw [if_neg (by omega)]
  rw [e]; exact h
end Go.Proofs.Ytaoebjabdejpoaa
