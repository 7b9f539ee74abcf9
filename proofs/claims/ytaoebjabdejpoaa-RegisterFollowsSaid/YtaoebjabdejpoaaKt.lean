/- What is kept when only blocks of certain kinds change; two lists of ints that grow side by side; two tables that grow side by side. -/
import Derived.Test.YtaoebjabdejpoaaQue
import Derived.Test.YtaoebjabdejpoaaMat
namespace Go.Proofs.Ytaoebjabdejpoaa
open Go.RowKit

/-- a block of cells of the type t -/
def isT (t : TypeId) (o : Obj) : Prop := ∃ cs p, o = .cells cs t p
def isM (o : Obj) : Prop := ∃ es cl, o = .map es cl
theorem isT_ne {s t : TypeId} (h : s ≠ t) : ∀ cs p, ¬ isT t (.cells cs s p) := by
  rintro cs p ⟨cs', p', e⟩
  injection e with _ e
  exact h e
theorem isT_notM {t : TypeId} : ∀ cs p, ¬ isM (.cells cs t p) := by
  rintro cs p ⟨cs', p', e⟩
  cases e
/-- only bad blocks have changed -/
structure Kt (bad : Obj → Prop) (w w' : World) : Prop where
  size : w.heap.size ≤ w'.heap.size
  blk : ∀ (b : Nat) (o : Obj), w.heap[b]? = some o → ¬ bad o → w'.heap[b]? = some o
theorem lt_of_get {w : World} {b : Nat} {o : Obj} (h : w.heap[b]? = some o) : b < w.heap.size := by
  rcases Nat.lt_or_ge b w.heap.size with hl | hl
  · exact hl
  · rw [Array.getElem?_eq_none hl] at h; cases h
section
variable {bad bad' : Obj → Prop} {w w' w'' : World}
theorem Kt.refl (w : World) : Kt bad w w := ⟨Nat.le_refl _, fun _ _ h _ => h⟩
theorem Kt.trans (h : Kt bad w w') (k : Kt bad w' w'') : Kt bad w w'' := ⟨Nat.le_trans h.size k.size, fun b o ho hb => k.blk b o (h.blk b o ho hb) hb⟩
theorem Kt.weak (h : Kt bad w w') (hw : ∀ o, bad o → bad' o) : Kt bad' w w' := ⟨h.size, fun b o ho hb => h.blk b o ho fun e => hb (hw o e)⟩
theorem Kt.below (h : Below w.heap.size w w') : Kt bad w w' := ⟨h.size, fun b _ ho _ => (h.block b (lt_of_get ho)).trans ho⟩
theorem Kt.grown {row : Option Nat} (hg : w.grownBy w' row) (hr : ∀ (g : Nat) (o : Obj), row = some g → w.heap[g]? = some o → bad o) : Kt bad w w' :=
  ⟨hg.size, fun b o ho hb => (hg.block b (lt_of_get ho) fun e => hb (hr b o e.symm ho)).trans ho⟩
theorem Kt.far (h : Kt bad w w') (k : Below w.heap.size w' w'') : Kt bad w w'' :=
  ⟨Nat.le_trans h.size k.size, fun b o ho hb => (k.block b (lt_of_get ho)).trans (h.blk b o ho hb)⟩
theorem Kt.set {p : Addr} {v : Value} (hr : ∀ o : Obj, w.heap[p.block]? = some o → bad o) : Kt bad w (w.setCell p v) := by
  refine ⟨by simp [World.setCell], fun b o ho hb => ?_⟩
  by_cases e : b = p.block
  · subst e; exact absurd (hr o ho) hb
  · exact (Below.heap_setCell w p v b e).trans ho
theorem Kt.row {g : Nat} {cs : Array Value} (hr : ∀ o : Obj, w.heap[g]? = some o → bad o) : Kt bad w (w.setRow g cs) := by
  refine ⟨by simp [World.setRow], fun b o ho hb => ?_⟩
  by_cases e : b = g
  · subst e; exact absurd (hr o ho) hb
  · simp only [World.setRow, Array.getElem?_modify]
    rw [if_neg (Ne.symm e)]; exact ho
theorem own_bad {base e size n : Nat} {v : Value} {xs : List Value} (h : w.ownsRow base e size v n xs) : ∀ (g : Nat) (o : Obj), v.ownBlock = some g → w.heap[g]? = some o → isT e o := by
  intro g o hg ho
  rcases h.2 with ⟨rfl, _⟩ | ⟨g', cap, cur, rfl, _, hh, _⟩
  · simp [Value.ownBlock] at hg
  · have : g' = g := by simpa [Value.ownBlock] using hg
    subst this
    rw [hh] at ho
    exact ⟨_, _, (Option.some.inj ho).symm⟩
theorem own_kt {base e size n : Nat} {v : Value} {xs : List Value} (h : w.ownsRow base e size v n xs) (hk : Kt bad w w') (hb : ∀ cs p, ¬ bad (.cells cs e p)) : w'.ownsRow base e size v n xs := by
  refine ⟨h.1, ?_⟩
  rcases h.2 with h0 | ⟨g, cap, cur, hv, hg, hh, hr⟩
  · exact .inl h0
  · exact .inr ⟨g, cap, cur, hv, hg, hk.blk _ _ hh (hb _ _), hr⟩
theorem row_kt {g n : Nat} {t : TypeId} {f : Nat → Value} (h : w.rowIs g t n f) (hk : Kt bad w w') (hb : ∀ cs p, ¬ bad (.cells cs t p)) : w'.rowIs g t n f := by
  obtain ⟨c, hc, hr⟩ := h
  exact ⟨c, hk.blk _ _ hc (hb _ _), hr⟩
theorem blk_kt {g : Nat} {t : TypeId} {cs : Array Value} (h : Blk w g t cs) (hk : Kt bad w w') (hb : ∀ cs p, ¬ bad (.cells cs t p)) : Blk w' g t cs := hk.blk _ _ h (hb _ _)
theorem mat_kt {base e1 e2 : Nat} {v : Value} {xss : List (List Int)} (h : OwnM w base e1 e2 v xss) (hk : Kt bad w w') (hb1 : ∀ cs p, ¬ bad (.cells cs e1 p)) (hb2 : ∀ cs p, ¬ bad (.cells cs e2 p)) : OwnM w' base e1 e2 v xss := by
  obtain ⟨ys, h1, h2⟩ := h
  refine ⟨ys, own_kt h1 hk hb1, fun i hi => ?_⟩
  obtain ⟨B, c, h3, h4⟩ := h2 i hi
  exact ⟨B, c, h3, own_kt h4 hk hb2⟩
theorem Blk.isT_ {g : Nat} {t : TypeId} {cs : Array Value} (h : Blk w g t cs) : ∀ o : Obj, w.heap[g]? = some o → isT t o := by
  intro o ho
  unfold Blk at h
  rw [h] at ho
  exact ⟨_, _, (Option.some.inj ho).symm⟩
end
/-! ### two lists of ints -/
abbrev elI (x : Int) : List Value := [.int .i64 x]
theorem elI_len (x : Int) : (elI x).length = 1 := rfl
theorem elI_flat (xs : List Int) : xs.flatMap elI = xs.map (.int .i64) := by
  induction xs with
  | nil => rfl
  | cons x xs ih => rw [List.flatMap_cons, ih]; rfl
structure Pr2 (w : World) (base : Nat) (vn vo : Value) (ns os : List Int) : Prop where
  n : OwnL elI 1 w base 3 vn ns
  o : OwnL elI 1 w base 3 vo os
  ne : ∀ g, vn.ownBlock = some g → vo.ownBlock ≠ some g
section
variable {w w' : World} {base : Nat} {vn vo vn' vo' : Value} {ns os : List Int}
theorem Pr2.nil (w : World) (base : Nat) : Pr2 w base (.slice none 0 0) (.slice none 0 0) [] [] :=
  ⟨World.ownsRow_nil _ _ _ _, World.ownsRow_nil _ _ _ _, fun g h => by simp [Value.ownBlock] at h⟩
theorem Pr2.keep (h : Pr2 w base vn vo ns os) (hb : Below w.heap.size w w') : Pr2 w' base vn vo ns os := ⟨own_keep h.n hb, own_keep h.o hb, h.ne⟩
theorem Pr2.kt {bad : Obj → Prop} (h : Pr2 w base vn vo ns os) (hk : Kt bad w w') (hb : ∀ cs p, ¬ bad (.cells cs 3 p)) : Pr2 w' base vn vo ns os := ⟨own_kt h.n hk hb, own_kt h.o hk hb, h.ne⟩
theorem Pr2.pushN (h : Pr2 w base vn vo ns os) {ns' : List Int} {o : Obj} (ho : OwnL elI 1 w' base 3 vn' ns') (hg : (w.alloc o).grownBy w' vn.ownBlock) (hl : vn'.ownBlock = vn.ownBlock ∨ vn'.ownBlock = some (w.heap.size + 1)) : Pr2 w' base vn' vo ns' os := by
  have al : Below w.heap.size w (w.alloc o) := (Below.refl _ _).alloc (Nat.le_refl _) _
  refine ⟨ho, World.ownsRow.kept (own_keep h.o al) hg ?_, fun g hgv => ?_⟩
  · by_cases e : vo.ownBlock = none
    · exact .inl e
    · refine .inr fun e2 => ?_
      cases hv : vn.ownBlock with
      | none => exact e (e2.trans hv)
      | some g => exact h.ne g hv (e2.trans hv)
  · rcases hl with hl | hl
    · exact h.ne g (hl ▸ hgv)
    · intro e
      have := (World.ownsRow.lt h.o g e).2
      rw [hl] at hgv
      injection hgv with hgv
      omega
theorem Pr2.symm (h : Pr2 w base vn vo ns os) : Pr2 w base vo vn os ns := ⟨h.o, h.n, fun g h1 h2 => h.ne g h2 h1⟩
theorem Pr2.pushO (h : Pr2 w base vn vo ns os) {os' : List Int} {o : Obj} (ho : OwnL elI 1 w' base 3 vo' os') (hg : (w.alloc o).grownBy w' vo.ownBlock) (hl : vo'.ownBlock = vo.ownBlock ∨ vo'.ownBlock = some (w.heap.size + 1)) : Pr2 w' base vn vo' ns os' :=
  (h.symm.pushN ho hg hl).symm
theorem Pr2.rowN (h : Pr2 w base vn vo ns os) : w.ownsRow base 3 1 vn ns.length (ns.map (.int .i64)) := by have := h.n; unfold OwnL at this; rw [elI_flat] at this; exact this
theorem Pr2.rowO (h : Pr2 w base vn vo ns os) : w.ownsRow base 3 1 vo os.length (os.map (.int .i64)) := h.symm.rowN
end
theorem elI_one {x : Int} : ∀ u ∈ elI x, u.oneCell' = true := by intro u hu; simp [elI] at hu; subst hu; rfl
theorem infoI : (Try.prog.info? 3).map (fun i => (i.zero, i.size, i.bytes)) = some (some (.int .i64 0), 1, 8) := by kernel_rfl
/-! ### append of one row onto a table, with where it lies -/
section
variable {P : Program} {o : Oper} {a : Act} {K : Act → World → Prop} {Q : Exit → Act → World → Prop}
theorem own_app (t ty e1 e2 : TypeId) (ht : P.underlying t = some (.slice e1)) (hinfo : (P.info? e1).map (fun i => (i.zero, i.size, i.bytes)) = some (some (.slice none 0 0), 1, 24)) (hne : e1 ≠ e2)
    {W : World} {base nb : Nat} {v : Value} {xss : List (List Int)} {B : Option Addr} {m c : Nat} {xs : List Int} (hbl : Blk W nb e1 #[.slice B m c]) (hown : OwnM W base e1 e2 v xss) (hl : xs.length = m)
    (hrow : W.ownsRow base e2 1 (.slice B m c) m (xs.map (.int .i64))) (hn : xss.length ≤ 1099511627776) (hbase : base ≤ W.heap.size) :
    ∃ v' w', (Builtin.append_ #[t, t] ty #[v, .slice (some ⟨nb, 0, none⟩) 1 1]).run P W = .ok v' w' ∧ OwnM w' base e1 e2 v' (xss ++ [xs]) ∧ W.grownBy w' v.ownBlock ∧ (v'.ownBlock = v.ownBlock ∨ v'.ownBlock = some W.heap.size) ∧ Below base W w' ∧ (∀ (g : Nat) (o : Obj), v.ownBlock = some g → W.heap[g]? = some o → isT e1 o) := by
  obtain ⟨i0, hi, hz0, hz1', hz2⟩ := info_parts hinfo
  obtain ⟨ys, h1, h2⟩ := hown
  have hyl : ys.length = xss.length := by have := h1.1; simpa using this
  obtain ⟨v', w', hr, g1, g2, _, g4⟩ := run_append_own_at (P := P) W base t ty e1 i0 _ 1 24 ht hi hz0 hz1' hz2 rfl (by decide) v xss.length ys h1 ⟨nb, 0, none⟩ 1 1 [.slice B m c] rfl (fun j u hu => by
    cases j with
    | zero => simp at hu; subst hu; exact hbl.cell 0
    | succ j => simp at hu) (by intro u hu; simp at hu; subst hu; rfl) (by unfold maxLen; omega) (by omega) (by omega)
  refine ⟨v', w', hr, ⟨_, by simpa using g1, fun i hi => ?_⟩, g2, g4, grown_below h1 hbase g2 (Nat.le_refl _) (Below.refl _ _), own_bad h1⟩
  by_cases hix : i < xss.length
  · obtain ⟨C, d, h3, h4⟩ := h2 i hix
    have e : (xss ++ [xs]).getD i [] = xss.getD i [] := by
      rw [List.getD_eq_getElem?_getD, List.getD_eq_getElem?_getD, List.getElem?_append_left hix]
    rw [e]
    exact ⟨C, d, by rw [List.getElem?_append_left (by omega)]; exact h3, h4.kept g2 (own_ne h4 h1 (Ne.symm hne))⟩
  · have hi' : i = xss.length := by simp at hi; omega
    subst hi'
    have e : (xss ++ [xs]).getD xss.length [] = xs := by
      rw [List.getD_eq_getElem?_getD, List.getElem?_append_right (by omega)]; simp
    rw [e, hl]
    exact ⟨B, c, by rw [List.getElem?_append_right (by omega), hyl]; simp, hrow.kept g2 (own_ne hrow h1 (Ne.symm hne))⟩
end
/-- append of one element of a box of its own, with where it lies -/
theorem own_app1 {P : Program} {α : Type} {el : α → List Value} {size : Nat} (hel : ∀ x, (el x).length = size) (hsz : 0 < size) (t ty e : TypeId) (z : Value) (bytes : Nat)
    (ht : P.underlying t = some (.slice e)) (hinfo : (P.info? e).map (fun i => (i.zero, i.size, i.bytes)) = some (some z, size, bytes)) (hz1 : z.cells.size = size) (hby : bytes ≤ 64)
    {W : World} {base nb : Nat} {v : Value} {q : List α} {y : α} {cells : Array Value} (hc : cells.toList = el y) (hbl : Blk W nb e cells) (hown : OwnL el size W base e v q) (hy : ∀ u ∈ el y, u.oneCell' = true)
    (hn : q.length ≤ 1099511627776) (hbase : base ≤ W.heap.size) :
    ∃ v' w', (Builtin.append_ #[t, t] ty #[v, .slice (some ⟨nb, 0, none⟩) 1 1]).run P W = .ok v' w' ∧ OwnL el size w' base e v' (q ++ [y]) ∧ W.grownBy w' v.ownBlock ∧ (v'.ownBlock = v.ownBlock ∨ v'.ownBlock = some W.heap.size) ∧ Below base W w' ∧ (∀ (g : Nat) (o : Obj), v.ownBlock = some g → W.heap[g]? = some o → isT e o) := by
  obtain ⟨i0, hi, hz0, hz1', hz2⟩ := info_parts hinfo
  have hcl : (el y).length = size := hel y
  obtain ⟨v', w', hr, g1, g2, _, g4⟩ := run_append_own_at (P := P) W base t ty e i0 z size bytes ht hi hz0 hz1' hz2 hz1 hsz v q.length (q.flatMap el) hown ⟨nb, 0, none⟩ 1 1 (el y) (by omega) (fun j u hu => by
    have e1 : (⟨nb, 0, none⟩ : Addr).add j = ⟨nb, j, none⟩ := by unfold Addr.add; split <;> simp_all
    rw [e1, hbl.cell, ← hu, ← hc]; simp) hy (by unfold maxLen; omega) (by
      have : (q.length + 1) * bytes ≤ (q.length + 1) * 64 := Nat.mul_le_mul_left _ hby
      omega) (by omega)
  refine ⟨v', w', hr, ?_, g2, g4, grown_below hown hbase g2 (Nat.le_refl _) (Below.refl _ _), own_bad hown⟩
  show w'.ownsRow base e size v' (q ++ [y]).length ((q ++ [y]).flatMap el)
  rw [List.flatMap_append, List.length_append]
  simpa using g1
/-- two tables that grow side by side -/
structure UTab (w : World) (base : Nat) (vn vo : Value) (nx out : List (List Int)) : Prop where
  n : OwnM w base 22 3 vn nx
  o : OwnM w base 22 3 vo out
  ne : ∀ g, vn.ownBlock = some g → vo.ownBlock ≠ some g
section
variable {w w' : World} {base : Nat} {vn vo vn' vo' : Value} {nx out nx' out' : List (List Int)}
theorem UTab.nil (w : World) (base : Nat) : UTab w base (.slice none 0 0) (.slice none 0 0) [] [] :=
  ⟨OwnM.nil _ _ _ _, OwnM.nil _ _ _ _, fun g h => by simp [Value.ownBlock] at h⟩
theorem UTab.symm (h : UTab w base vn vo nx out) : UTab w base vo vn out nx := ⟨h.o, h.n, fun g h1 h2 => h.ne g h2 h1⟩
theorem UTab.kt {bad : Obj → Prop} (h : UTab w base vn vo nx out) (hk : Kt bad w w') (hb1 : ∀ cs p, ¬ bad (.cells cs 22 p)) (hb2 : ∀ cs p, ¬ bad (.cells cs 3 p)) : UTab w' base vn vo nx out :=
  ⟨mat_kt h.n hk hb1 hb2, mat_kt h.o hk hb1 hb2, h.ne⟩
theorem UTab.keep (h : UTab w base vn vo nx out) (hb : Below w.heap.size w w') : UTab w' base vn vo nx out := ⟨h.n.keep hb, h.o.keep hb, h.ne⟩
theorem OwnM.blk_lt {e1 e2 : Nat} {v : Value} (h : OwnM w base e1 e2 v nx) {g : Nat} (hg : v.ownBlock = some g) : g < w.heap.size := by
  obtain ⟨ys, h1, _⟩ := h
  exact (World.ownsRow.lt h1 g hg).2
theorem UTab.pushN (h : UTab w base vn vo nx out) (ho : OwnM w' base 22 3 vn' nx') (hg : w.grownBy w' vn.ownBlock) (hl : vn'.ownBlock = vn.ownBlock ∨ vn'.ownBlock = some w.heap.size) : UTab w' base vn' vo nx' out := by
  refine ⟨ho, ?_, fun g hgv => ?_⟩
  · obtain ⟨ys, h1, h2⟩ := h.o
    obtain ⟨zs, k1, _⟩ := h.n
    refine ⟨ys, World.ownsRow.kept h1 hg ?_, fun i hi => ?_⟩
    · by_cases e : vo.ownBlock = none
      · exact .inl e
      · refine .inr fun e2 => ?_
        cases hv : vn.ownBlock with
        | none => exact e (e2.trans hv)
        | some g => exact h.ne g hv (e2.trans hv)
    · obtain ⟨B, c, h3, h4⟩ := h2 i hi
      exact ⟨B, c, h3, h4.kept hg (own_ne h4 k1 (by decide))⟩
  · rcases hl with hl | hl
    · exact h.ne g (hl ▸ hgv)
    · intro e
      have := h.o.blk_lt e
      rw [hl] at hgv
      injection hgv with hgv
      omega
theorem UTab.pushO (h : UTab w base vn vo nx out) (ho : OwnM w' base 22 3 vo' out') (hg : w.grownBy w' vo.ownBlock) (hl : vo'.ownBlock = vo.ownBlock ∨ vo'.ownBlock = some w.heap.size) : UTab w' base vn vo' nx out' :=
  (h.symm.pushN ho hg hl).symm
end
theorem infoR : (Try.prog.info? 22).map (fun i => (i.zero, i.size, i.bytes)) = some (some (.slice none 0 0), 1, 24) := by kernel_rfl
end Go.Proofs.Ytaoebjabdejpoaa
