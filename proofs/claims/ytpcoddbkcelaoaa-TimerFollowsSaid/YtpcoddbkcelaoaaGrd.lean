/- What the code's Active keeps: the table that it hands back, its set of the configurations that it has seen, its queue. -/
import Derived.Test.YtpcoddbkcelaoaaSeen
import Derived.Test.YtpcoddbkcelaoaaQue
import Derived.Test.YtpcoddbkcelaoaaSml
import Derived.Test.YtpcoddbkcelaoaaTRow
import Derived.OneCell
namespace Go.Proofs.Ytpcoddbkcelaoaa
open Go.RowKit

/-- the row s of a table of which some rows are made -/
def slot (gs : List Nat) (T s : Nat) : Value := match gs[s]? with | some g => .slice (some ⟨g, 0, none⟩) T T | none => .slice none 0 0
theorem slot_some {gs : List Nat} {T s g : Nat} (h : gs[s]? = some g) : slot gs T s = .slice (some ⟨g, 0, none⟩) T T := by unfold slot; rw [h]
theorem slot_none {gs : List Nat} {T s : Nat} (h : gs[s]? = none) : slot gs T s = .slice none 0 0 := by unfold slot; rw [h]
theorem snoc_parts {gs : List Nat} {g0 s g : Nat} (hs : (gs ++ [g0])[s]? = some g) : gs[s]? = some g ∨ (s = gs.length ∧ g = g0) := by
  rcases Nat.lt_or_ge s gs.length with hi | hi
  · rw [List.getElem?_append_left hi] at hs; exact .inl hs
  · rw [List.getElem?_append_right hi] at hs
    cases hj : s - gs.length with
    | zero => rw [hj] at hs; simp at hs; exact .inr ⟨by omega, hs.symm⟩
    | succ j => rw [hj] at hs; simp at hs
theorem rowIs_ne_map {w : World} {g bm n : Nat} {t : TypeId} {f : Nat → Value} {es : Array _} {cl : Nat} (h : w.rowIs g t n f) (hm : w.heap[bm]? = some (.map es cl)) : g ≠ bm := by
  rintro rfl
  obtain ⟨c, hc, _⟩ := h
  rw [hm] at hc; cases hc
theorem own_ne_map {w : World} {bm base size n : Nat} {e : TypeId} {v : Value} {xs : List Value} {es : Array _} {cl : Nat} (h : w.ownsRow base e size v n xs) (hm : w.heap[bm]? = some (.map es cl)) : v.ownBlock ≠ some bm := by
  rcases h.2 with ⟨rfl, _⟩ | ⟨g', cap, cur, rfl, _, hh, _⟩
  · simp [Value.ownBlock]
  · intro he
    have : g' = bm := by simpa [Value.ownBlock] using he
    subst this
    rw [hm] at hh; cases hh
theorem rowIs_ne_own {w : World} {g base size n k : Nat} {t e : TypeId} {v : Value} {xs : List Value} {f : Nat → Value} (h : w.rowIs g t k f) (ho : w.ownsRow base e size v n xs) (hne : e ≠ t) : v.ownBlock ≠ some g := by
  obtain ⟨c, hc, _⟩ := h
  exact own_blk_ne (g := g) (t := t) (cs := c) ho (by unfold Blk; exact hc) hne
theorem own_ne_new {w : World} {base size n : Nat} {e : TypeId} {v : Value} {xs : List Value} (h : w.ownsRow base e size v n xs) : v.ownBlock ≠ some w.heap.size := by
  rcases h.2 with ⟨rfl, _⟩ | ⟨g', cap, cur, rfl, _, hh, _⟩
  · simp [Value.ownBlock]
  · intro he
    have : g' = w.heap.size := by simpa [Value.ownBlock] using he
    have h2 : Blk w g' e cur := hh
    have := h2.lt
    omega
theorem SeenB.map {w : World} {b n N T : Nat} {q : List Tm.Cfg} (h : SeenB w b n N T q) : ∃ es cl, w.heap[b]? = some (.map es cl) := by
  obtain ⟨D, ⟨es, clock, he, _⟩, _⟩ := h
  exact ⟨es, clock, he⟩
theorem SeenB.of_block {w w' : World} {b n N T : Nat} {q : List Tm.Cfg} (h : SeenB w b n N T q) (e : w'.heap[b]? = w.heap[b]?) : SeenB w' b n N T q := by
  obtain ⟨D, ⟨es, clock, he, h1⟩, h2, h3⟩ := h
  exact ⟨D, ⟨es, clock, by rw [e]; exact he, h1⟩, h2, h3⟩
theorem below_grown {w0 w w' : World} {B b : Nat} (h : Below B w0 w) (hg : w.grownBy w' (some b)) (hb : B ≤ b) (hB : B ≤ w.heap.size) : Below B w0 w' :=
  ⟨hg.os.trans h.os, hg.tape.trans h.tape, hg.output.trans h.output, Nat.le_trans h.size hg.size, fun i hi => (hg.block i (Nat.lt_of_lt_of_le hi hB) (by intro e; injection e with e; omega)).trans (h.block i hi)⟩
/-- the table: rows of bools, of the call's own, in a row of the call's own -/
structure GridP (w : World) (base n T b : Nat) (gs : List Nat) (f : Nat → Nat → Bool) : Prop where
  own : w.rowIs b 62 n (slot gs T)
  row : ∀ (s g : Nat), gs[s]? = some g → w.rowIs g 4 T (fun x => .bool (f s x))
  ge : ∀ (s g : Nat), gs[s]? = some g → base ≤ g
  geb : base ≤ b
  nd : gs.Nodup
section
variable {w w' : World} {base n T b : Nat} {gs : List Nat} {f f' : Nat → Nat → Bool}
theorem GridP.keep (h : GridP w base n T b gs f) (hb : Below w.heap.size w w') : GridP w' base n T b gs f :=
  ⟨rowIs_keep h.own hb, fun s g hg => rowIs_keep (h.row s g hg) hb, h.ge, h.geb, h.nd⟩
theorem GridP.congr (h : GridP w base n T b gs f) (e : ∀ s x, s < gs.length → x < T → f s x = f' s x) : GridP w base n T b gs f' :=
  ⟨h.own, fun s g hg => (h.row s g hg).congr fun x hx => by show Value.bool _ = _; rw [e s x (List.getElem?_eq_some_iff.1 hg).1 hx], h.ge, h.geb, h.nd⟩
theorem GridP.grown {row : Option Nat} (h : GridP w base n T b gs f) (hg : w.grownBy w' row) (hne : ∀ g (t : TypeId) k fn, (t = 4 ∨ t = 62) → w.rowIs g t k fn → some g ≠ row) : GridP w' base n T b gs f :=
  ⟨h.own.of_block (hg.block b h.own.lt (hne _ _ _ _ (.inr rfl) h.own)), fun s g hgs => (h.row s g hgs).of_block (hg.block g (h.row s g hgs).lt (hne _ _ _ _ (.inl rfl) (h.row s g hgs))), h.ge, h.geb, h.nd⟩
theorem GridP.made (w : World) (n T : Nat) : GridP (w.alloc (.cells (madeCells #[.slice none 0 0] n) 62)) w.heap.size n T w.heap.size [] (fun _ _ => false) :=
  ⟨(World.rowIs_made _ _ _ _).congr fun i _ => (slot_none (by simp)).symm, fun s g hg => by simp at hg, fun s g hg => by simp at hg, Nat.le_refl _, List.nodup_nil⟩
theorem GridP.store (h : GridP w base n T b gs f) {s g x : Nat} (hg : gs[s]? = some g) (v : Bool) : GridP (w.setCell ⟨g, x, none⟩ (.bool v)) base n T b gs (fun s' x' => if s' = s ∧ x' = x then v else f s' x') := by
  refine ⟨h.own.setOther (a := ⟨g, x, none⟩) ?_ _, fun s' g' hg' => ?_, h.ge, h.geb, h.nd⟩
  · rintro rfl
    obtain ⟨c, hc, _⟩ := h.own
    obtain ⟨c', hc', _⟩ := h.row s _ hg
    rw [hc] at hc'
    injection hc' with hc'
    injection hc' with _ ht
    exact absurd ht (by decide)
  by_cases e : s' = s
  · subst e
    obtain rfl : g = g' := by rw [hg] at hg'; exact Option.some.inj hg'
    refine ((h.row _ _ hg).set x _).congr fun i hi => ?_
    by_cases e2 : i = x
    · subst e2; simp
    · simp [e2]
  · have hne : g' ≠ g := by
      rintro rfl
      exact e ((List.getElem?_inj (List.getElem?_eq_some_iff.1 hg').1 h.nd).1 (hg'.trans hg.symm))
    refine ((h.row _ _ hg').setOther (a := ⟨g, x, none⟩) hne _).congr fun i hi => ?_
    simp [e]
/-- a row more -/
theorem GridP.push (h : GridP w base n T b gs f) (hbs : base ≤ w.heap.size) (hf : ∀ x, f gs.length x = false) :
    GridP ((w.alloc (.cells (madeCells #[.bool false] T) 4)).setCell ⟨b, gs.length, none⟩ (.slice (some ⟨w.heap.size, 0, none⟩) T T)) base n T b (gs ++ [w.heap.size]) f := by
  have a1 : Below w.heap.size w (w.alloc (.cells (madeCells #[.bool false] T) 4)) := (Below.refl _ _).alloc (Nat.le_refl _) _
  have r1 : (w.alloc (.cells (madeCells #[.bool false] T) 4)).rowIs w.heap.size 4 T (fun _ => .bool false) := World.rowIs_made _ _ _ _
  have hbl : b < w.heap.size := h.own.lt
  refine ⟨((rowIs_keep h.own a1).set gs.length _).congr fun i _ => ?_, fun s g hs => ?_, fun s g hs => ?_, h.geb, ?_⟩
  · by_cases e : i = gs.length
    · subst e; rw [if_pos rfl, slot_some (g := w.heap.size) (by simp)]
    · rw [if_neg e]
      rcases Nat.lt_or_ge i gs.length with hi | hi
      · unfold slot; rw [List.getElem?_append_left hi]
      · rw [slot_none (List.getElem?_eq_none hi), slot_none (List.getElem?_eq_none (by simp; omega))]
  · rcases snoc_parts hs with h1 | ⟨rfl, rfl⟩
    · have hr := h.row s g h1
      refine (rowIs_keep hr a1).setOther (a := ⟨b, gs.length, none⟩) ?_ _
      rintro rfl
      obtain ⟨c, hc, _⟩ := h.own
      obtain ⟨c', hc', _⟩ := hr
      rw [hc] at hc'
      injection hc' with hc'
      injection hc' with _ ht
      exact absurd ht (by decide)
    · exact (r1.setOther (a := ⟨b, gs.length, none⟩) (Nat.ne_of_gt hbl) _).congr fun x _ => by show Value.bool false = _; rw [hf x]
  · rcases snoc_parts hs with h1 | ⟨rfl, rfl⟩
    · exact h.ge s g h1
    · exact hbs
  · rw [List.nodup_append]
    refine ⟨h.nd, by simp, fun a ha c hc => ?_⟩
    simp at hc; subst hc
    obtain ⟨s, hs⟩ := List.getElem?_of_mem ha
    exact Nat.ne_of_lt (h.row s a hs).lt
theorem GridP.rd {N : Nat} (h : GridP w base n T b gs f) (hl : gs.length = N) (hn : n = N) (hN : N ≤ 1000) (hT : T ≤ 1000) : RdBB w (some ⟨b, 0, none⟩) ((List.range N).map fun s => (List.range T).map fun x => f s x) := by
  refine ⟨by simp; omega, fun hp => ?_⟩
  refine ⟨_, rfl, fun i hi => ?_⟩
  have hi' : i < N := by simpa using hi
  have e : gs[i]? = some gs[i] := List.getElem?_eq_getElem (by omega)
  have hx : (((List.range N).map fun s => (List.range T).map fun x => f s x).getD i []) = (List.range T).map fun x => f i x := by
    rw [List.getD_eq_getElem?_getD, List.getElem?_map, List.getElem?_range hi']; rfl
  have hxl : ((List.range T).map fun x => f i x).length = T := by simp
  rw [hx, hxl]
  refine ⟨some ⟨gs[i], 0, none⟩, T, by rw [add_off, h.own.cell (by omega), slot_some e], rowB_rd ((h.row i _ e).congr fun x hx => ?_) hxl hT⟩
  rw [List.getD_eq_getElem?_getD, List.getElem?_map, List.getElem?_range hx]; rfl
end
/-- the cells of a configuration, as a list -/
def pcl (c : Tm.Cfg) : List Value := (pc c).toList
theorem pcl_len (c : Tm.Cfg) : (pcl c).length = 5 := rfl
theorem pcl_one {c : Tm.Cfg} : ∀ u ∈ pcl c, u.oneCell' = true := by
  intro u hu
  simp [pcl, pc] at hu
  rcases hu with rfl | rfl | rfl | rfl | rfl <;> rfl
/-- all that Active keeps: the table f, the set qs, the queue q -/
structure ActW (w : World) (base n T b bm nn : Nat) (gs : List Nat) (f : Nat → Nat → Bool) (qs q : List Tm.Cfg) (v : Value) : Prop where
  grid : GridP w base n T b gs f
  seen : SeenB w bm nn n T qs
  que : OwnL pcl 5 w base 66 v q
  gem : base ≤ bm
section
variable {w w' : World} {base n T b bm nn : Nat} {gs : List Nat} {f f' : Nat → Nat → Bool} {qs q : List Tm.Cfg} {v v' : Value}
theorem ActW.keep (h : ActW w base n T b bm nn gs f qs q v) (hb : Below w.heap.size w w') : ActW w' base n T b bm nn gs f qs q v :=
  ⟨h.grid.keep hb, h.seen.keep hb, own_keep h.que hb, h.gem⟩
theorem ActW.drew (h : ActW w base n T b bm nn gs f qs q v) : ActW w.drew base n T b bm nn gs f qs q v := ⟨⟨h.grid.own, h.grid.row, h.grid.ge, h.grid.geb, h.grid.nd⟩, h.seen, h.que, h.gem⟩
theorem ActW.congr (h : ActW w base n T b bm nn gs f qs q v) (e : ∀ s x, s < gs.length → x < T → f s x = f' s x) : ActW w base n T b bm nn gs f' qs q v :=
  ⟨h.grid.congr e, h.seen, h.que, h.gem⟩
theorem ActW.store (h : ActW w base n T b bm nn gs f qs q v) {s g x : Nat} (hg : gs[s]? = some g) (u : Bool) : ActW (w.setCell ⟨g, x, none⟩ (.bool u)) base n T b bm nn gs (fun s' x' => if s' = s ∧ x' = x then u else f s' x') qs q v := by
  have hr := h.grid.row s g hg
  obtain ⟨es, cl, hm⟩ := h.seen.map
  exact ⟨h.grid.store hg u, h.seen.of_block (Below.heap_setCell _ _ _ _ (Ne.symm (rowIs_ne_map hr hm))), ownsRow_setCell_other h.que (rowIs_ne_own hr h.que (by decide)) _, h.gem⟩
theorem ActW.put (h : ActW w base n T b bm nn gs f qs q v) {nn' : Nat} {qs' : List Tm.Cfg} (hs : SeenB w' bm nn' n T qs') (hg : w.grownBy w' (some bm)) : ActW w' base n T b bm nn' gs f qs' q v := by
  obtain ⟨es, cl, hm⟩ := h.seen.map
  exact ⟨h.grid.grown hg fun g t k fn _ hr e => rowIs_ne_map hr hm (Option.some.inj e), hs, World.ownsRow.kept h.que hg (.inr (own_ne_map h.que hm)), h.gem⟩
theorem ActW.push {cs : Array Value} (h : ActW w base n T b bm nn gs f qs q v) {q' : List Tm.Cfg} (ho : OwnL pcl 5 w' base 66 v' q') (hg : (w.alloc (.cells cs 66)).grownBy w' v.ownBlock) : ActW w' base n T b bm nn gs f qs q' v' := by
  have al : Below w.heap.size w (w.alloc (.cells cs 66)) := (Below.refl _ _).alloc (Nat.le_refl _) _
  have h2 := h.keep al
  obtain ⟨es, cl, hm⟩ := h2.seen.map
  refine ⟨h2.grid.grown hg fun g t k fn ht hr e => rowIs_ne_own hr h2.que ?_ e.symm, h2.seen.kept hg (fun e => own_ne_map h2.que hm e.symm), ho, h.gem⟩
  rcases ht with rfl | rfl <;> decide
end
theorem OwnL.one {w : World} {base g : Nat} {c : Tm.Cfg} (hb : base ≤ g) (h : Blk w g 66 (pc c)) : OwnL pcl 5 w base 66 (.slice (some ⟨g, 0, none⟩) 1 1) [c] :=
  ⟨rfl, .inr ⟨g, 1, _, rfl, hb, h, Nat.le_refl _, by unfold maxLen; omega, rfl, rfl⟩⟩
theorem infoP : (Try.prog.info? 66).map (fun i => (i.zero, i.size, i.bytes)) = some (some (.agg #[.int .i64 0, .bool false, .bool false, .bool false, .bool false]), 5, 16) := by kernel_rfl
theorem infoGP : (Try.prog.info? 62).map (fun i => (i.zero, i.size, i.bytes)) = some (some (.slice none 0 0), 1, 24) := by kernel_rfl
end Go.Proofs.Ytpcoddbkcelaoaa
