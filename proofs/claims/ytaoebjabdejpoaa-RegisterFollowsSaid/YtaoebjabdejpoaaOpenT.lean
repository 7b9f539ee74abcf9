/- Opening arguments that are slices of pairs, and the transitions of a register automaton. -/
import Derived.Test.YtaoebjabdejpoaaOpenS
import Derived.Test.YtaoebjabdejpoaaCan
import Derived.Laws.IdiomArrays
namespace Go.Proofs.Ytaoebjabdejpoaa
open Go.ChangeShapes Go.WideShapes Go.ChangeAt Go.RowKit Go.Deep

section
variable {H : Type} {enc : TypeId × Value → H} {P : Program} {W : World} {base : Nat} {spare : Nat → Bool} {held : Bool} {n : Nat} {t : TypeId} {c : Value} {y : DataW H × List MemPlace}
theorem len2 {α : Type} {l : List α} (h : l.length = 2) : ∃ x y, l = [x, y] := by
  match l, h with
  | [x, y], _ => exact ⟨x, y, rfl⟩
/-- a pair's cells -/
theorem leaf_pair {T0 T1 : TypeId} {fs : Array Field} {f0 f1 : Field} (ht : P.underlying t = some (.struct fs)) (e0 : fs[0]? = some f0) (e1 : fs[1]? = some f1) (hT0 : f0.type = T0) (hT1 : f1.type = T1) (o0 : f0.offset = 0) (o1 : f1.offset = 1)
    (u0 : P.underlying T0 = some (.int .i64)) (u1 : P.underlying T1 = some (.int .i64)) (k0 : P.cellsOf T0 = 1) (k1 : P.cellsOf T1 = 1) {cs : List Value} (hcs : cs.length = 2) (h : DataW.trod enc P W base spare held n t cs = some y) : ∃ a b, cs = [.int .i64 a, .int .i64 b] ∧ (Lit.int .i64 a).wf = true ∧ (Lit.int .i64 b).wf = true := by
  obtain ⟨x, z, rfl⟩ := len2 hcs
  obtain ⟨ys, m, _, _, _, hl, hf⟩ := DataW.trod_struct ht h
  have i0 : 0 < fs.size := (Array.getElem?_eq_some_iff.1 e0).1
  have i1 : 1 < fs.size := (Array.getElem?_eq_some_iff.1 e1).1
  obtain ⟨y0, h0⟩ := field_at hf 0 f0 T0 0 1 e0 hT0 o0 k0 (by omega)
  obtain ⟨y1, h1⟩ := field_at hf 1 f1 T1 1 1 e1 hT1 o1 k1 (by omega)
  obtain ⟨a, rfl, wa⟩ := leaf_int u0 h0
  obtain ⟨b, rfl, wb⟩ := leaf_int u1 h1
  exact ⟨a, b, rfl, wa, wb⟩
theorem leaf_prs {e T0 T1 : TypeId} {fs : Array Field} {f0 f1 : Field} (ht : P.underlying t = some (.slice e)) (he : P.underlying e = some (.struct fs)) (ce : P.cellsOf e = 2) (e0 : fs[0]? = some f0) (e1 : fs[1]? = some f1) (hT0 : f0.type = T0) (hT1 : f1.type = T1) (o0 : f0.offset = 0) (o1 : f1.offset = 1)
    (u0 : P.underlying T0 = some (.int .i64)) (u1 : P.underlying T1 = some (.int .i64)) (k0 : P.cellsOf T0 = 1) (k1 : P.cellsOf T1 = 1)
    (h : DataW.trod enc P W base spare held n t [c] = some y) : ∃ A d xs, c = .slice A xs.length d ∧ Rd2 W A xs ∧ WfW xs := by
  rcases DataW.trod_slice ht h with ⟨hcs, _⟩ | ⟨a, len, cap, elems, rest, m, _, hcs, _, hb, hl, hm, hlen, hel, -, -⟩
  · exact ⟨none, 0, [], by simpa using hcs, Rd2.nil, fun j hj => absurd hj (by simp)⟩
  · have each : ∀ i, i < len → ∃ z : Int × Int, W.cell? (a.add (i * 2)) = some (.int .i64 z.1) ∧ W.cell? (a.add (i * 2 + 1)) = some (.int .i64 z.2) ∧ (Lit.int .i64 z.2).wf = true := by
      intro i hi
      have h1 := hel i hi
      rw [ce, List.getElem?_eq_getElem (by omega), Option.bind_eq_some_iff] at h1
      obtain ⟨cs, hc, hy⟩ := h1
      obtain ⟨g1, g2, g3⟩ := World.cells?_some hc
      obtain ⟨p, q, rfl, _, wq⟩ := leaf_pair he e0 e1 hT0 hT1 o0 o1 u0 u1 k0 k1 (by simpa using g2) hy
      refine ⟨(p, q), ?_, ?_, wq⟩
      · have := g3 0 (by omega); rw [ad_add] at this; simpa using this
      · have := g3 1 (by omega); rw [ad_add] at this; simpa using this
    obtain ⟨Z, hZ⟩ := choose_lt each
    have hlm : ((List.range len).map Z).length = len := by simp
    have e0 : ∀ i, i < len → ((List.range len).map Z).getD i (0, 0) = Z i := fun i hi => by
      rw [List.getD_eq_getElem?_getD, List.getElem?_map, List.getElem?_range hi]; rfl
    refine ⟨some a, cap, (List.range len).map Z, by rw [hlm]; simpa using hcs, ⟨by rw [hlm]; unfold maxLen at hm; omega, fun _ => ⟨a, rfl, fun i hi => ?_⟩⟩, fun j hj => ?_⟩
    · rw [hlm] at hi
      rw [e0 i hi]
      exact ⟨(hZ i hi).1, (hZ i hi).2.1⟩
    · rw [hlm] at hj
      rw [e0 j hj]
      exact (hZ j hj).2.2
instance inhT : Inhabited Rg.T := ⟨Rg.t0⟩
/-- a transition's cells -/
theorem leaf_trn {T0 T2 T3 : TypeId} {fs : Array Field} {f0 f1 f2 : Field} (ht : P.underlying t = some (.struct fs)) (e0 : fs[0]? = some f0) (e1 : fs[1]? = some f1) (e2 : fs[2]? = some f2) (hT0 : f0.type = T0) (hT1 : f1.type = T0) (hT2 : f2.type = T2) (o0 : f0.offset = 0) (o1 : f1.offset = 1) (o2 : f2.offset = 2)
    (u0 : P.underlying T0 = some (.int .i64)) (u2 : P.underlying T2 = some (.slice T3)) (u3 : P.underlying T3 = some (.int .i64)) (k0 : P.cellsOf T0 = 1) (k2 : P.cellsOf T2 = 1) (k3 : P.cellsOf T3 = 1) (hsp : ∀ b, spare b = true) {cs : List Value} (hcs : cs.length = 3) (h : DataW.trod enc P W base spare held n t cs = some y) :
    ∃ (z : Rg.T) (B : Option Addr) (d : Nat), cs = [.int .i64 z.to, .int .i64 z.out, .slice B z.asg.length d] ∧ Rd W B z.asg := by
  obtain ⟨x, z, u, rfl⟩ : ∃ x y z, cs = [x, y, z] := by
    match cs, hcs with
    | [x, y, z], _ => exact ⟨x, y, z, rfl⟩
  obtain ⟨ys, m, _, _, _, hl, hf⟩ := DataW.trod_struct ht h
  have i0 : 0 < fs.size := (Array.getElem?_eq_some_iff.1 e0).1
  have i1 : 1 < fs.size := (Array.getElem?_eq_some_iff.1 e1).1
  have i2 : 2 < fs.size := (Array.getElem?_eq_some_iff.1 e2).1
  obtain ⟨y0, h0⟩ := field_at hf 0 f0 T0 0 1 e0 hT0 o0 k0 (by omega)
  obtain ⟨y1, h1⟩ := field_at hf 1 f1 T0 1 1 e1 hT1 o1 k0 (by omega)
  obtain ⟨y2, h2⟩ := field_at hf 2 f2 T2 2 1 e2 hT2 o2 k2 (by omega)
  obtain ⟨a, rfl, _⟩ := leaf_int u0 h0
  obtain ⟨b, rfl, _⟩ := leaf_int u0 h1
  obtain ⟨B, d, xs, rfl, hr, _⟩ := leaf_sl u2 u3 k3 hsp h2
  exact ⟨⟨a, b, xs⟩, B, d, rfl, hr⟩
theorem leaf_trs {e T0 T2 T3 : TypeId} {fs : Array Field} {f0 f1 f2 : Field} (hs : P.underlying t = some (.slice e)) (ce : P.cellsOf e = 3) (ht : P.underlying e = some (.struct fs)) (e0 : fs[0]? = some f0) (e1 : fs[1]? = some f1) (e2 : fs[2]? = some f2) (hT0 : f0.type = T0) (hT1 : f1.type = T0) (hT2 : f2.type = T2) (o0 : f0.offset = 0) (o1 : f1.offset = 1) (o2 : f2.offset = 2)
    (u0 : P.underlying T0 = some (.int .i64)) (u2 : P.underlying T2 = some (.slice T3)) (u3 : P.underlying T3 = some (.int .i64)) (k0 : P.cellsOf T0 = 1) (k2 : P.cellsOf T2 = 1) (k3 : P.cellsOf T3 = 1) (hsp : ∀ b, spare b = true)
    (h : DataW.trod enc P W base spare held n t [c] = some y) : ∃ A d xs, c = .slice A xs.length d ∧ RdT W A xs := by
  rcases DataW.trod_slice hs h with ⟨hcs, _⟩ | ⟨a, len, cap, elems, rest, m, _, hcs, _, hb, hl, hm, hlen, hel, -, -⟩
  · exact ⟨none, 0, [], by simpa using hcs, RdT.nil⟩
  · have each : ∀ i, i < len → ∃ z : Rg.T × Option Addr × Nat, W.cell? (a.add (i * 3)) = some (.int .i64 z.1.to) ∧ W.cell? (a.add (i * 3 + 1)) = some (.int .i64 z.1.out) ∧ W.cell? (a.add (i * 3 + 2)) = some (.slice z.2.1 z.1.asg.length z.2.2) ∧ Rd W z.2.1 z.1.asg := by
      intro i hi
      have h1 := hel i hi
      rw [ce, List.getElem?_eq_getElem (by omega), Option.bind_eq_some_iff] at h1
      obtain ⟨cs, hc, hy⟩ := h1
      obtain ⟨g1, g2, g3⟩ := World.cells?_some hc
      obtain ⟨z, B, d, rfl, hr⟩ := leaf_trn ht e0 e1 e2 hT0 hT1 hT2 o0 o1 o2 u0 u2 u3 k0 k2 k3 hsp (by simpa using g2) hy
      refine ⟨(z, B, d), ?_, ?_, ?_, hr⟩
      · have := g3 0 (by omega); rw [ad_add] at this; simpa using this
      · have := g3 1 (by omega); rw [ad_add] at this; simpa using this
      · have := g3 2 (by omega); rw [ad_add] at this; simpa using this
    obtain ⟨Z, hZ⟩ := choose_lt each
    have hlm : ((List.range len).map fun i => (Z i).1).length = len := by simp
    refine ⟨some a, cap, (List.range len).map fun i => (Z i).1, by rw [hlm]; simpa using hcs, by rw [hlm]; unfold maxLen at hm; omega, fun _ => ⟨a, rfl, fun i hi => ?_⟩⟩
    rw [hlm] at hi
    have e0 : ((List.range len).map fun i => (Z i).1).getD i Rg.t0 = (Z i).1 := by
      rw [List.getD_eq_getElem?_getD, List.getElem?_map, List.getElem?_range hi]; rfl
    rw [e0]
    exact ⟨(Z i).2.1, (Z i).2.2, hZ i hi⟩
/-- a slice of slices: what is said of its rows is a parameter -/
theorem leaf_rows {α : Type} {R : World → Option Addr → List α → Prop} {q : TypeId} (ht : P.underlying t = some (.slice q)) (cq : P.cellsOf q = 1)
    (row : ∀ {m : Nat} {x : Value} {u : DataW H × List MemPlace}, DataW.trod enc P W base spare held m q [x] = some u → ∃ A d xs, x = .slice A xs.length d ∧ R W A xs)
    (h : DataW.trod enc P W base spare held n t [c] = some y) : ∃ A d xss, c = .slice A xss.length d ∧ RdS R W A xss := by
  rcases DataW.trod_slice ht h with ⟨hcs, _⟩ | ⟨a, len, cap, elems, rest, m, _, hcs, _, hb, hl, hm, hlen, hel, -, -⟩
  · exact ⟨none, 0, [], by simpa using hcs, ⟨by simp, fun h => absurd h (by simp)⟩⟩
  · have each : ∀ i, i < len → ∃ z : Option Addr × Nat × List α, W.cell? (a.add i) = some (.slice z.1 z.2.2.length z.2.1) ∧ R W z.1 z.2.2 := by
      intro i hi
      have h1 := hel i hi
      rw [cq, Nat.mul_one, List.getElem?_eq_getElem (by omega), Option.bind_eq_some_iff] at h1
      obtain ⟨cs, hc, hy⟩ := h1
      obtain ⟨g1, g2, g3⟩ := World.cells?_some hc
      match cs, g2 with
      | [x], _ =>
        obtain ⟨A, d, xs, rfl, hr⟩ := row hy
        exact ⟨(A, d, xs), cell_of_cells?_one hc, hr⟩
    obtain ⟨Z, hZ⟩ := choose_lt each
    have hlm : ((List.range len).map fun i => (Z i).2.2).length = len := by simp
    refine ⟨some a, cap, (List.range len).map fun i => (Z i).2.2, by rw [hlm]; simpa using hcs, by rw [hlm]; unfold maxLen at hm; omega, fun _ => ⟨a, rfl, fun i hi => ?_⟩⟩
    rw [hlm] at hi
    have e0 : ((List.range len).map fun i => (Z i).2.2).getD i [] = (Z i).2.2 := by
      rw [List.getD_eq_getElem?_getD, List.getElem?_map, List.getElem?_range hi]; rfl
    rw [e0]
    exact ⟨(Z i).1, (Z i).2.1, hZ i hi⟩
theorem leaf_trm {q1 q2 e T0 T2 T3 : TypeId} {fs : Array Field} {f0 f1 f2 : Field} (h1 : P.underlying t = some (.slice q1)) (c1 : P.cellsOf q1 = 1) (h2 : P.underlying q1 = some (.slice q2)) (c2 : P.cellsOf q2 = 1) (hs : P.underlying q2 = some (.slice e)) (ce : P.cellsOf e = 3) (ht : P.underlying e = some (.struct fs)) (e0 : fs[0]? = some f0) (e1 : fs[1]? = some f1) (e2 : fs[2]? = some f2) (hT0 : f0.type = T0) (hT1 : f1.type = T0) (hT2 : f2.type = T2) (o0 : f0.offset = 0) (o1 : f1.offset = 1) (o2 : f2.offset = 2)
    (u0 : P.underlying T0 = some (.int .i64)) (u2 : P.underlying T2 = some (.slice T3)) (u3 : P.underlying T3 = some (.int .i64)) (k0 : P.cellsOf T0 = 1) (k2 : P.cellsOf T2 = 1) (k3 : P.cellsOf T3 = 1) (hsp : ∀ b, spare b = true)
    (h : DataW.trod enc P W base spare held n t [c] = some y) : ∃ A d xs, c = .slice A xs.length d ∧ RdS (RdS RdT) W A xs :=
  leaf_rows h1 c1 (fun hh => leaf_rows h2 c2 (fun hi => leaf_trs hs ce ht e0 e1 e2 hT0 hT1 hT2 o0 o1 o2 u0 u2 u3 k0 k2 k3 hsp hi) hh) h
theorem open_prs {e T0 T1 : TypeId} {fs : Array Field} {f0 f1 : Field} {r : Reach} {b0 : Nat} {v : Value} {d : DataW H} {p : List MemPlace} (ht : P.underlying t = some (.slice e)) (he : P.underlying e = some (.struct fs)) (ce : P.cellsOf e = 2) (e0 : fs[0]? = some f0) (e1 : fs[1]? = some f1) (hT0 : f0.type = T0) (hT1 : f1.type = T1) (o0 : f0.offset = 0) (o1 : f1.offset = 1)
    (u0 : P.underlying T0 = some (.int .i64)) (u1 : P.underlying T1 = some (.int .i64)) (k0 : P.cellsOf T0 = 1) (k1 : P.cellsOf T1 = 1)
    (hv : Value.okWide P W r b0 t v) (h : DataW.Trod enc P W base spare held t v d p) : ∃ A c xs, v = .slice A xs.length c ∧ Rd2 W A xs ∧ WfW xs := by
  obtain ⟨a, len, cap, rfl⟩ := okWide_slice ht hv
  obtain ⟨fuel, hf⟩ := h
  exact leaf_prs ht he ce e0 e1 hT0 hT1 o0 o1 u0 u1 k0 k1 hf
end
end Go.Proofs.Ytaoebjabdejpoaa
