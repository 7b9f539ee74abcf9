/- Opening arguments that are slices of pairs, slices of slices of pairs, arrays of two ints. -/
import Derived.Test.YtpcoddbkcelaoaaOpenS
import Derived.Test.YtpcoddbkcelaoaaMem
import Derived.Laws.IdiomArrays
namespace Go.Proofs.Ytpcoddbkcelaoaa
open Go.ChangeShapes Go.WideShapes Go.ChangeAt Go.RowKit Go.Deep

section
variable {H : Type} {enc : TypeId × Value → H} {P : Program} {W : World} {base : Nat} {spare : Nat → Bool} {held : Bool} {n : Nat} {t : TypeId} {c : Value} {y : DataW H × List MemPlace}
theorem len2 {α : Type} {l : List α} (h : l.length = 2) : ∃ x y, l = [x, y] := by
  match l, h with
  | [x, y], _ => exact ⟨x, y, rfl⟩
/-- a pair's cells -/
theorem leaf_pair {T0 T1 : TypeId} {fs : Array Field} {f0 f1 : Field} (ht : P.underlying t = some (.struct fs)) (e0 : fs[0]? = some f0) (e1 : fs[1]? = some f1) (hT0 : f0.type = T0) (hT1 : f1.type = T1) (o0 : f0.offset = 0) (o1 : f1.offset = 1)
    (u0 : P.underlying T0 = some (.int .i64)) (u1 : P.underlying T1 = some (.int .i64)) (k0 : P.cellsOf T0 = 1) (k1 : P.cellsOf T1 = 1) {cs : List Value} (hcs : cs.length = 2) (h : DataW.trod enc P W base spare held n t cs = some y) : ∃ a b, cs = [.int .i64 a, .int .i64 b] := by
  obtain ⟨x, z, rfl⟩ := len2 hcs
  obtain ⟨ys, m, _, _, _, hl, hf⟩ := DataW.trod_struct ht h
  have i0 : 0 < fs.size := (Array.getElem?_eq_some_iff.1 e0).1
  have i1 : 1 < fs.size := (Array.getElem?_eq_some_iff.1 e1).1
  obtain ⟨y0, h0⟩ := field_at hf 0 f0 T0 0 1 e0 hT0 o0 k0 (by omega)
  obtain ⟨y1, h1⟩ := field_at hf 1 f1 T1 1 1 e1 hT1 o1 k1 (by omega)
  obtain ⟨a, rfl, _⟩ := leaf_int u0 h0
  obtain ⟨b, rfl, _⟩ := leaf_int u1 h1
  exact ⟨a, b, rfl⟩
theorem leaf_prs {e T0 T1 : TypeId} {fs : Array Field} {f0 f1 : Field} (ht : P.underlying t = some (.slice e)) (he : P.underlying e = some (.struct fs)) (ce : P.cellsOf e = 2) (e0 : fs[0]? = some f0) (e1 : fs[1]? = some f1) (hT0 : f0.type = T0) (hT1 : f1.type = T1) (o0 : f0.offset = 0) (o1 : f1.offset = 1)
    (u0 : P.underlying T0 = some (.int .i64)) (u1 : P.underlying T1 = some (.int .i64)) (k0 : P.cellsOf T0 = 1) (k1 : P.cellsOf T1 = 1)
    (h : DataW.trod enc P W base spare held n t [c] = some y) : ∃ A d xs, c = .slice A xs.length d ∧ Rd2 W A xs := by
  rcases DataW.trod_slice ht h with ⟨hcs, _⟩ | ⟨a, len, cap, elems, rest, m, _, hcs, _, hb, hl, hm, hlen, hel, -, -⟩
  · exact ⟨none, 0, [], by simpa using hcs, Rd2.nil⟩
  · have each : ∀ i, i < len → ∃ z : Int × Int, W.cell? (a.add (i * 2)) = some (.int .i64 z.1) ∧ W.cell? (a.add (i * 2 + 1)) = some (.int .i64 z.2) := by
      intro i hi
      have h1 := hel i hi
      rw [ce, List.getElem?_eq_getElem (by omega), Option.bind_eq_some_iff] at h1
      obtain ⟨cs, hc, hy⟩ := h1
      obtain ⟨g1, g2, g3⟩ := World.cells?_some hc
      obtain ⟨p, q, rfl⟩ := leaf_pair he e0 e1 hT0 hT1 o0 o1 u0 u1 k0 k1 (by simpa using g2) hy
      refine ⟨(p, q), ?_, ?_⟩
      · have := g3 0 (by omega); rw [ad_add] at this; simpa using this
      · have := g3 1 (by omega); rw [ad_add] at this; simpa using this
    obtain ⟨Z, hZ⟩ := choose_lt each
    have hlm : ((List.range len).map Z).length = len := by simp
    refine ⟨some a, cap, (List.range len).map Z, by rw [hlm]; simpa using hcs, by rw [hlm]; unfold maxLen at hm; omega, fun _ => ⟨a, rfl, fun i hi => ?_⟩⟩
    rw [hlm] at hi
    have e0 : ((List.range len).map Z).getD i (0, 0) = Z i := by
      rw [List.getD_eq_getElem?_getD, List.getElem?_map, List.getElem?_range hi]; rfl
    rw [e0]
    exact hZ i hi
theorem leaf_prm {q e T0 T1 : TypeId} {fs : Array Field} {f0 f1 : Field} (ht : P.underlying t = some (.slice q)) (hq : P.underlying q = some (.slice e)) (he : P.underlying e = some (.struct fs)) (cq : P.cellsOf q = 1) (ce : P.cellsOf e = 2) (e0 : fs[0]? = some f0) (e1 : fs[1]? = some f1) (hT0 : f0.type = T0) (hT1 : f1.type = T1) (o0 : f0.offset = 0) (o1 : f1.offset = 1)
    (u0 : P.underlying T0 = some (.int .i64)) (u1 : P.underlying T1 = some (.int .i64)) (k0 : P.cellsOf T0 = 1) (k1 : P.cellsOf T1 = 1)
    (h : DataW.trod enc P W base spare held n t [c] = some y) : ∃ A d xss, c = .slice A xss.length d ∧ RdP W A xss := by
  rcases DataW.trod_slice ht h with ⟨hcs, _⟩ | ⟨a, len, cap, elems, rest, m, _, hcs, _, hb, hl, hm, hlen, hel, -, -⟩
  · exact ⟨none, 0, [], by simpa using hcs, ⟨by simp, fun h => absurd h (by simp)⟩⟩
  · have each : ∀ i, i < len → ∃ z : Option Addr × Nat × List (Int × Int), W.cell? (a.add i) = some (.slice z.1 z.2.2.length z.2.1) ∧ Rd2 W z.1 z.2.2 := by
      intro i hi
      have h1 := hel i hi
      rw [cq, Nat.mul_one, List.getElem?_eq_getElem (by omega), Option.bind_eq_some_iff] at h1
      obtain ⟨cs, hc, hy⟩ := h1
      obtain ⟨g1, g2, g3⟩ := World.cells?_some hc
      match cs, g2 with
      | [x], _ =>
        obtain ⟨A, d, xs, rfl, hr⟩ := leaf_prs hq he ce e0 e1 hT0 hT1 o0 o1 u0 u1 k0 k1 hy
        refine ⟨(A, d, xs), ?_, hr⟩
        exact cell_of_cells?_one hc
    obtain ⟨Z, hZ⟩ := choose_lt each
    have hlm : ((List.range len).map fun i => (Z i).2.2).length = len := by simp
    refine ⟨some a, cap, (List.range len).map fun i => (Z i).2.2, by rw [hlm]; simpa using hcs, by rw [hlm]; unfold maxLen at hm; omega, fun _ => ⟨a, rfl, fun i hi => ?_⟩⟩
    rw [hlm] at hi
    have e0 : ((List.range len).map fun i => (Z i).2.2).getD i [] = (Z i).2.2 := by
      rw [List.getD_eq_getElem?_getD, List.getElem?_map, List.getElem?_range hi]; rfl
    rw [e0]
    exact ⟨(Z i).1, (Z i).2.1, hZ i hi⟩
theorem open_prs {e T0 T1 : TypeId} {fs : Array Field} {f0 f1 : Field} {r : Reach} {b0 : Nat} {v : Value} {d : DataW H} {p : List MemPlace} (ht : P.underlying t = some (.slice e)) (he : P.underlying e = some (.struct fs)) (ce : P.cellsOf e = 2) (e0 : fs[0]? = some f0) (e1 : fs[1]? = some f1) (hT0 : f0.type = T0) (hT1 : f1.type = T1) (o0 : f0.offset = 0) (o1 : f1.offset = 1)
    (u0 : P.underlying T0 = some (.int .i64)) (u1 : P.underlying T1 = some (.int .i64)) (k0 : P.cellsOf T0 = 1) (k1 : P.cellsOf T1 = 1)
    (hv : Value.okWide P W r b0 t v) (h : DataW.Trod enc P W base spare held t v d p) : ∃ A c xs, v = .slice A xs.length c ∧ Rd2 W A xs := by
  obtain ⟨a, len, cap, rfl⟩ := okWide_slice ht hv
  obtain ⟨fuel, hf⟩ := h
  exact leaf_prs ht he ce e0 e1 hT0 hT1 o0 o1 u0 u1 k0 k1 hf
theorem okWide_array {m : Nat} {e : TypeId} {r : Reach} {b0 : Nat} {v : Value} (ht : P.underlying t = some (.array m e)) (h : Value.okWide P W r b0 t v) : ∃ cs, v = .agg cs ∧ cs.size = P.cellsOf t := by
  simp only [Value.okWide, ht] at h
  obtain ⟨cs, h1, h2, _⟩ := h
  exact ⟨cs, h1, h2⟩
theorem open_two {e : TypeId} {k : IntKind} {r : Reach} {b0 : Nat} {v : Value} {d : DataW H} {p : List MemPlace} (ht : P.underlying t = some (.array 2 e)) (he : P.underlying e = some (.int k)) (ct : P.cellsOf t = 2) (ce : P.cellsOf e = 1)
    (hv : Value.okWide P W r b0 t v) (h : DataW.Trod enc P W base spare held t v d p) : ∃ a b, v = .agg #[.int k a, .int k b] ∧ (Lit.int k a).wf = true ∧ (Lit.int k b).wf = true := by
  obtain ⟨⟨l⟩, rfl, hs⟩ := okWide_array ht hv
  obtain ⟨fuel, hf⟩ := h
  obtain ⟨x, z, rfl⟩ := len2 (l := l) (by rw [← ct]; exact hs)
  have hf' : DataW.trod enc P W base spare held fuel t [x, z] = some (d, p) := hf
  cases fuel with
  | zero => simp [DataW.trod] at hf'
  | succ n =>
    unfold DataW.trod at hf'
    rw [ht] at hf'
    have r2 : List.range 2 = [0, 1] := rfl
    simp [r2, ce] at hf'
    obtain ⟨_, hf'⟩ := hf'
    cases h0 : DataW.trod enc P W base spare held n e [x] with
    | none => simp [h0] at hf'
    | some y0 =>
      cases h1 : DataW.trod enc P W base spare held n e [z] with
      | none => simp [h0, h1] at hf'
      | some y1 =>
        obtain ⟨a, rfl, w0⟩ := leaf_int he h0
        obtain ⟨b, rfl, w1⟩ := leaf_int he h1
        exact ⟨a, b, rfl, w0, w1⟩
end
end Go.Proofs.Ytpcoddbkcelaoaa
