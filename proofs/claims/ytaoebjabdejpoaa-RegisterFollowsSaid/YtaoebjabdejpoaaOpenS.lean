/- Opening arguments that are structs, field by field, and slices of slices. -/
import Derived.Test.YtaoebjabdejpoaaOpen
import Derived.Test.YtaoebjabdejpoaaApp
import Derived.Deep.Matrix
namespace Go.Proofs.Ytaoebjabdejpoaa
open Go.ChangeShapes Go.WideShapes Go.ChangeAt Go.RowKit Go.Deep

def WfM (k : IntKind) (xss : List (List Int)) : Prop := ∀ xs ∈ xss, Wf k xs ∧ xs.length ≤ 9223372036854775807

section
variable {H : Type} {enc : TypeId × Value → H} {P : Program} {W : World} {base : Nat} {spare : Nat → Bool} {held : Bool} {n : Nat} {t : TypeId} {c : Value} {y : DataW H × List MemPlace}
theorem field_at {cs : List Value} {fs : Array Field} {ys : List (DataW H × List MemPlace)}
    (hf : ∀ (i : Nat) (f : Field), fs[i]? = some f → DataW.trod enc P W base spare held n f.type ((cs.drop f.offset).take (P.cellsOf f.type)) = ys[i]?) (i : Nat) (f : Field) (T : TypeId) (off k : Nat)
    (hi : fs[i]? = some f) (hT : f.type = T) (ho : f.offset = off) (hk : P.cellsOf T = k) (hl : i < ys.length) : ∃ y, DataW.trod enc P W base spare held n T ((cs.drop off).take k) = some y := by
  have e := hf i f hi
  rw [hT, ho, hk] at e
  exact ⟨_, e.trans (List.getElem?_eq_getElem hl)⟩
theorem leaf_int {k : IntKind} (ht : P.underlying t = some (.int k)) (h : DataW.trod enc P W base spare held n t [c] = some y) : ∃ a, c = .int k a ∧ (Lit.int k a).wf = true := by
  obtain ⟨a, h1, _, h2⟩ := DataW.trod_int ht h
  exact ⟨a, by simpa using h1, h2⟩
theorem leaf_bool (ht : P.underlying t = some .bool) (h : DataW.trod enc P W base spare held n t [c] = some y) : ∃ a, c = .bool a := by
  obtain ⟨a, h1, _⟩ := DataW.trod_bool ht h
  exact ⟨a, by simpa using h1⟩
theorem leaf_sl {e : TypeId} {k : IntKind} (ht : P.underlying t = some (.slice e)) (he : P.underlying e = some (.int k)) (hc : P.cellsOf e = 1) (hsp : ∀ b, spare b = true)
    (h : DataW.trod enc P W base spare held n t [c] = some y) : ∃ A d xs, c = .slice A xs.length d ∧ RdK k W A xs ∧ Wf k xs := by
  rcases open_ints ht he hc h with ⟨hcs, _⟩ | ⟨x, l, d, zs, hcs, _, hl, hm, hz, _, hcell, hwz⟩
  · exact ⟨none, 0, [], by simpa using hcs, RdK.nil, fun x hx => by cases hx⟩
  · have hz' : zs.length = d := by simpa [hsp] using hz
    have hlen : (zs.take l).length = l := by simp; omega
    exact ⟨some x, d, zs.take l, by rw [hlen]; simpa using hcs, rdk_of_cells (by omega) (by omega) hcell, fun y hy => hwz y (List.mem_of_mem_take hy)⟩
theorem leaf_mat {e q : TypeId} {k : IntKind} (ht : P.underlying t = some (.slice e)) (he : P.underlying e = some (.slice q)) (hq : P.underlying q = some (.int k)) (ce : P.cellsOf e = 1) (cq : P.cellsOf q = 1)
    (h : DataW.trod enc P W base (fun _ => true) held n t [c] = some y) : ∃ A d xss, c = .slice A xss.length d ∧ RdM k W A xss ∧ WfM k xss := by
  rcases open_int_rows ht he hq ce cq h with ⟨hcs, _⟩ | ⟨a, len, cap, A, L, C, Z, hcs, _, hl, hm, _, hr⟩
  · exact ⟨none, 0, [], by simpa using hcs, RdM.nil, fun x hx => by cases hx⟩
  · have row : ∀ r, r < cap → ((Z r).take (L r)).length = L r := fun r hr' => by
      obtain ⟨_, h1, _, h3, _⟩ := hr r hr'
      simp; omega
    refine ⟨some a, cap, (List.range len).map fun r => (Z r).take (L r), by simpa using hcs, ⟨by simp; unfold maxLen at hm; omega, fun _ => ⟨a, rfl, fun i hi => ?_⟩⟩, ?_⟩
    · have hi' : i < len := by simpa using hi
      have e0 : ((List.range len).map fun r => (Z r).take (L r)).getD i [] = (Z i).take (L i) := by
        rw [List.getD_eq_getElem?_getD, List.getElem?_map, List.getElem?_range hi']; rfl
      rw [e0, row i (by omega)]
      obtain ⟨h0, h1, h2, h3, h4, h5, h6⟩ := hr i (by omega)
      refine ⟨A i, C i, h0, ?_⟩
      rcases hA : A i with _ | a'
      · have : C i = 0 := h5 hA
        have hz0 : (Z i).take (L i) = [] := by rw [show L i = 0 from by omega]; simp
        rw [hz0]; exact RdK.nil
      · exact rdk_of_cells (by omega) (by omega) fun j hj => (h6 a' hA).2 j (by omega)
    · intro xs hxs
      obtain ⟨r, hr', rfl⟩ := List.mem_map.1 hxs
      have hr'' : r < len := by simpa using hr'
      obtain ⟨_, h1, h2, h3, h4, _⟩ := hr r (by omega)
      refine ⟨fun y hy => h4 y (List.mem_of_mem_take hy), ?_⟩
      rw [row r (by omega)]; unfold maxLen at h2; omega
theorem open_mat {e q : TypeId} {k : IntKind} {r : Reach} {b0 : Nat} {v : Value} {d : DataW H} {p : List MemPlace} (ht : P.underlying t = some (.slice e)) (he : P.underlying e = some (.slice q)) (hq : P.underlying q = some (.int k)) (ce : P.cellsOf e = 1) (cq : P.cellsOf q = 1) (_hsp : ∀ b : Nat, (fun _ : Nat => true) b = true)
    (hv : Value.okWide P W r b0 t v) (h : DataW.Trod enc P W base (fun _ => true) held t v d p) : ∃ A c xss, v = .slice A xss.length c ∧ RdM k W A xss ∧ WfM k xss := by
  obtain ⟨a, len, cap, rfl⟩ := okWide_slice ht hv
  obtain ⟨fuel, hf⟩ := h
  exact leaf_mat ht he hq ce cq hf
end
end Go.Proofs.Ytaoebjabdejpoaa
