/- The contents of registers in the code's cells; the search for a value among them. -/
import Derived.Test.YtaoebjabdejpoaaQue
namespace Go.Proofs.Ytaoebjabdejpoaa
open Go.RowKit

namespace Rg
/-- the first register with the value among those from p on -/
def fndU (r : List Int) (v : Int) (p : Nat) : Nat := fndD r v (r.length - p)
theorem fndU_end (r : List Int) (v : Int) : fndU r v r.length = 0 := by unfold fndU; rw [Nat.sub_self]; rfl
theorem fndU_0 (r : List Int) (v : Int) : fndU r v 0 = fnd r v := rfl
theorem fndU_yes {r : List Int} {v : Int} {p : Nat} (hp : p < r.length) (h : r.getD p 0 = v) : fndU r v p = p + 1 := by
  unfold fndU
  rw [show r.length - p = (r.length - (p + 1)) + 1 by omega, fndD_yes (by rw [show r.length - (r.length - (p + 1) + 1) = p by omega]; exact h)]
  omega
theorem fndU_no {r : List Int} {v : Int} {p : Nat} (hp : p < r.length) (h : r.getD p 0 ≠ v) : fndU r v p = fndU r v (p + 1) := by
  unfold fndU
  rw [show r.length - p = (r.length - (p + 1)) + 1 by omega, fndD_no (by rw [show r.length - (r.length - (p + 1) + 1) = p by omega]; exact h)]
/-- what is assigned to the first j registers -/
def subs (r : List Int) (v : Int) (zs : List Int) (j : Nat) : List Int := (zs.take j).map (sub r v)
theorem subs_0 (r : List Int) (v : Int) (zs : List Int) : subs r v zs 0 = [] := by simp [subs]
theorem subs_all (r : List Int) (v : Int) (zs : List Int) : subs r v zs zs.length = zs.map (sub r v) := by simp [subs]
theorem subs_len (r : List Int) (v : Int) (zs : List Int) {j : Nat} (hj : j ≤ zs.length) : (subs r v zs j).length = j := by simp [subs]; omega
theorem subs_succ {r : List Int} {v : Int} {zs : List Int} {j : Nat} (hj : j < zs.length) {x : Int} (hx : zs.getD j 0 = x) : subs r v zs (j + 1) = subs r v zs j ++ [sub r v x] := by
  unfold subs
  rw [List.take_add_one, List.getElem?_eq_getElem hj, List.map_append]
  rw [List.getD_eq_getElem?_getD, List.getElem?_eq_getElem hj] at hx
  simp at hx
  simp [hx]
theorem sub_0 (r : List Int) (v : Int) : sub r v 0 = v := by unfold sub; rw [if_pos rfl]
theorem sub_at {r : List Int} {v : Int} {q : Nat} : sub r v ((q + 1 : Nat) : Int) = r.getD q 0 := by
  unfold sub; rw [if_neg (by omega), Int.toNat_natCast]; rfl
end Rg
/-- the cells of the contents of registers -/
def pcs (r : List Int) : Array Value := #[.int .i64 (r.getD 0 0), .int .i64 (r.getD 1 0), .int .i64 (r.getD 2 0), .int .i64 (r.getD 3 0)]
theorem pcs_nil : pcs [] = #[.int .i64 0, .int .i64 0, .int .i64 0, .int .i64 0] := rfl
theorem pcs_at {r : List Int} {x : Nat} (hx : x < 4) : (pcs r)[x]? = some (.int .i64 (r.getD x 0)) := by
  rcases x with _ | _ | _ | _ | x
  · rfl
  · rfl
  · rfl
  · rfl
  · omega
theorem pcs_one (r : List Int) : (pcs r).all (·.oneCell') = true := by simp [pcs, Value.oneCell']
theorem getD_past {ys : List Int} {u : Int} {x : Nat} (h : x ≠ ys.length) : (ys ++ [u]).getD x 0 = ys.getD x 0 := by
  rw [List.getD_eq_getElem?_getD, List.getD_eq_getElem?_getD, List.getElem?_append]
  split
  · rfl
  · rename_i h1
    rw [List.getElem?_eq_none (l := [u]) (by simp; omega), List.getElem?_eq_none (by omega)]
theorem getD_at {ys : List Int} {u : Int} : (ys ++ [u]).getD ys.length 0 = u := by
  rw [List.getD_eq_getElem?_getD, List.getElem?_append_right (Nat.le_refl _)]; simp
theorem pcs_set {ys : List Int} {u : Int} {j : Nat} (hl : ys.length = j) (hj : j < 4) : (pcs ys).setIfInBounds j (.int .i64 u) = pcs (ys ++ [u]) := by
  subst hl
  have h0 := @getD_past ys u 0
  have h1 := @getD_past ys u 1
  have h2 := @getD_past ys u 2
  have h3 := @getD_past ys u 3
  have hu := @getD_at ys u
  unfold pcs
  obtain ⟨n, hn⟩ : ∃ n, n = ys.length := ⟨_, rfl⟩
  rw [← hn] at h0 h1 h2 h3 hj hu ⊢
  rcases n with _ | _ | _ | _ | n
  · rw [h1 (by omega), h2 (by omega), h3 (by omega), hu]; rfl
  · rw [h0 (by omega), h2 (by omega), h3 (by omega), hu]; rfl
  · rw [h0 (by omega), h1 (by omega), h3 (by omega), hu]; rfl
  · rw [h0 (by omega), h1 (by omega), h2 (by omega), hu]; rfl
  · omega
theorem blk_pcs {w : World} {g : Nat} {r : List Int} {t : TypeId} (h : Blk w g t (pcs r)) {x : Nat} (hx : x < 4) : w.cell? ⟨g, x, none⟩ = some (.int .i64 (r.getD x 0)) := by rw [h.cell, pcs_at hx]
section
variable {P : Program} {fn : Func} {p q r : Tmp} {a : Act} {w : World} {g : Nat} {t ty : TypeId} {cs : Array Value} {d : TypeDesc} {R : Ending → World → Prop}
theorem ret_c121 (h : Blk w g t cs) (hf : fn.results = #[.tmp q, .cell p ty, .tmp r]) (hp : a.tmps.getD p undef = .pointer (some ⟨g, 0, none⟩)) (hu : P.underlying ty = some d) (hr : (match d with | .struct _ | .array _ _ => true | _ => false) = true) (hi : (P.info? ty).map (·.size) = some cs.size)
    (hd : a.defers = []) (hR : R (.returned (.tuple #[a.tmps.getD q undef, .agg cs, a.tmps.getD r undef])) w) : bodyPost P fn R .ret a w := by
  refine bodyPost_ret ?_ hd hR
  have hp' : a.tmps[p]?.getD undef = .pointer (some ⟨g, 0, none⟩) := by simpa using hp
  have hl := run_loadVar_row (P := P) w g t ty _ (0, 0) _ h hu hr hi
  simp [results, hf, hp', asAddr, hl]
end
end Go.Proofs.Ytaoebjabdejpoaa
