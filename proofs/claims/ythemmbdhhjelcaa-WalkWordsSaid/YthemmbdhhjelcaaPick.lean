/- Plain law of the weighted choice: sums of weights, and which index a number picks. -/
import Derived.Test.YthemmbdhhjelcaaRnd
namespace Go.Proofs.Ythemmbdhhjelcaa.Rnd

theorem drop_cons (xs : List Int) (k : Nat) (h : k < xs.length) : xs.drop k = xs.getD k 0 :: xs.drop (k + 1) := by
  rw [List.drop_eq_getElem_cons h]
  congr 1
  rw [List.getD_eq_getElem?_getD, List.getElem?_eq_getElem h]; rfl
theorem sum_drop (xs : List Int) (k : Nat) (h : k < xs.length) : (xs.drop k).sum = xs.getD k 0 + (xs.drop (k + 1)).sum := by
  rw [drop_cons xs k h, List.sum_cons]
theorem sum_nn : ∀ (xs : List Int), (∀ x ∈ xs, 0 ≤ x) → 0 ≤ xs.sum
  | [], _ => by simp
  | x :: xs, h => by
    have := sum_nn xs fun y hy => h y (by simp [hy])
    have := h x (by simp)
    rw [List.sum_cons]; omega
theorem sum_drop_nn (xs : List Int) (h : ∀ x ∈ xs, 0 ≤ x) (k : Nat) : 0 ≤ (xs.drop k).sum := sum_nn _ fun y hy => h y (List.mem_of_mem_drop hy)
theorem getD_nn (xs : List Int) (h : ∀ x ∈ xs, 0 ≤ x) (k : Nat) : 0 ≤ xs.getD k 0 := by
  by_cases hk : k < xs.length
  · exact h _ (by rw [List.getD_eq_getElem?_getD, List.getElem?_eq_getElem hk]; simp)
  · rw [List.getD_eq_getElem?_getD, List.getElem?_eq_none (by omega)]; simp
def pick : List Int → Int → Nat
  | [], _ => 0
  | w :: ws, x => if w ≤ x then pick ws (x - w) + 1 else 0
/-- what a choice returns: the index, the next state, the error -/
noncomputable def chv (s : Nat) (xs : List Int) : Int × Nat × Int :=
  if xs.all (fun x => decide (0 ≤ x)) = true then
    if 2147483648 < xs.sum ∨ xs.sum = 0 then (0, 0, 2)
    else (pick xs (bel s xs.sum.toNat).1, (bel s xs.sum.toNat).2, 0)
  else (0, 0, 1)
theorem all_nn {xs : List Int} : xs.all (fun x => decide (0 ≤ x)) = true ↔ ∀ x ∈ xs, 0 ≤ x := by simp
theorem chv_neg {s : Nat} {xs : List Int} (h : ¬ ∀ x ∈ xs, 0 ≤ x) : chv s xs = (0, 0, 1) := by
  unfold chv; rw [if_neg (fun e => h (all_nn.1 e))]
theorem chv_out {s : Nat} {xs : List Int} (h : ∀ x ∈ xs, 0 ≤ x) (h2 : 2147483648 < xs.sum ∨ xs.sum = 0) : chv s xs = (0, 0, 2) := by
  unfold chv; rw [if_pos (all_nn.2 h), if_pos h2]
theorem chv_in {s : Nat} {xs : List Int} (h : ∀ x ∈ xs, 0 ≤ x) (h2 : xs.sum ≤ 2147483648) (h3 : 1 ≤ xs.sum) : chv s xs = (↑(pick xs (bel s xs.sum.toNat).1), (bel s xs.sum.toNat).2, 0) := by
  unfold chv; rw [if_pos (all_nn.2 h), if_neg (by omega)]
theorem chv_lt (s : Nat) (xs : List Int) : (chv s xs).2.1 < 18446744073709551616 := by
  unfold chv; split
  · split
    · simp
    · exact bel2_lt _ _
  · simp
/-- all that are taken so far are not negative, or one of them is -/
theorem nn_or (xs : List Int) : (∀ x ∈ xs, 0 ≤ x) ∨ ∃ k, k < xs.length ∧ xs.getD k 0 < 0 ∧ ∀ j, j < k → 0 ≤ xs.getD j 0 := by
  induction xs with
  | nil => left; simp
  | cons x xs ih =>
    by_cases hx : 0 ≤ x
    · rcases ih with h | ⟨k, h1, h2, h3⟩
      · left; simpa using ⟨hx, h⟩
      · right
        refine ⟨k + 1, by simpa using h1, by simpa using h2, fun j hj => ?_⟩
        cases j with
        | zero => simpa using hx
        | succ j => simpa using h3 j (by omega)
    · right; exact ⟨0, by simp, by simpa using hx, fun j hj => by omega⟩
theorem pick_yes {xs : List Int} {i : Nat} {x : Int} (h : i < xs.length) (hx : xs.getD i 0 ≤ x) : pick (xs.drop i) x = pick (xs.drop (i + 1)) (x - xs.getD i 0) + 1 := by
  rw [drop_cons xs i h, pick, if_pos hx]
theorem pick_no {xs : List Int} {i : Nat} {x : Int} (h : i < xs.length) (hx : x < xs.getD i 0) : pick (xs.drop i) x = 0 := by
  rw [drop_cons xs i h, pick, if_neg (by omega)]
theorem drop_pos {xs : List Int} {i : Nat} {x : Int} (h0 : 0 ≤ x) (h : x < (xs.drop i).sum) : i < xs.length := by
  rcases Nat.lt_or_ge i xs.length with h1 | h1
  · exact h1
  · rw [List.drop_eq_nil_of_le h1] at h; simp at h; omega
/-- what is picked: an index inside, of a weight above 0, between the sums -/
theorem pick_spec : ∀ (xs : List Int) (x : Int), 0 ≤ x → x < xs.sum → pick xs x < xs.length ∧ (xs.take (pick xs x)).sum ≤ x ∧ x < (xs.take (pick xs x)).sum + xs.getD (pick xs x) 0
  | [], x, h0, h => by simp at h; omega
  | w :: ws, x, h0, h => by
    rw [List.sum_cons] at h
    by_cases hw : w ≤ x
    · have := pick_spec ws (x - w) (by omega) (by omega)
      rw [pick, if_pos hw]
      simp only [List.length_cons, List.take_succ_cons, List.sum_cons, List.getD_cons_succ]
      omega
    · rw [pick, if_neg hw]
      simp; omega
end Go.Proofs.Ythemmbdhhjelcaa.Rnd
