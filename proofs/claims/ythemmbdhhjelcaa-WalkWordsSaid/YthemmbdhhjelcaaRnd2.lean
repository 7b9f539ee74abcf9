/- Plain laws: a shuffle is a permutation; words in two parts; a draw moves the state. -/
import Derived.Test.YthemmbdhhjelcaaShuf
import Derived.Test.YthemmbdhhjelcaaPick
namespace Go.Proofs.Ythemmbdhhjelcaa.Rnd

theorem swp_lt {f : Nat → Nat} {n i k : Nat} (h : ∀ j, j < n → f j < n) (hi : i < n) (hk : k < n) : ∀ j, j < n → swp f i k j < n := by
  intro j hj
  unfold swp
  split
  · exact h i hi
  · split
    · exact h k hk
    · exact h j hj
theorem swp_inj {f : Nat → Nat} {n i k : Nat} (h : ∀ a, a < n → ∀ b, b < n → f a = f b → a = b) (hi : i < n) (hk : k < n) : ∀ a, a < n → ∀ b, b < n → swp f i k a = swp f i k b → a = b := by
  intro a ha b hb e
  have q1 := h i hi k hk
  have q2 := h i hi b hb
  have q4 := h k hk b hb
  have q5 := h a ha i hi
  have q6 := h a ha k hk
  have q7 := h a ha b hb
  unfold swp at e
  by_cases a1 : a = k
  · rw [if_pos a1] at e
    by_cases b1 : b = k
    · omega
    · rw [if_neg b1] at e
      by_cases b2 : b = i
      · rw [if_pos b2] at e; omega
      · rw [if_neg b2] at e; omega
  · rw [if_neg a1] at e
    by_cases a2 : a = i
    · rw [if_pos a2] at e
      by_cases b1 : b = k
      · rw [if_pos b1] at e; omega
      · rw [if_neg b1] at e
        by_cases b2 : b = i
        · omega
        · rw [if_neg b2] at e; omega
    · rw [if_neg a2] at e
      by_cases b1 : b = k
      · rw [if_pos b1] at e; omega
      · rw [if_neg b1] at e
        by_cases b2 : b = i
        · rw [if_pos b2] at e; omega
        · rw [if_neg b2] at e; omega
theorem shv_perm (n s : Nat) : ∀ t, t + 1 ≤ n → (∀ j, j < n → (shv n s t).1 j < n) ∧ (∀ a, a < n → ∀ b, b < n → (shv n s t).1 a = (shv n s t).1 b → a = b)
  | 0, _ => ⟨fun j hj => hj, fun a _ b _ e => e⟩
  | t + 1, ht => by
    obtain ⟨h1, h2⟩ := shv_perm n s t (by omega)
    have hb := bel_lt (shv n s t).2 (n - t) (by omega)
    rw [shv]
    exact ⟨swp_lt h1 (by omega) (by omega), swp_inj h2 (by omega) (by omega)⟩
/-- the shuffled numbers as a function -/
noncomputable def shf (n s : Nat) : Nat → Nat := (shv n s (n - 1)).1
theorem shl_eq (n s : Nat) : shl n s = (List.range n).map fun i => (shf n s i : Int) := rfl
theorem shf_lt (n s : Nat) {j : Nat} (hj : j < n) : shf n s j < n := (shv_perm n s (n - 1) (by omega)).1 j hj
theorem shf_inj (n s : Nat) {a b : Nat} (ha : a < n) (hb : b < n) (e : shf n s a = shf n s b) : a = b := (shv_perm n s (n - 1) (by omega)).2 a ha b hb e
theorem shl_get (n s : Nat) {j : Nat} (hj : j < n) : (shl n s).getD j 0 = (shf n s j : Int) := by
  rw [shl_eq, List.getD_eq_getElem?_getD, List.getElem?_map, List.getElem?_range hj]; rfl
def seen (f : Nat → Nat) (j m : Nat) : Bool := (List.range j).any fun i => f i == m
theorem seen_succ (f : Nat → Nat) (j m : Nat) : seen f (j + 1) m = (seen f j m || f j == m) := by
  simp [seen, List.range_succ]
theorem seen_no (n s j : Nat) (hj : j < n) : seen (shf n s) j (shf n s j) = false := by
  unfold seen
  rw [List.any_eq_false]
  intro i hi
  have hi' : i < j := by simpa using hi
  intro e
  have := shf_inj n s (by omega : i < n) hj (by simpa using e)
  omega

/-! words in two parts -/
theorem st_add (s k a b : Nat) : st s k (a + b) = st (st s k a) k b := by
  induction b with
  | zero => rfl
  | succ b ih => rw [← Nat.add_assoc, st, st, ih]
theorem dr_add (s k a b : Nat) : dr s k (a + b) = dr (st s k a) k b := by unfold dr; rw [st_add]
theorem wl_add (s k a b : Nat) : wl s k (a + b) = wl s k a ++ wl (st s k a) k b := by
  induction b with
  | zero => simp [wl]
  | succ b ih => rw [← Nat.add_assoc, wl_succ, wl_succ, ih, dr_add, List.append_assoc]
theorem wl_get (s k n : Nat) {j : Nat} (hj : j < n) : (wl s k n).getD j 0 = (dr s k j : Int) := by
  rw [wl, List.getD_eq_getElem?_getD, List.getElem?_map, List.getElem?_range hj]; rfl

/-! a draw moves the state -/
theorem drawF_ne (r : Nat) (hr : r < 18446744073709551616) : ∀ f s, s < 18446744073709551616 → (drawF r f s).2 = 0 ∨ left (drawF r f s).2 < left s
  | 0, s, _ => .inl rfl
  | f + 1, s, hs => by
    rw [drawF]
    by_cases h0 : ny s = 0
    · rw [if_pos (by rw [h0, mix_zero]; omega)]; exact .inl h0
    · have hl := left_lt s hs h0
      split
      · exact .inr hl
      · rcases drawF_ne r hr f (ny s) (ny_lt s) with h | h
        · exact .inl h
        · exact .inr (by omega)
theorem ny_0' : ny 0 = 11400714819323198485 := by rw [ny_def]; simp [ny0]
theorem mix_1' : mix 11400714819323198485 = 16294208416658607535 := by rw [mix_def]; simp [mix0, mz, mu, mx]
theorem bel_ne (s k : Nat) (hs : s < 18446744073709551616) (h1 : 1 ≤ k) (h2 : k ≤ 2147483648) : (bel s k).2 ≠ s := by
  have hr := rest_lt k h1
  by_cases h0 : s = 0
  · subst h0
    have := draw_yes (rest := rest k) (s := 0) (by omega) (by omega) (by rw [ny_0', mix_1']; omega)
    unfold bel; rw [this, ny_0']; simp
  · intro e
    unfold bel draw at e
    rcases drawF_ne (rest k) (by omega) (left s) s hs with h | h
    · simp only at e; omega
    · simp only at e; rw [e] at h; omega
end Go.Proofs.Ythemmbdhhjelcaa.Rnd
