/- Plain arithmetic of the random numbers (no program in sight): the next state, the mixed number, the rejection loop as a function, and why it ends. -/
namespace Go.Proofs.Ytpoppadihbgbgaa.Rnd

/-- the next state -/
def ny0 (s : Nat) : Nat := (s + 11400714819323198485) % 18446744073709551616
/-- the mixing of a state -/
def mz (y : Nat) : Nat := ((y ^^^ (y / 1073741824)) * 13787848793156543929) % 18446744073709551616
def mu (z : Nat) : Nat := ((z ^^^ (z / 134217728)) * 10723151780598845931) % 18446744073709551616
def mx (u : Nat) : Nat := u ^^^ (u / 2147483648)
def mix0 (y : Nat) : Nat := mx (mu (mz y))

theorem ny0_lt (s : Nat) : ny0 s < 18446744073709551616 := Nat.mod_lt _ (by omega)
theorem mix0_zero : mix0 0 = 0 := by simp [mix0, mz, mu, mx]
theorem mz_lt (s : Nat) : mz s < 18446744073709551616 := Nat.mod_lt _ (by omega)
theorem mu_lt (s : Nat) : mu s < 18446744073709551616 := Nat.mod_lt _ (by omega)
theorem mx_lt (u : Nat) (h : u < 18446744073709551616) : mx u < 18446744073709551616 := by
  have h' : u < 2 ^ 64 := by simpa using h
  have := Nat.xor_lt_two_pow (n := 64) h' (Nat.lt_of_le_of_lt (Nat.div_le_self u 2147483648) h')
  simpa [mx] using this
theorem mix0_lt (y : Nat) : mix0 y < 18446744073709551616 := mx_lt _ (mu_lt _)

/-- how many draws until the state is 0: the inverse of the step constant -/
def left0 (s : Nat) : Nat := if s = 0 then 18446744073709551616 else ((18446744073709551616 - s) * 17428512612931826493) % 18446744073709551616

theorem gen (M C I K s y k t : Nat) (hM : 1 < M) (hC : C * I = 1 + M * K) (hs : s < M) (hy : y = (s + C) % M) (hk : k = ((M - s) * I) % M) (ht : t = ((M - y) * I) % M) (hs0 : s ≠ 0) (hy0 : y ≠ 0) : t + 1 = k := by
  -- (M - y) * I + C * I ≡ (M - s) * I
  have e : ∃ q, (M - s) + M * q = (M - y) + C := by
    refine ⟨(s + C) / M, ?_⟩
    have h1 := Nat.div_add_mod (s + C) M
    have h2 : y < M := by rw [hy]; exact Nat.mod_lt _ (by omega)
    have : M * ((s + C) / M) + y = s + C := by rw [hy]; exact h1
    omega
  obtain ⟨q, e⟩ := e
  have e2 : (M - s) * I + M * (q * I) = (M - y) * I + (1 + M * K) := by
    have := congrArg (· * I) e
    simp only [Nat.add_mul] at this
    rw [Nat.mul_assoc] at this
    rw [this, hC]
  have e3 : k = (t + 1) % M := by
    rw [hk, ht]
    have h1 : ((M - s) * I) % M = ((M - s) * I + M * (q * I)) % M := by rw [Nat.add_mul_mod_self_left]
    rw [h1, e2, ← Nat.add_assoc, Nat.add_mul_mod_self_left, Nat.mod_add_mod]
  have ht' : t < M := by rw [ht]; exact Nat.mod_lt _ (by omega)
  have hk0 : k ≠ 0 := by
    intro h0
    rw [hk] at h0
    -- multiply by C
    have h1 : ((M - s) * I * C) % M = 0 := by rw [Nat.mul_mod, h0]; simp
    have h2 : (M - s) * I * C = (M - s) + M * ((M - s) * K) := by
      rw [Nat.mul_assoc, Nat.mul_comm I C, hC, Nat.mul_add, Nat.mul_one, Nat.mul_left_comm]
    rw [h2, Nat.add_mul_mod_self_left, Nat.mod_eq_of_lt (by omega)] at h1
    omega
  by_cases h : t + 1 < M
  · rw [e3, Nat.mod_eq_of_lt h]
  · have : t + 1 = M := by omega
    rw [this, Nat.mod_self] at e3
    exact absurd e3 hk0

theorem left0_ny (s : Nat) (hs : s < 18446744073709551616) (h0 : ny0 s ≠ 0) : left0 (ny0 s) + 1 = left0 s := by
  by_cases hs0 : s = 0
  · subst hs0
    simp only [left0, ny0]
    decide +kernel
  · unfold left0
    rw [if_neg h0, if_neg hs0]
    exact gen 18446744073709551616 11400714819323198485 17428512612931826493 10771413168148108919 s (ny0 s) _ _ (by simp) (by simp) hs rfl rfl rfl hs0 h0

theorem left0_lt (s : Nat) (hs : s < 18446744073709551616) (h0 : ny0 s ≠ 0) : left0 (ny0 s) < left0 s := by
  have := left0_ny s hs h0; omega

theorem left0_pos (s : Nat) (hs : s < 18446744073709551616) : 0 < left0 s := by
  by_cases h0 : ny0 s = 0
  · have e : s = 7046029254386353131 := by unfold ny0 at h0; omega
    rw [e]; simp [left0]
  · have := left0_ny s hs h0; omega

/-! the same behind names that nothing unfolds (the kernel would count the great numerals up one by one) -/
theorem ny_ex : ∃ f : Nat → Nat, f = ny0 := ⟨_, rfl⟩
theorem mix_ex : ∃ f : Nat → Nat, f = mix0 := ⟨_, rfl⟩
theorem left_ex : ∃ f : Nat → Nat, f = left0 := ⟨_, rfl⟩
noncomputable def ny : Nat → Nat := ny_ex.choose
noncomputable def mix : Nat → Nat := mix_ex.choose
noncomputable def left : Nat → Nat := left_ex.choose
theorem ny_def : ny = ny0 := ny_ex.choose_spec
theorem mix_def : mix = mix0 := mix_ex.choose_spec
theorem left_def : left = left0 := left_ex.choose_spec
theorem ny_lt (s : Nat) : ny s < 18446744073709551616 := by rw [ny_def]; exact ny0_lt s
theorem mix_lt (s : Nat) : mix s < 18446744073709551616 := by rw [mix_def]; exact mix0_lt s
theorem mix_zero : mix 0 = 0 := by rw [mix_def]; exact mix0_zero
theorem left_ny (s : Nat) (hs : s < 18446744073709551616) (h0 : ny s ≠ 0) : left (ny s) + 1 = left s := by rw [left_def, ny_def] at *; exact left0_ny s hs h0
theorem left_lt (s : Nat) (hs : s < 18446744073709551616) (h0 : ny s ≠ 0) : left (ny s) < left s := by have := left_ny s hs h0; omega
theorem left_pos (s : Nat) (hs : s < 18446744073709551616) : 0 < left s := by rw [left_def]; exact left0_pos s hs

/-- the same measure, read behind the step -/
theorem left2_ex : ∃ f : Nat → Nat, f = fun v => if v = 0 then 0 else left v := ⟨_, rfl⟩
noncomputable def left2 : Nat → Nat := left2_ex.choose
theorem left2_def (v : Nat) : left2 v = if v = 0 then 0 else left v := congrFun left2_ex.choose_spec v
theorem left2_lt (v : Nat) (hv : v < 18446744073709551616) (h0 : v ≠ 0) : left2 (ny v) < left2 v := by
  rw [left2_def, left2_def, if_neg h0]
  by_cases h : ny v = 0
  · rw [if_pos h]; exact left_pos v hv
  · rw [if_neg h]; exact left_lt v hv h

/-- the rejection loop with fuel -/
noncomputable def drawF (rest : Nat) : Nat → Nat → Nat × Nat
  | 0, _ => (0, 0)
  | f + 1, s => if mix (ny s) < 18446744073709551616 - rest then (mix (ny s), ny s) else drawF rest f (ny s)
noncomputable def draw (rest s : Nat) : Nat × Nat := drawF rest (left s) s

theorem draw_eq (rest s : Nat) (hs : s < 18446744073709551616) (hr : rest < 18446744073709551616) :
    draw rest s = if mix (ny s) < 18446744073709551616 - rest then (mix (ny s), ny s) else draw rest (ny s) := by
  unfold draw
  obtain ⟨f, hf⟩ : ∃ f, left s = f + 1 := ⟨left s - 1, by have := left_pos s hs; omega⟩
  rw [hf, drawF]
  split
  · rfl
  · rename_i hn
    have h0 : ny s ≠ 0 := by
      intro h; rw [h, mix_zero] at hn; omega
    have := left_ny s hs h0
    rw [show f = left (ny s) from by omega]

theorem draw_yes {rest s : Nat} (hs : s < 18446744073709551616) (hr : rest < 18446744073709551616) (h : mix (ny s) < 18446744073709551616 - rest) :
    draw rest s = (mix (ny s), ny s) := by rw [draw_eq rest s hs hr, if_pos h]
theorem draw_no {rest s : Nat} (hs : s < 18446744073709551616) (hr : rest < 18446744073709551616) (h : ¬ mix (ny s) < 18446744073709551616 - rest) :
    draw rest s = draw rest (ny s) := by rw [draw_eq rest s hs hr, if_neg h]
theorem no_left {rest s : Nat} (hs : s < 18446744073709551616) (hr : rest < 18446744073709551616) (h : ¬ mix (ny s) < 18446744073709551616 - rest) :
    left (ny s) < left s := by
  refine left_lt s hs fun h0 => ?_
  rw [h0, mix_zero] at h; omega

/-- 2^64 modulo n -/
theorem rest_ex : ∃ f : Nat → Nat, f = fun n => 18446744073709551616 % n := ⟨_, rfl⟩
noncomputable def rest : Nat → Nat := rest_ex.choose
theorem rest_def (n : Nat) : rest n = 18446744073709551616 % n := congrFun rest_ex.choose_spec n
theorem rest_lt (n : Nat) (h1 : 1 ≤ n) : rest n < n := by rw [rest_def]; exact Nat.mod_lt _ (by omega)
/-- what 'below' computes: the number and the next state -/
noncomputable def bel (s n : Nat) : Nat × Nat := ((draw (rest n) s).1 % n, (draw (rest n) s).2)

/-- the state after i draws below k -/
noncomputable def st (s k : Nat) : Nat → Nat
  | 0 => s
  | i + 1 => (bel (st s k i) k).2
/-- draw number i -/
noncomputable def dr (s k i : Nat) : Nat := (bel (st s k i) k).1
noncomputable def wl (s k n : Nat) : List Int := (List.range n).map fun i => (dr s k i : Int)
theorem wl_len (s k n : Nat) : (wl s k n).length = n := by simp [wl]
theorem wl_succ (s k n : Nat) : wl s k (n + 1) = wl s k n ++ [(dr s k n : Int)] := by simp [wl, List.range_succ]
theorem drF_lt (r : Nat) : ∀ f s, (drawF r f s).2 < 18446744073709551616 ∧ (drawF r f s).1 < 18446744073709551616
  | 0, s => by simp [drawF]
  | f + 1, s => by
    rw [drawF]; split
    · exact ⟨ny_lt s, mix_lt _⟩
    · exact drF_lt r f (ny s)
theorem bel2_lt (s k : Nat) : (bel s k).2 < 18446744073709551616 := (drF_lt _ _ _).1
theorem st_lt (s k : Nat) (hs : s < 18446744073709551616) : ∀ i, st s k i < 18446744073709551616
  | 0 => hs
  | _ + 1 => bel2_lt _ _
theorem bel_lt (s n : Nat) (hn : 1 ≤ n) : (bel s n).1 < n := Nat.mod_lt _ (by omega)
end Go.Proofs.Ytpoppadihbgbgaa.Rnd
