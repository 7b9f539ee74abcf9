/- Plain law of a machine's validity: the error that the document gives, as a function of the numbers and tables. -/
import Derived.Test.YtaoebjabdejpoaaLib
namespace Go.Proofs.Ytaoebjabdejpoaa.Mea

/-- the first error of a list of errors by number -/
def firstE (f : Nat → Int) : Nat → Int
  | 0 => 0
  | n + 1 => if firstE f n = 0 then f n else firstE f n
theorem firstE_zero {f : Nat → Int} : ∀ {n : Nat}, (∀ j, j < n → f j = 0) → firstE f n = 0
  | 0, _ => rfl
  | n + 1, h => by rw [firstE, if_pos (firstE_zero fun j hj => h j (by omega))]; exact h n (by omega)
theorem firstE_at {f : Nat → Int} {s : Nat} (h : ∀ j, j < s → f j = 0) (h0 : f s ≠ 0) : ∀ {n : Nat}, s < n → firstE f n = f s
  | 0, hs => by omega
  | n + 1, hs => by
    rw [firstE]
    by_cases e : s = n
    · subst e; rw [if_pos (firstE_zero h)]
    · rw [firstE_at h h0 (by omega : s < n), if_neg h0]
theorem firstE_of_zero {f : Nat → Int} : ∀ {n : Nat}, firstE f n = 0 → ∀ j, j < n → f j = 0
  | 0, _, j, hj => by omega
  | n + 1, h, j, hj => by
    rw [firstE] at h
    by_cases h0 : firstE f n = 0
    · rw [if_pos h0] at h
      by_cases e : j = n
      · subst e; exact h
      · exact firstE_of_zero h0 j (by omega)
    · rw [if_neg h0] at h; exact absurd h h0

def okC (n : Nat) (t o : Int) : Prop := 0 ≤ t ∧ t < n ∧ 0 ≤ o ∧ o ≤ 1048576
instance (n : Nat) (t o : Int) : Decidable (okC n t o) := by unfold okC; infer_instance
def cellE (n : Nat) (xs os : List Int) (a : Nat) : Int := if okC n (xs.getD a 0) (os.getD a 0) then 0 else 2
/-- the error of a row -/
def rowE (n k : Nat) (xs os : List Int) : Int := if xs.length = k ∧ os.length = k then firstE (cellE n xs os) k else 1
def rowsE (k : Nat) (nx out : List (List Int)) (s : Nat) : Int := rowE nx.length k (nx.getD s []) (out.getD s [])
/-- the error of a machine -/
def validE (I S : Int) (nx out : List (List Int)) : Int :=
  if I < 1 ∨ 64 < I then 2 else if nx.length = 0 then 19 else if 128 < nx.length then 11 else if S < 0 ∨ (nx.length : Int) ≤ S then 2 else if out.length ≠ nx.length then 1
  else firstE (rowsE I.toNat nx out) nx.length
theorem cell_ok {n : Nat} {xs os : List Int} {a : Nat} {t o : Int} (h1 : xs.getD a 0 = t) (h2 : os.getD a 0 = o) (h : okC n t o) : cellE n xs os a = 0 := by unfold cellE; rw [h1, h2, if_pos h]
theorem cell_no {n : Nat} {xs os : List Int} {a : Nat} {t o : Int} (h1 : xs.getD a 0 = t) (h2 : os.getD a 0 = o) (h : ¬ okC n t o) : cellE n xs os a = 2 := by unfold cellE; rw [h1, h2, if_neg h]
theorem row_len {n k : Nat} {xs os : List Int} (h : ¬ (xs.length = k ∧ os.length = k)) : rowE n k xs os = 1 := by unfold rowE; rw [if_neg h]
theorem row_cells {n k : Nat} {xs os : List Int} (h1 : xs.length = k) (h2 : os.length = k) : rowE n k xs os = firstE (cellE n xs os) k := by unfold rowE; rw [if_pos ⟨h1, h2⟩]
theorem valid_I {I S : Int} {nx out : List (List Int)} (h : I < 1 ∨ 64 < I) : validE I S nx out = 2 := by unfold validE; rw [if_pos h]
theorem valid_0 {I S : Int} {nx out : List (List Int)} (h : ¬ (I < 1 ∨ 64 < I)) (h0 : nx.length = 0) : validE I S nx out = 19 := by unfold validE; rw [if_neg h, if_pos h0]
theorem valid_128 {I S : Int} {nx out : List (List Int)} (h : ¬ (I < 1 ∨ 64 < I)) (h0 : 128 < nx.length) : validE I S nx out = 11 := by unfold validE; rw [if_neg h, if_neg (by omega), if_pos h0]
theorem valid_S {I S : Int} {nx out : List (List Int)} (h : ¬ (I < 1 ∨ 64 < I)) (h0 : nx.length ≠ 0) (h1 : nx.length ≤ 128) (h2 : S < 0 ∨ (nx.length : Int) ≤ S) : validE I S nx out = 2 := by
  unfold validE; rw [if_neg h, if_neg h0, if_neg (by omega), if_pos h2]
theorem valid_out {I S : Int} {nx out : List (List Int)} (h : ¬ (I < 1 ∨ 64 < I)) (h0 : nx.length ≠ 0) (h1 : nx.length ≤ 128) (h2 : ¬ (S < 0 ∨ (nx.length : Int) ≤ S)) (h3 : out.length ≠ nx.length) : validE I S nx out = 1 := by
  unfold validE; rw [if_neg h, if_neg h0, if_neg (by omega), if_neg h2, if_pos h3]
theorem valid_rows {I S : Int} {nx out : List (List Int)} (h : ¬ (I < 1 ∨ 64 < I)) (h0 : nx.length ≠ 0) (h1 : nx.length ≤ 128) (h2 : ¬ (S < 0 ∨ (nx.length : Int) ≤ S)) (h3 : out.length = nx.length) :
    validE I S nx out = firstE (rowsE I.toNat nx out) nx.length := by
  unfold validE; rw [if_neg h, if_neg h0, if_neg (by omega), if_neg h2, if_neg (by omega)]
/-- what a valid machine is -/
structure Ok (k S : Nat) (nx out : List (List Int)) : Prop where
  k1 : 1 ≤ k
  k64 : k ≤ 64
  n0 : 0 < nx.length
  n128 : nx.length ≤ 128
  s : S < nx.length
  o : out.length = nx.length
  rowN : ∀ s, s < nx.length → (nx.getD s []).length = k
  rowO : ∀ s, s < nx.length → (out.getD s []).length = k
  cell : ∀ s a, s < nx.length → a < k → okC nx.length ((nx.getD s []).getD a 0) ((out.getD s []).getD a 0)
theorem ok_of {I S : Int} {nx out : List (List Int)} (h : validE I S nx out = 0) : ∃ k s : Nat, I = k ∧ S = s ∧ Ok k s nx out := by
  unfold validE at h
  by_cases h1 : I < 1 ∨ 64 < I
  · rw [if_pos h1] at h; omega
  rw [if_neg h1] at h
  by_cases h2 : nx.length = 0
  · rw [if_pos h2] at h; omega
  rw [if_neg h2] at h
  by_cases h3 : 128 < nx.length
  · rw [if_pos h3] at h; omega
  rw [if_neg h3] at h
  by_cases h4 : S < 0 ∨ (nx.length : Int) ≤ S
  · rw [if_pos h4] at h; omega
  rw [if_neg h4] at h
  by_cases h5 : out.length ≠ nx.length
  · rw [if_pos h5] at h; omega
  rw [if_neg h5] at h
  obtain ⟨k, rfl⟩ : ∃ k : Nat, I = k := ⟨I.toNat, by omega⟩
  obtain ⟨s, rfl⟩ : ∃ k : Nat, S = k := ⟨S.toNat, by omega⟩
  have hr := firstE_of_zero h
  have hrow : ∀ s, s < nx.length → (nx.getD s []).length = k ∧ (out.getD s []).length = k ∧ ∀ a, a < k → okC nx.length ((nx.getD s []).getD a 0) ((out.getD s []).getD a 0) := by
    intro s hs
    have e := hr s hs
    unfold rowsE rowE at e
    simp only [Int.toNat_natCast] at e
    by_cases hl : (nx.getD s []).length = k ∧ (out.getD s []).length = k
    · rw [if_pos hl] at e
      refine ⟨hl.1, hl.2, fun a ha => ?_⟩
      have e2 := firstE_of_zero e a ha
      unfold cellE at e2
      by_cases ho : okC nx.length ((nx.getD s []).getD a 0) ((out.getD s []).getD a 0)
      · exact ho
      · rw [if_neg ho] at e2; omega
    · rw [if_neg hl] at e; omega
  exact ⟨k, s, rfl, rfl, by omega, by omega, by omega, by omega, by omega, by omega, fun s hs => (hrow s hs).1, fun s hs => (hrow s hs).2.1, fun s a hs ha => (hrow s hs).2.2 a ha⟩
theorem Ok.valid {k S : Nat} {nx out : List (List Int)} (h : Ok k S nx out) : validE k S nx out = 0 := by
  have a1 := h.k1
  have a2 := h.k64
  have a3 := h.n0
  have a4 := h.n128
  have a5 := h.s
  rw [valid_rows (by omega) (by omega) (by omega) (by omega) h.o]
  refine firstE_zero fun s hs => ?_
  unfold rowsE
  simp only [Int.toNat_natCast]
  rw [row_cells (h.rowN s hs) (h.rowO s hs)]
  refine firstE_zero fun a ha => ?_
  exact cell_ok rfl rfl (h.cell s a hs ha)
end Go.Proofs.Ytaoebjabdejpoaa.Mea
