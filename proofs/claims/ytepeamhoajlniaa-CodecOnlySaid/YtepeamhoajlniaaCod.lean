/- The plain law of the codec (chapter 05): bytes are natural numbers below 256. -/
namespace Go.Proofs.Ytepeamhoajlniaa
namespace Cod

/-- the number that stands for n -/
def zig (n : Int) : Nat := if n < 0 then (2 * (-n - 1) + 1).toNat else (2 * n).toNat
def unzig (u : Nat) : Int := if u % 2 = 1 then -((u / 2 : Nat) : Int) - 1 else ((u / 2 : Nat) : Int)
theorem unzig_zig (n : Int) : unzig (zig n) = n := by
  unfold unzig zig
  by_cases h : n < 0
  · rw [if_pos h]
    have : (2 * (-n - 1) + 1).toNat % 2 = 1 := by omega
    rw [if_pos this]; omega
  · rw [if_neg h]
    have : ¬ (2 * n).toNat % 2 = 1 := by omega
    rw [if_neg this]; omega
theorem zig_unzig (u : Nat) : zig (unzig u) = u := by
  unfold unzig zig
  by_cases h : u % 2 = 1
  · rw [if_pos h, if_pos (by omega)]; omega
  · rw [if_neg h, if_neg (by omega)]; omega
theorem zig_lt {n : Int} (h1 : -9223372036854775808 ≤ n) (h2 : n ≤ 9223372036854775807) : zig n < 18446744073709551616 := by
  unfold zig; split <;> omega

/-- the bytes of a number -/
def enc (u : Nat) : List Nat := if u < 128 then [u] else (u % 128 + 128) :: enc (u / 128)
termination_by u
decreasing_by omega
theorem enc_lo {u : Nat} (h : u < 128) : enc u = [u] := by rw [enc, if_pos h]
theorem enc_hi {u : Nat} (h : ¬ u < 128) : enc u = (u % 128 + 128) :: enc (u / 128) := by rw [enc, if_neg h]

/-- what the bytes say; err is 0, 4 or 5 -/
structure Got (α : Type) where
  val : α
  size : Nat
  err : Int
/-- a number out of bytes: a is how many bytes it may still have (0: too many) -/
def rd : Nat → List Nat → Option (Nat × Nat)
  | _, [] => none
  | 0, _ :: _ => none
  | a + 1, x :: xs => if x < 128 then some (x, 1) else (rd a xs).map fun r => (x % 128 + 128 * r.1, r.2 + 1)
/-- how many bytes lead on (at most m) -/
def lead : Nat → List Nat → Nat
  | 0, _ => 0
  | _ + 1, [] => 0
  | m + 1, x :: xs => if x < 128 then 0 else lead m xs + 1
theorem lead_le (m : Nat) (b : List Nat) : lead m b ≤ m := by
  induction m generalizing b with
  | zero => cases b <;> simp [lead]
  | succ m ih =>
    cases b with
    | nil => simp [lead]
    | cons x xs => unfold lead; have := ih xs; split <;> omega
theorem lead_len (m : Nat) (b : List Nat) : lead m b ≤ b.length := by
  induction m generalizing b with
  | zero => cases b <;> simp [lead]
  | succ m ih =>
    cases b with
    | nil => simp [lead]
    | cons x xs => unfold lead; have := ih xs; simp only [List.length_cons]; split <;> omega
theorem lead_hi (m : Nat) (b : List Nat) {i : Nat} (h : i < lead m b) : 128 ≤ b.getD i 0 := by
  induction m generalizing b i with
  | zero => cases b <;> simp [lead] at h
  | succ m ih =>
    cases b with
    | nil => simp [lead] at h
    | cons x xs =>
      unfold lead at h
      by_cases hx : x < 128
      · rw [if_pos hx] at h; omega
      · rw [if_neg hx] at h
        cases i with
        | zero => simpa using (by omega : 128 ≤ x)
        | succ i => have := ih xs (i := i) (by omega); simpa using this
theorem lead_lo (m : Nat) (b : List Nat) (h1 : lead m b < m) (h2 : lead m b < b.length) : b.getD (lead m b) 0 < 128 := by
  induction m generalizing b with
  | zero => omega
  | succ m ih =>
    cases b with
    | nil => simp [lead] at h2
    | cons x xs =>
      unfold lead at h1 h2 ⊢
      by_cases hx : x < 128
      · rw [if_pos hx]; simpa using hx
      · rw [if_neg hx] at h1 h2 ⊢
        have := ih xs (by omega) (by simp only [List.length_cons] at h2; omega)
        simpa using this
/-- the value of the first n bytes -/
def dec : Nat → List Nat → Nat
  | 0, _ => 0
  | _ + 1, [] => 0
  | n + 1, x :: xs => x % 128 + 128 * dec n xs
theorem dec_lt (n : Nat) (b : List Nat) : dec n b < 128 ^ n := by
  induction n generalizing b with
  | zero => simp [dec]
  | succ n ih =>
    cases b with
    | nil => unfold dec; exact Nat.pos_of_ne_zero (by simp)
    | cons x xs => unfold dec; have := ih xs; rw [Nat.pow_succ]; omega
/-- TakeInt -/
def tk (b : List Nat) : Got Int :=
  let k := lead 10 b
  if k = 10 then ⟨0, 0, 5⟩
  else if k = b.length then ⟨0, 0, 4⟩
  else if (k = 9 ∧ 1 < b.getD k 0) ∨ (0 < k ∧ b.getD k 0 = 0) then ⟨0, 0, 5⟩
  else ⟨unzig (dec (k + 1) b), k + 1, 0⟩
/-- n times the parser p -/
def many {α : Type} (p : List Nat → Got α) : Nat → List Nat → Got (List α)
  | 0, _ => ⟨[], 0, 0⟩
  | n + 1, b => if (p b).err = 0 then
      (let r := many p n (b.drop (p b).size)
       if r.err = 0 then ⟨(p b).val :: r.val, (p b).size + r.size, 0⟩ else ⟨[], 0, r.err⟩)
      else ⟨[], 0, (p b).err⟩
/-- a length, then so many -/
def lst {α : Type} (p : List Nat → Got α) (b : List Nat) : Got (List α) :=
  if (tk b).err = 0 then
    if (tk b).val < 0 then ⟨[], 0, 5⟩
    else
      (let r := many p (tk b).val.toNat (b.drop (tk b).size)
       if r.err = 0 then ⟨r.val, (tk b).size + r.size, 0⟩ else ⟨[], 0, r.err⟩)
  else ⟨[], 0, (tk b).err⟩
def tkL (b : List Nat) : Got (List Int) := lst tk b
def tkW (b : List Nat) : Got (List (List Int)) := lst tkL b
def put (n : Int) : List Nat := enc (zig n)
def cat {α : Type} (e : α → List Nat) (l : List α) : List Nat := put l.length ++ l.flatMap e
def putL (l : List Int) : List Nat := cat put l
def putW (l : List (List Int)) : List Nat := cat putL l

/-! ### what is put is taken back -/
theorem enc_ne (u : Nat) : 1 ≤ (enc u).length := by
  by_cases h : u < 128
  · rw [enc_lo h]; simp
  · rw [enc_hi h]; simp
theorem enc_lead (u : Nat) (rest : List Nat) (m : Nat) (hm : (enc u).length ≤ m) : lead m (enc u ++ rest) = (enc u).length - 1 := by
  induction u using Nat.strongRecOn generalizing m with
  | _ u ih =>
    by_cases h : u < 128
    · rw [enc_lo h] at hm ⊢
      obtain ⟨m, rfl⟩ : ∃ j, m = j + 1 := ⟨m - 1, by simp at hm; omega⟩
      simp [lead, h]
    · rw [enc_hi h] at hm ⊢
      have h1 := enc_ne (u / 128)
      obtain ⟨m, rfl⟩ : ∃ j, m = j + 1 := ⟨m - 1, by simp at hm; omega⟩
      have h2 := ih (u / 128) (by omega) m (by simp at hm; omega)
      simp only [List.cons_append, lead, List.length_cons]
      rw [if_neg (by omega), h2]; omega
theorem enc_dec (u : Nat) (rest : List Nat) : dec (enc u).length (enc u ++ rest) = u := by
  induction u using Nat.strongRecOn with
  | _ u ih =>
    by_cases h : u < 128
    · rw [enc_lo h]; simp [dec]; omega
    · rw [enc_hi h]
      have h2 := ih (u / 128) (by omega)
      simp only [List.cons_append, dec, List.length_cons]
      rw [h2]; omega
theorem enc_last (u : Nat) (rest : List Nat) : (enc u ++ rest).getD ((enc u).length - 1) 0 = u / 128 ^ ((enc u).length - 1) ∧ (1 < (enc u).length → 0 < u / 128 ^ ((enc u).length - 1)) := by
  induction u using Nat.strongRecOn with
  | _ u ih =>
    by_cases h : u < 128
    · rw [enc_lo h]; simp
    · rw [enc_hi h]
      have h1 := enc_ne (u / 128)
      obtain ⟨h2, h3⟩ := ih (u / 128) (by omega)
      obtain ⟨l, hl⟩ : ∃ l, (enc (u / 128)).length = l + 1 := ⟨(enc (u / 128)).length - 1, by omega⟩
      rw [hl] at h2 h3
      simp only [List.cons_append, List.length_cons, hl, Nat.add_sub_cancel] at h2 h3 ⊢
      rw [List.getD_cons_succ, h2, Nat.div_div_eq_div_mul, Nat.pow_succ, Nat.mul_comm 128]
      refine ⟨rfl, fun _ => ?_⟩
      by_cases hl0 : l = 0
      · subst hl0; omega
      · have := h3 (by omega)
        rwa [Nat.div_div_eq_div_mul, Nat.mul_comm 128] at this
theorem enc_len (m u : Nat) (hm : 1 ≤ m) (h : u < 128 ^ m) : (enc u).length ≤ m := by
  induction m generalizing u with
  | zero => omega
  | succ m ih =>
    by_cases h1 : u < 128
    · rw [enc_lo h1]; simp
    · rw [enc_hi h1]
      have hm1 : 1 ≤ m := by
        cases m with
        | zero => simp at h; omega
        | succ m => omega
      have := ih (u / 128) hm1 (by rw [Nat.pow_succ] at h; omega)
      simp; omega
theorem enc_len10 {u : Nat} (h : u < 18446744073709551616) : (enc u).length ≤ 10 := enc_len 10 u (by omega) (by omega)
theorem enc_lt (u : Nat) : ∀ x ∈ enc u, x < 256 := by
  induction u using Nat.strongRecOn with
  | _ u ih =>
    by_cases h : u < 128
    · rw [enc_lo h]; intro x hx; simp at hx; omega
    · rw [enc_hi h]; intro x hx
      rcases List.mem_cons.1 hx with rfl | hx
      · omega
      · exact ih _ (by omega) x hx
theorem tk_enc {u : Nat} (hu : u < 18446744073709551616) (rest : List Nat) : tk (enc u ++ rest) = ⟨unzig u, (enc u).length, 0⟩ := by
  have h1 := enc_ne u
  have h2 := enc_len10 hu
  have h3 := enc_lead u rest 10 h2
  obtain ⟨h4, h5⟩ := enc_last u rest
  have h6 := enc_dec u rest
  unfold tk
  simp only [h3]
  rw [if_neg (by omega), if_neg (by simp only [List.length_append]; omega), if_neg]
  · rw [show (enc u).length - 1 + 1 = (enc u).length by omega, h6]
  · rw [h4]
    rintro (⟨h7, h8⟩ | ⟨h7, h8⟩)
    · rw [h7] at h8; omega
    · have := h5 (by omega); omega
theorem lead_take (m c : Nat) (b : List Nat) (h : c ≤ lead m b) : lead m (b.take c) = c := by
  induction m generalizing c b with
  | zero => have : c = 0 := by cases b <;> simp [lead] at h <;> exact h
            subst this; cases b <;> simp [lead]
  | succ m ih =>
    cases b with
    | nil => have : c = 0 := by simp [lead] at h; exact h
             subst this; simp [lead]
    | cons x xs =>
      cases c with
      | zero => simp [lead]
      | succ c =>
        unfold lead at h
        by_cases hx : x < 128
        · rw [if_pos hx] at h; omega
        · rw [if_neg hx] at h
          have := ih c xs (by omega)
          rw [List.take_succ_cons, lead, if_neg hx, this]
theorem tk_cut {u : Nat} (hu : u < 18446744073709551616) {c : Nat} (hc : c < (enc u).length) : (tk ((enc u).take c)).err = 4 := by
  have h2 := enc_len10 hu
  have h3 := enc_lead u [] 10 h2
  rw [List.append_nil] at h3
  have h4 := lead_take 10 c (enc u) (by omega)
  unfold tk
  simp only [h4]
  rw [if_neg (by omega), if_pos (by rw [List.length_take]; omega)]
theorem lead_cons (m : Nat) (x : Nat) (xs : List Nat) : lead (m + 1) (x :: xs) = if x < 128 then 0 else lead m xs + 1 := rfl
theorem dec_enc (m k : Nat) (b : List Nat) (hb : ∀ x ∈ b, x < 256) (h : lead m b = k) (hk : k < m) (hl : k < b.length) (h0 : 0 < k → b.getD k 0 ≠ 0) :
    enc (dec (k + 1) b) = b.take (k + 1) ∧ (0 < k → 0 < dec (k + 1) b) := by
  induction m generalizing k b with
  | zero => omega
  | succ m ih =>
    cases b with
    | nil => simp at hl
    | cons x xs =>
      rw [lead_cons] at h
      by_cases hx : x < 128
      · rw [if_pos hx] at h
        subst h
        refine ⟨?_, by omega⟩
        have : dec (0 + 1) (x :: xs) = x := by simp [dec]; omega
        rw [this, enc_lo hx]; simp
      · rw [if_neg hx] at h
        obtain ⟨k, rfl⟩ : ∃ j, k = j + 1 := ⟨k - 1, by omega⟩
        have hx2 := hb x (by simp)
        have hl' : k < xs.length := by simp only [List.length_cons] at hl; omega
        have h0' : xs.getD k 0 ≠ 0 := by have := h0 (by omega); simpa using this
        obtain ⟨h1, h2⟩ := ih k xs (fun y hy => hb y (by simp [hy])) (by omega) (by omega) hl' (fun _ => h0')
        have hp : 0 < dec (k + 1) xs := by
          by_cases hk0 : 0 < k
          · exact h2 hk0
          · obtain rfl : k = 0 := by omega
            cases xs with
            | nil => simp at hl'
            | cons y ys =>
              have hl0 : lead m (y :: ys) = 0 := by omega
              have hy : y < 128 := by
                cases m with
                | zero => omega
                | succ m => rw [lead_cons] at hl0; split at hl0 <;> omega
              have hy0 : y ≠ 0 := by simpa using h0'
              simp [dec]; omega
        have hd : dec (k + 1 + 1) (x :: xs) = x % 128 + 128 * dec (k + 1) xs := rfl
        rw [hd]
        refine ⟨?_, fun _ => by omega⟩
        rw [enc_hi (by omega), show (x % 128 + 128 * dec (k + 1) xs) / 128 = dec (k + 1) xs by omega, h1, List.take_succ_cons,
          show (x % 128 + 128 * dec (k + 1) xs) % 128 + 128 = x by omega]
theorem tk_only (b : List Nat) (hb : ∀ x ∈ b, x < 256) (h : (tk b).err = 0) : put (tk b).val = b.take (tk b).size ∧ 1 ≤ (tk b).size ∧ (tk b).size ≤ b.length := by
  have hlen := lead_len 10 b
  have hle := lead_le 10 b
  unfold tk at h ⊢
  obtain ⟨k, hk⟩ : ∃ k, k = lead 10 b := ⟨_, rfl⟩
  rw [← hk] at hlen hle h ⊢
  simp only at h ⊢
  by_cases h1 : k = 10
  · rw [if_pos h1] at h; simp at h
  · rw [if_neg h1] at h ⊢
    by_cases h2 : k = b.length
    · rw [if_pos h2] at h; simp at h
    · rw [if_neg h2] at h ⊢
      by_cases h3 : (k = 9 ∧ 1 < b.getD k 0) ∨ (0 < k ∧ b.getD k 0 = 0)
      · rw [if_pos h3] at h; simp at h
      · rw [if_neg h3] at h ⊢
        obtain ⟨h4, _⟩ := dec_enc 10 k b hb hk.symm (by omega) (by omega) (fun hp h0 => h3 (.inr ⟨hp, h0⟩))
        refine ⟨?_, by simp, by simp; omega⟩
        simp only [put, zig_unzig]; exact h4
theorem tk_bad (b : List Nat) (h : (tk b).err ≠ 0) : (tk b).val = 0 ∧ (tk b).size = 0 := by
  unfold tk at h ⊢
  simp only at h ⊢
  by_cases h1 : lead 10 b = 10
  · rw [if_pos h1]; exact ⟨rfl, rfl⟩
  · rw [if_neg h1] at h ⊢
    by_cases h2 : lead 10 b = b.length
    · rw [if_pos h2]; exact ⟨rfl, rfl⟩
    · rw [if_neg h2] at h ⊢
      by_cases h3 : (lead 10 b = 9 ∧ 1 < b.getD (lead 10 b) 0) ∨ (0 < lead 10 b ∧ b.getD (lead 10 b) 0 = 0)
      · rw [if_pos h3]; exact ⟨rfl, rfl⟩
      · rw [if_neg h3] at h; exact absurd rfl h
end Cod
end Go.Proofs.Ytepeamhoajlniaa
